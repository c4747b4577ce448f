import Derived.Test.YtbfbcanipfnfeaaE7
import Derived.Deep.Upon
set_option linter.unusedVariables false
set_option linter.unusedSimpArgs false
namespace Go.Ev
open Go
variable{P:Program}{β:Bij}{ω:Opq}{K:Nat→Prop}{w0 w:World}{h h':Heap}
def Ok(P:Program)(β:Bij)(ω:Opq)(K:Nat→Prop)(w0 w:World)(h:Heap)(m:Sem Value)(a:AV)(h':Heap):Prop:=
 ∃β' v w',m.run P w= .ok v w'∧VR β' ω a v∧HR β' ω K w0 h' w'∧St h β h' β'
theorem VR.cells'{a:AV}{v:Value}(r:VR β ω a v)(hn:a≠ .any):VRs β ω a.cells v.cells.toList:=by
 cases a with
 |tup vs=>obtain⟨xs,rfl,p⟩:=r;exact .one ⟨xs,rfl,p⟩
 |any=>exact absurd rfl hn
 |_=>exact VR.cells r rfl
theorem ab0{v:Value}{a:AV}(h:bi4 v=some a):a≠ .any:=by
 rintro rfl
 unfold bi4 at h
 split at h
 ·simp at h
 ·split at h<;>simp[AV.undef]at h
 ·have:=bH5 h;cases this
theorem cz5{a:AV}(h:a.cells.all AV.one=true):a≠ .any:=by
 rintro rfl;simp[AV.cells,AV.one]at h
theorem ba6{t:TypeId}{z:AV}(e:V5 P t=some z): ∃i v,P.info? t=some i∧i.zero=some v∧v.cells.size=z.cells.length∧ ∀(β:Bij) (ω:Opq),VRs β ω z.cells v.cells.toList:=by
 unfold V5 at e
 cases hi:P.info? t with
 |none=>simp[hi]at e
 |some i=>
  simp only[hi,Option.bind_some,j6]at e
  obtain⟨v,hv,hz⟩:=e
  have: ∀(β:Bij) (ω:Opq),VRs β ω z.cells v.cells.toList:=fun β ω=>VR.cells' (a19 hz) (ab0 hz)
  exact⟨i,v,rfl,hv,by have:=(this (fun _=>none) ⟨fun _=> .nilIface,fun _=> .vb false,fun _ _=> .vb false,fun _=>rfl,fun _=>false,fun _=>none⟩).length;simpa using this,this⟩
theorem b06{x:AV}{n:Nat}{v:Value}(e:ay9 x=some n)(rx:VR β ω x v)(w:World):(Builtin.lenOf v).run P w= .ok n w:=by
 cases x<;>simp only[ay9,a8,reduceCtorEq]at e<;>subst e<;>simp only[VR]at rx
 ·subst rx;simp[Builtin.lenOf,ByteArray.size]
 ·subst rx;rfl
 ·obtain⟨L,_,rfl⟩:=rx;rfl
 ·obtain⟨L,c,_,_,rfl⟩:=rx;rfl
 ·obtain⟨L,a,c,_,rfl,_⟩:=rx;rfl
 ·obtain⟨a,rfl⟩:=rx;rfl
theorem aH9: ∀(l:List UInt8),VRs β ω (l.map fun b=>AV.int .u8 b.toNat) (l.map fun b=>Value.int .u8 b.toNat)
 | []=> .nil
 |b::r=> .cons rfl (aH9 r)
theorem af7{s n:Nat}{x:AV}{l:List AV}{v:Value}(r:HR β ω K w0 h w)(e:a92 s n x h=some l)(rx:VR β ω x v):
 ∃us,VRs β ω l us∧l.all AV.one=true∧ ∀w':World,w'.heap=w.heap→(Builtin.firstCells s n v).run P w'= .ok us.toArray w':=by
 have row: ∀(b o:Nat) (L:Loc) (a:Addr) (c m:Nat),β b=some L→a=⟨L.blk,L.off+o,none⟩→v= .slice (some a) m c→
  (match h.get b with
   |some (.cells _ _ cs)=>bif Nat.ble (o+n*s) cs.length&&((cs.drop o).take (n*s)).all AV.one then some ((cs.drop o).take (n*s))else none
   |_=>none)=some l→
  ∃us,VRs β ω l us∧l.all AV.one=true∧ ∀w':World,w'.heap=w.heap→(Builtin.firstCells s n v).run P w'= .ok us.toArray w':=by
  intro b o L a c m hL ha hv e
  subst ha hv
  split at e
  ·rename_i el fz cs hg
   obtain⟨hc,e⟩:=M7 e
   obtain⟨hc,ho⟩:=M6 hc
   rw[N1]at hc
   simp only[a8]at e;subst e
   obtain⟨us,h1,h2,h3⟩:=W8 r hg hL hc
   refine⟨us,h1,ho,fun w' hw'=> ?_⟩
   refine run_firstCells_some w' s n _ m c us h2 (fun j u hj=> ?_)
   rw[U7]
   have:=h3 j u hj
   simp only[World.cell?]at this⊢
   rw[hw'];exact this
  ·cases e
 have nil: ∀(a:Option Addr) (c m:Nat),v= .slice a m c→n=0→ ∀w':World,(Builtin.firstCells s n v).run P w'= .ok (([]:List Value).toArray) w':=by
  intro a c m hv hn w'
  subst hv hn
  cases a with
  |none=>rfl
  |some a=>
   have:=run_firstCells_some (P:=P) w' s 0 a m c [] (by simp) (by simp)
   exact this
 cases x with
 |nils=>
  simp only[a92]at e
  obtain⟨hc,e⟩:=M7 e
  simp only[a8]at e;subst e
  simp only[VR]at rx
  exact⟨[],.nil,rfl,fun w' _=>nil _ _ _ rx (by simpa using hc) w'⟩
 |es b o sz=>
  simp only[a92]at e
  obtain⟨hc,e⟩:=M7 e
  simp only[a8]at e;subst e
  simp only[VR]at rx;obtain⟨L,a,c,_,rx,_⟩:=rx
  exact⟨[],.nil,rfl,fun w' _=>nil _ _ _ rx (by simpa using hc) w'⟩
 |es0=>
  simp only[a92]at e
  obtain⟨hc,e⟩:=M7 e
  simp only[a8]at e;subst e
  simp only[VR]at rx;obtain⟨a,rx⟩:=rx
  exact⟨[],.nil,rfl,fun w' _=>nil _ _ _ rx (by simpa using hc) w'⟩
 |str t=>
  simp only[a92,a8]at e;subst e
  simp only[VR]at rx;subst rx
  refine⟨_,aH9 _,i6.2 fun x hx=>by obtain⟨_,_,rfl⟩:=k9.1 hx;rfl,fun w' _=> ?_⟩
  simp only[Builtin.firstCells,Sem.run_pure,ByteArray.data_extract]
  congr 1
  apply y8
  simp
 |sl b o len cap=>
  simp only[VR]at rx;obtain⟨L,hL,rfl⟩:=rx
  exact row b o L _ _ _ hL rfl rfl e
 |us b o len sz=>
  simp only[VR]at rx;obtain⟨L,c,hL,_,rfl⟩:=rx
  exact row b o L _ _ _ hL rfl rfl e
 |_=>simp[a92]at e
theorem bH6(r:HR β ω K w0 h w)(elem:TypeId)(cs:List AV)(us:List Value)(tail:Array Value)(ho:cs.all AV.oneA=true)(rv:VRs β ω cs us)(ext:Nat)(he:ext=us.length+tail.size)(fz:Nat):
 HR (β.add h.next ⟨w.heap.size,0,ext⟩) ω K w0 (h.new (.cells elem fz cs)) (w.drew.alloc (.cells (us.toArray++tail) elem))∧St h β (h.new (.cells elem fz cs)) (β.add h.next ⟨w.heap.size,0,ext⟩):=by
 refine r.drew.new _ _ 0 ext ?_
 have hle:Le β (β.add h.next ⟨w.heap.size,0,ext⟩):=by
  intro b L hb
  simp only[Bij.add]
  by_cases e:b=h.next
  ·subst e;rw[r.fresh _ (b9 _)]at hb;cases hb
  ·rw[if_neg e];exact hb
 have hl:=rv.length
 refine⟨us.toArray++tail,0,0,us,rfl,by simp;omega,by simp only[];omega,ho,VRs.mono hle _ _ rv,fun i hi=> ?_,fun i _ _=>by omega,fun _=>rfl⟩
 rw[i3,D8 (by simp;omega)]
 simp
theorem HR.rename{w':World}(r:HR β ω K w0 h w)(b:Nat)(x0 x:Blk)(L L':Loc)(hg:h.get b=some x0)(hb:β b=some L)(hwm:h.wm≤b)(hbk:L'.blk=L.blk)
 (hother: ∀i,i≠L.blk→w'.heap[i]? =w.heap[i]?) (hsz:w'.heap.size=w.heap.size) (hos:w'.os=w.os) (htp:w'.tape=w.tape) (hout:w'.output=w.output) (hdr:w'.drawn=w.drawn)
 (hx:BR (β.add h.next L') ω L' w'.heap[L.blk]? x):HR (β.add h.next L') ω K w0 ((h.put b none).new x) w'∧St h β ((h.put b none).new x) (β.add h.next L'):=by
 have hlt:=r.lt b L hb
 have hbn:b<h.next:=by
  rcases d8 b h.next with hh|hh
  ·exact hh
  ·rw[r.fresh b hh]at hb;cases hb
 have a35: ∀b',((h.put b none).new x).get b'=if b'=h.next then(if h.next<65536 then some x else none)else if b'=b then none else h.get b':=by
  intro b'
  rw[Heap.get_new,Heap.next_put]
  split
  ·rfl
  ·rw[Heap.get_put];split
   ·split<;>rfl
   ·rfl
 have hle:Le β (β.add h.next L'):=by
  intro b' M hb'
  simp only[Bij.add]
  by_cases e:b'=h.next
  ·subst e;rw[r.fresh _ (b9 _)]at hb';cases hb'
  ·rw[if_neg e];exact hb'
 refine⟨⟨?_,?_,?_,?_,?_,r.kin,?_,?_,?_,hos.trans r.os,htp.trans r.tape,hout.trans r.out,by rw[hdr];exact r.dr⟩,⟨by simp,fun b' hb'=> ?_,fun b' hb' hn=> ?_,rfl⟩⟩
 ·intro b' y M hg' hb'
  rw[a35]at hg'
  simp only[Bij.add]at hb'
  by_cases e:b'=h.next
  ·rw[if_pos e]at hg' hb'
   simp only[a8]at hb';subst hb'
   split at hg'
   ·simp only[a8]at hg';subst hg'
    rw[hbk];exact hx
   ·cases hg'
  ·rw[if_neg e]at hg' hb'
   split at hg'
   ·cases hg'
   ·rename_i e2
    rw[hother _ (r.sep b' b y x0 M L hg' hg hb' hb e2 (.inr (.inl hwm)))]
    exact(r.blk b' y M hg' hb').mono hle
 ·intro b1 b2 y1 y2 M1 M2 g1 g2 m1 m2 hne hw
  rw[a35]at g1 g2
  simp only[Bij.add]at m1 m2
  by_cases e1:b1=h.next
  ·rw[if_pos e1]at m1;simp only[a8]at m1;subst m1
   by_cases e2:b2=h.next
   ·exact absurd (e1.trans e2.symm) hne
   ·rw[if_neg e2]at g2 m2
    split at g2
    ·cases g2
    ·rename_i e3
     rw[hbk];exact r.sep b b2 x0 y2 L M2 hg g2 hb m2 (Ne.symm e3) (.inl hwm)
  ·rw[if_neg e1]at g1 m1
   split at g1
   ·cases g1
   ·rename_i e3
    by_cases e2:b2=h.next
    ·rw[if_pos e2]at m2;simp only[a8]at m2;subst m2
     rw[hbk];exact r.sep b1 b y1 x0 M1 L g1 hg m1 hb e3 (.inr (.inl hwm))
    ·rw[if_neg e2]at g2 m2
     split at g2
     ·cases g2
     ·exact r.sep b1 b2 y1 y2 M1 M2 g1 g2 m1 m2 hne hw
 ·intro b' hb'
  simp only[Heap.next_new,Heap.next_put]at hb'
  simp only[Bij.add];rw[if_neg (by omega)];exact r.fresh b' (by omega)
 ·intro b' hb'
  simp only[Heap.next_new,Heap.next_put]at hb'
  rw[a35,if_neg (by omega),if_neg (by omega)];exact r.fget b' (by omega)
 ·intro b' M hb'
  rw[hsz]
  simp only[Bij.add]at hb'
  split at hb'
  ·simp only[a8]at hb';subst hb';rw[hbk];exact hlt
  ·exact r.lt b' M hb'
 ·intro i hi
  rw[hother i (fun e=>r.free b x0 L hg hwm hb (e▸hi))];exact r.keep i hi
 ·intro b' y M hg' hw' hb'
  rw[a35]at hg'
  simp only[Bij.add]at hb'
  by_cases e:b'=h.next
  ·rw[if_pos e]at hb';simp only[a8]at hb';subst hb'
   rw[hbk];exact r.free b x0 L hg hwm hb
  ·rw[if_neg e]at hg' hb'
   split at hg'
   ·cases hg'
   ·exact r.free b' y M hg' hw' hb'
 ·rw[hsz];exact r.size
 ·simp only[Bij.add];rw[if_neg (by omega)]
 ·left
  rw[a35,if_neg (by omega),if_neg]
  intro e;subst e;rw[hb]at hn;cases hn
end Go.Ev
