import Derived.Test.YtbfbcanipfnfeaaE12
set_option linter.unusedVariables false
set_option linter.unusedSimpArgs false
namespace Go.Ev
open Go
variable{P:Program}{β:Bij}{ω:Opq}{K:Nat→Prop}{w0 w:World}{h h':Heap}
theorem bV5{t:TypeId}{x a:AV}{vx:Value}(r:HR β ω K w0 h w)(e:bu2 P t x h=some (a,h'))(rx:VR β ω x vx):Ok P β ω K w0 w h (Instr.range t vx) a h':=by
 unfold bu2 at e
 split at e
 ·rename_i l ht
  simp only[a8,d7]at e
  obtain⟨rfl,rfl⟩:=e
  simp only[VR]at rx;subst rx
  obtain⟨p1,p2⟩:=r.new (.stringIter ⟨l.toArray⟩ 0) (.strIter l 0) 0 0 ⟨rfl,rfl⟩
  refine⟨_,.pointer (some ⟨w.heap.size,0,none⟩),_,?_,⟨_,Bij.add_self _ _ _,rfl⟩,p1,p2⟩
  simp only[Instr.range,Sem.run_bind,M9 ht,Result.andThen_ok,Sem.run_pure,run_newObj]
  rfl
 ·rename_i kt et ht
  simp only[a8,d7]at e
  obtain⟨rfl,rfl⟩:=e
  simp only[VR]at rx;subst rx
  obtain⟨p1,p2⟩:=r.new (.mapIter none 0 #[] 0) (.mapIter none 0 [] 0) 0 0 ⟨rfl,none,rfl,rfl⟩
  refine⟨_,.pointer (some ⟨w.heap.size,0,none⟩),_,?_,⟨_,Bij.add_self _ _ _,rfl⟩,p1,p2⟩
  simp only[Instr.range,Sem.run_bind,M9 ht,Result.andThen_ok,Sem.run_pure,run_newObj]
  rfl
 ·rename_i kt et b ht
  split at e
  ·rename_i es c hg
   simp only[a8,d7]at e
   obtain⟨rfl,rfl⟩:=e
   simp only[VR]at rx;obtain⟨L,hL,rfl⟩:=rx
   obtain⟨E,h1,h2⟩:=r.map hg hL
   have hle:Le β (β.add h.next ⟨w.heap.size,0,0⟩):=by
    intro b' M hb'
    simp only[Bij.add]
    by_cases e:b'=h.next
    ·subst e;rw[r.fresh _ (b9 _)]at hb';cases hb'
    ·rw[if_neg e];exact hb'
   obtain⟨p1,p2⟩:=r.new (.mapIter (some L.blk) c #[] c) (.mapIter (some b) c [] c) 0 0 ⟨rfl,some L.blk,rfl,L,hle _ _ hL,rfl⟩
   refine⟨_,.pointer (some ⟨w.heap.size,0,none⟩),_,?_,⟨_,Bij.add_self _ _ _,rfl⟩,p1,p2⟩
   simp only[Instr.range,Sem.run_bind,M9 ht,Result.andThen_ok,Sem.run_pure,run_newObj,O7 h1]
   rfl
  ·rename_i d ks vs l hg
   simp only[a8,d7]at e
   obtain⟨rfl,rfl⟩:=e
   simp only[VR]at rx;obtain⟨L,hL,rfl⟩:=rx
   obtain⟨E,c,h1,h2,h3⟩:=r.blk b _ L hg hL
   have hbn:b≠h.next:=by rintro rfl;rw[r.fresh _ (b9 _)]at hL;cases hL
   have hle:Le β (β.add h.next ⟨w.heap.size,0,c⟩):=by
    intro b' M hb'
    simp only[Bij.add]
    by_cases e:b'=h.next
    ·subst e;rw[r.fresh _ (b9 _)]at hb';cases hb'
    ·rw[if_neg e];exact hb'
   have hlt:b<h.next:=by
    rcases d8 b h.next with q|q
    ·exact q
    ·rw[r.fresh b q]at hL;cases hL
   obtain⟨p1,p2⟩:=r.new (.mapIter (some L.blk) c #[] c) (.mit b) 0 c ⟨rfl,L,hle _ _ hL,rfl⟩
   have hg2:(h.new (.mit b)).get b=some (.marr d ks vs l):=by rw[Heap.get_new,if_neg hbn];exact hg
   have hlim:=Heap.get_lim _ _ _ hg
   have p3:=p1.retell (y:= .mrg h.next d ks vs l) (h2:=(h.new (.mit b)).put b (some (.mrg h.next d ks vs l))) hg2 (.inr rfl) (fun M hM hbr=>by
    rw[hle _ _ hL,a8]at hM
    subst hM
    obtain⟨E',c',q1,q2,q3⟩:=hbr
    have:(w.alloc (.mapIter (some L.blk) c #[] c)).heap[L.blk]? =some (.map E c):=by rw[RowKit.Below.heap_alloc _ _ _ (r.lt b L hL)];exact h1
    rw[this]at q1
    cases q1
    exact⟨E,c,_,this,Bij.add_self _ _ _,rfl,q2,q3⟩) rfl rfl (fun z=>by rw[Heap.get_put,if_pos hlim])
   refine⟨_,.pointer (some ⟨w.heap.size,0,none⟩),_,?_,⟨_,Bij.add_self _ _ _,rfl⟩,p3,⟨by simp,p2.ext,fun b' hb' hn=> ?_,rfl⟩⟩
   ·simp only[Instr.range,Sem.run_bind,M9 ht,Result.andThen_ok,Sem.run_pure,run_newObj,O7 h1]
    rfl
   ·have:b'≠b:=by rintro rfl;rw[hL]at hn;cases hn
    rw[Heap.get_put,if_neg this]
    exact p2.unm b' hb' hn
  ·cases e
 ·cases e
theorem HR.iter{b since last:Nat}{m:Option Nat}{seen:List Nat}{L:Loc}(r:HR β ω K w0 h w)(hg:h.get b=some (.mapIter m since seen last))(hb:β b=some L):
 L.off=0∧ ∃m',w.heap[L.blk]? =some (.mapIter m' since seen.toArray last)∧IR β m m':=r.blk b _ L hg hb
theorem ao0{r since last:Nat}{m:Option Nat}{seen:Array Nat}(hb:w.heap[r]? =some (.mapIter m since seen last)):(getObj r).run P w= .ok (.mapIter m since seen last) w:=by simp[getObj,Sem.run,hb]
theorem bl6{r since last:Nat}{m:Option Nat}{seen:Array Nat}(o:Obj)(hb:w.heap[r]? =some (.mapIter m since seen last)):(setObj r o).run P w= .ok () (bV3 w r o):=by simp[setObj,Sem.run,hb,bV3]
theorem ERs.filter{es:List Ent}{m:List MapEntry}(r:ERs β ω es m)(p:Nat→Bool):ERs β ω (es.filter fun e=>p e.born) (m.filter fun e=>p e.born):=by
  induction r with
  |nil=>exact .nil
  | @cons e es k v m a b r ih=>
    simp only[y9]
    cases hp:p e.born with
    |true=>exact .cons a b ih
    |false=>exact ih
theorem ERs.all{es:List Ent}{m:List MapEntry}(r:ERs β ω es m)(p:Nat→Bool):m.all (fun e=>p e.born)=es.all (fun e=>p e.born):=by
  induction r with
  |nil=>rfl
  |cons _ _ _ ih=>simp[ih]
theorem ERs.any{es:List Ent}{m:List MapEntry}(r:ERs β ω es m)(p:Nat→Bool):m.any (fun e=>p e.born)=es.any (fun e=>p e.born):=by
  induction r with
  |nil=>rfl
  |cons _ _ _ ih=>simp[ih]
theorem ERs.get{es:List Ent}{m:List MapEntry}(r:ERs β ω es m): ∀(i:Nat) {x:MapEntry},m[i]? =some x→ ∃e,es[i]? =some e∧VR β ω e.key x.key∧VR β ω e.val x.val∧x.born=e.born:=by
 induction r with
 |nil=>intro i x hx;simp at hx
 | @cons e es k v m a b r ih=>
   intro i x hx
   cases i with
   |zero=>simp at hx;subst hx;exact⟨e,rfl,a,b,rfl⟩
   |succ i=>simp at hx;obtain⟨e',h1,h2⟩:=ih i hx;exact⟨e',by simpa using h1,h2⟩
def d87(P:Program)(β:Bij)(ω:Opq)(K:Nat→Prop)(w0 w:World)(h:Heap)(m:Sem Value):Res→Prop
 | .val a h'=>Ok P β ω K w0 w h m a h'
 | .choice l=> ∃x∈l,Ok P β ω K w0 w h m x.1 x.2
 | .enter _ _=>False
 | .need _ _ _=>False
 | .cho _ _ _ _=>False
 | .yield _ _=>False
 | .defer _=>False
 | .bad=>True
theorem ba8(l:List UInt8)(pos:Nat)(c:UInt8)(hc:l[pos]? =some c)(ha:c.toNat<128):Utf8.decode ⟨l.toArray⟩ pos=(c.toNat,1):=by
 have h0:((⟨l.toArray⟩:ByteArray).get! (pos+0))=c:=by
  show l.toArray[pos+0]! =c
  simp[hc]
 unfold Utf8.decode
 simp only[h0,if_pos ha]
theorem aV0{r pos:Nat}{s:ByteArray}(hb:w.heap[r]? =some (.stringIter s pos)):(getObj r).run P w= .ok (.stringIter s pos) w:=by simp[getObj,Sem.run,hb]
theorem bI1{r pos:Nat}{s:ByteArray}(o:Obj)(hb:w.heap[r]? =some (.stringIter s pos)):(setObj r o).run P w= .ok () (bV3 w r o):=by simp[setObj,Sem.run,hb,bV3]
theorem ce4{ty:TypeId}{b:Nat}{L:Loc}(r:HR β ω K w0 h w)(hL:β b=some L):d87 P β ω K w0 w h (Instr.next (.pointer (some ⟨L.blk,L.off+0,none⟩)) true ty) (cw2 b h (h.get b)):=by
 unfold cw2
 split
 ·rename_i l pos hg
  obtain⟨h0,h1⟩:=r.blk b _ L hg hL
  have hsz:(⟨l.toArray⟩:ByteArray).size=l.length:=by simp[ByteArray.size]
  unfold cQ8
  split
  ·rename_i hn
   have hp: ¬pos<l.length:=by have:=List.getElem?_eq_none_iff.1 hn;omega
   refine⟨β,.tuple #[.bool false],w,?_,⟨_,rfl,.one rfl⟩,r,.refl _ _⟩
   simp only[h0,Nat.add_zero,Instr.next,Sem.run_bind,aV0 h1,Result.andThen_ok,hsz,if_neg hp,Sem.run_pure]
  ·rename_i c hn
   cases hc:(Nat.ble h.wm b&&Nat.blt c.toNat 128)with
   |false=>trivial
   |true=>
    obtain⟨h2,h3⟩:=M6 hc
    rw[N1]at h2
    rw[N9]at h3
    have hp:pos<l.length:=(k6.1 hn).1
    obtain⟨p1,p2⟩:=r.set1 b _ (.strIter l (pos+1)) L (.stringIter ⟨l.toArray⟩ (pos+1)) hg hL h2 ⟨h0,rfl⟩
    refine⟨β,.tuple #[.bool true,.int .i64 pos,.int .i32 c.toNat],_,?_,⟨_,rfl,.cons rfl (.cons rfl (.one rfl))⟩,p1,p2⟩
    simp only[h0,Nat.add_zero,Instr.next,Sem.run_bind,aV0 h1,Result.andThen_ok,hsz,if_pos hp,ba8 l pos c hn h3,bI1 _ h1,Sem.run_pure]
    rfl
 ·trivial
theorem ce5{ty:TypeId}{it:AV}{vi:Value}{isS:Bool}(r:HR β ω K w0 h w)(ri:VR β ω it vi):d87 P β ω K w0 w h (Instr.next vi isS ty) (bO5 it isS h):=by
 unfold bO5
 split
 ·rename_i b
  simp only[VR]at ri;obtain⟨L,hL,rfl⟩:=ri
  exact ce4 r hL
 ·rename_i b
  simp only[VR]at ri;obtain⟨L,hL,rfl⟩:=ri
  split
  ·rename_i since seen last hg
   obtain⟨h0,m',h1,h2⟩:=r.iter hg hL
   simp only[IR]at h2;subst h2
   refine⟨β,.tuple #[.bool false],w,?_,⟨_,rfl,.one rfl⟩,r,.refl _ _⟩
   simp only[h0,Nat.add_zero,Instr.next,Sem.run_bind,ao0 h1,Result.andThen_ok,Sem.run_pure]
  ·rename_i m since seen last hg
   obtain⟨h0,m',h1,h2⟩:=r.iter hg hL
   simp only[IR]at h2;obtain⟨Lm,hLm,rfl⟩:=h2
   split
   ·rename_i es c hgm
    obtain⟨E,g1,g2⟩:=r.map hgm hLm
    cases hc:(Nat.ble h.wm b&& !(!seen.isEmpty&& !es.isEmpty&&es.all (fun e=>Nat.ble last e.born))&& !((a18 es seen).any (fun e=>Nat.ble since e.born)))with
    |false=>trivial
    |true=>
     obtain⟨hc,c3⟩:=M6 hc
     obtain⟨c1,c2⟩:=M6 hc
     rw[N1]at c1
     have hleft:=g2.filter (fun n=> !(seen.contains n))
     have hfil:(E.filter fun e=> !(seen.toArray.contains e.born)).toList=E.toList.filter fun e=> !(seen.contains e.born):=by simp
     have hguard:(!seen.toArray.isEmpty&& !E.isEmpty&&E.all (fun x=>decide (x.born≥last)))=false:=by
       have h3:=g2.all (fun n=>Nat.ble last n)
       have h4:E.all (fun x=>decide (x.born≥last))=es.all (fun e=>Nat.ble last e.born):=by
         rw[←h3,←Array.all_toList]
         congr 1
         funext x
         cases hh:Nat.ble last x.born with
         |true=>rw[N1]at hh;simpa using hh
         |false=>simp;rcases d8 x.born last with h5|h5;exact h5;rw[N1.2 h5]at hh;cases hh
       have h5:E.isEmpty=es.isEmpty:=by
        have:=g2.length
        cases es with
        |nil=>simp at this;subst this;rfl
        |cons=>simp at this;simp;intro hh;subst hh;simp at this
       have h6:seen.toArray.isEmpty=seen.isEmpty:=by cases seen<;>rfl
       rw[h4,h5,h6]
       cases hh:(!seen.isEmpty&& !es.isEmpty&&es.all fun e=>last.ble e.born)with
       |false=>rfl
       |true=>rw[hh]at c2;cases c2
     have hold: ∀x∈(E.filter fun e=> !(seen.toArray.contains e.born)).toList,x.born<since:=by
      intro x hx
      have h3:=hleft.any (fun n=>Nat.ble since n)
      rw[hfil]at hx
      have h4:(List.filter (fun e=> !(seen.contains e.born)) E.toList).any (fun e=>Nat.ble since e.born)=false:=by
       rw[h3];simpa[a18]using c3
      have h5:=C6.1 h4 x hx
      rcases d8 x.born since with h6|h6
      ·exact h6
      ·exact absurd (N1.2 h6) h5
     generalize hEl:(E.filter fun e=> !(seen.toArray.contains e.born))=left at hfil hold
     have aF3:left.filter (fun x=>decide (x.born≥since))= #[]:=by
       apply Array.filter_eq_empty_iff.2
       intro x hx
       have:=hold x (by simpa using hx)
       simp;omega
     have holdE:left.filter (fun x=>decide (x.born<since))=left:=by
       apply Array.filter_eq_self.2
       intro x hx
       have:=hold x (by simpa using hx)
       simpa using this
     rw[←hfil]at hleft
     simp only[cond_true]
     have hrun0: ∀(v:Value) (w':World),(do
      let candidates:=(if left.isEmpty then #[none]else #[])++left.map some
      match candidates[←choose (.mapNext candidates.size)]? with
      |some (some e)=>
       setObj L.blk (.mapIter (some Lm.blk) since (seen.toArray.push e.born) c)
       pure (.tuple #[.bool true,e.key,e.val])
      |some none=>pure (.tuple #[.bool false])
      |none=>stuck "Next: no such candidate" :Sem Value).run P w= .ok v w'→
      (Instr.next (.pointer (some ⟨L.blk,L.off+0,none⟩)) false ty).run P w= .ok v w':=by
      intro v w' hv
      simp only[h0,Nat.add_zero,Instr.next,Sem.run_bind,ao0 h1,Result.andThen_ok,O7 g1,hguard,i4,if_false,hEl,aF3,holdE,Array.append_empty]
      simp only[Sem.run_bind]at hv
      exact hv
     by_cases hne:left= #[]
     ·subst hne
      have hl0:a18 es seen=[]:=by
       have:=hleft.length;simp at this;exact v8 (by simpa[a18]using this.symm)
      rw[hl0]
      refine⟨β,.tuple #[.bool false],w,hrun0 _ _ ?_,⟨_,rfl,.one rfl⟩,r,.refl _ _⟩
      simp[Question.forced]
     ·have hpos:0<left.size:=Array.size_pos_iff.2 hne
      have key: ∀(i:Nat) (w1:World),i<left.size→HR β ω K w0 h w1→w1.heap=w.heap→ ∃x∈(a18 es seen).map (fun e=>((AV.tup [.bool true,e.key,e.val],h.put b (some (.mapIter (some m) since (seen++[e.born]) c))):AV×Heap)),
       ∃v w',(match left[i]? with
        |some e=>(do
         setObj L.blk (.mapIter (some Lm.blk) since (seen.toArray.push e.born) c)
         pure (.tuple #[.bool true,e.key,e.val]):Sem Value).run P w1
        |none=> .ok v w')= .ok v w'∧VR β ω x.1 v∧HR β ω K w0 x.2 w'∧St h β x.2 β:=by
       intro i w1 hi r1 hw1
       have hx:left.toList[i]? =some left[i]:=by simp[hi]
       obtain⟨e,e1,e2,e3,e4⟩:=hleft.get i hx
       refine⟨_,k9.2 ⟨e,B7 e1,rfl⟩,?_⟩
       obtain⟨p1,p2⟩:=r1.set1 b _ (.mapIter (some m) since (seen++[e.born]) c) L (.mapIter (some Lm.blk) since (seen.toArray.push left[i].born) c) hg hL c1
        ⟨h0,some Lm.blk,by rw[e4];simp,Lm,hLm,rfl⟩
       refine⟨.tuple #[.bool true,left[i].key,left[i].val],_,?_,⟨_,rfl,.cons rfl (.cons e2 (.one e3))⟩,p1,p2⟩
       have h1':w1.heap[L.blk]? =some (.mapIter (some Lm.blk) since seen.toArray last):=by rw[hw1];exact h1
       simp only[p7 hi,Sem.run_bind,bl6 _ h1',Result.andThen_ok,Sem.run_pure]
      have hE:left.isEmpty=false:=by simpa using hne
      have hcand:((if left.isEmpty then #[none]else #[])++left.map some:Array (Option MapEntry))=left.map some:=by rw[hE];simp
      have hsz:(left.map some).size=left.size:=by simp
      have hne2:a18 es seen≠[]:=by
       intro hh;have:=hleft.length;rw[show(es.filter fun e=> !(seen.contains e.born))=a18 es seen from rfl,hh]at this;simp at this;exact hne this
      have hres:d87 P β ω K w0 w h (Instr.next (.pointer (some ⟨L.blk,L.off+0,none⟩)) false ty) (.choice ((a18 es seen).map fun e=>(.tup [.bool true,e.key,e.val],h.put b (some (.mapIter (some m) since (seen++[e.born]) c))))):=by
       by_cases hf:(Question.mapNext left.size).forced=true
       ·obtain⟨x,hx,v,w',q1,q2,q3,q4⟩:=key 0 w hpos r rfl
        refine⟨x,hx,β,v,w',hrun0 v w' ?_,q2,q3,q4⟩
        simp only[hcand,hsz,Sem.run_bind,run_choose,hf,if_true,Result.andThen_ok]
        simp only[p7 hpos]at q1
        simp only[Array.getElem?_map,p7 hpos,Option.map_some]
        exact q1
       ·have hlt:(Question.mapNext left.size).cut (w.tape w.drawn (.mapNext left.size))<left.size:=Nat.mod_lt _ hpos
        obtain⟨x,hx,v,w',q1,q2,q3,q4⟩:=key _ w.drew hlt r.drew rfl
        refine⟨x,hx,β,v,w',hrun0 v w' ?_,q2,q3,q4⟩
        simp only[hcand,hsz,Sem.run_bind,run_choose,hf,i4,if_false,Result.andThen_ok]
        simp only[p7 hlt]at q1
        simp only[Array.getElem?_map,p7 hlt,Option.map_some]
        exact q1
      unfold cQ7
      split
      ·rename_i hh;exact absurd hh hne2
      ·exact hres
   ·trivial
  ·trivial
 ·trivial
end Go.Ev
