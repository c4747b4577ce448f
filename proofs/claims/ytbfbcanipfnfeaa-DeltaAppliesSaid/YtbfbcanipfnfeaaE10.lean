import Derived.Test.YtbfbcanipfnfeaaE9
set_option linter.unusedVariables false
set_option linter.unusedSimpArgs false
namespace Go.Ev
open Go
variable{P:Program}{β:Bij}{ω:Opq}{K:Nat→Prop}{w0 w:World}{h h':Heap}
theorem bl5{s:Nat}{y:AV}{l:List AV}(e:a92 s 0 y h=some l):l=[]:=by
 cases y<;>simp only[a92,reduceCtorEq]at e<;>first
  |(simpa using e)
  |(split at e
    ·replace e:=(M7 e).2;simpa using e
    ·cases e)
theorem ce0{ts:Array TypeId}{ty:TypeId}{x y a:AV}{vx vy:Value}(r:HR β ω K w0 h w)(e:cw1 P ts x y h=some (a,h'))(rx:VR β ω x vx)(ry:VR β ω y vy):
 Ok P β ω K w0 w h (Builtin.copy_ ts ty #[vx,vy]) a h':=by
 unfold cw1 at e
 split at e
 ·rename_i elem ht
  simp only[j6]at ht
  obtain⟨t,h0,ht⟩:=ht
  split at e
  ·rename_i s lx ly hs hlx hly
   simp only[j6]at e
   obtain⟨new,aF3,e⟩:=e
   obtain⟨us,u1,u2,u3⟩:=af7 (P:=P) r aF3 ry
   have hrun: ∀(base:Option Addr) (c:Nat),vx= .slice base lx c→(Builtin.copy_ ts ty #[vx,vy]).run P w=
    ((match base with|some a=>storeCells a us|none=>pure ():Sem Unit)>>=fun _=>pure (goInt (Nat.min ly lx:Nat))).run P w:=by
    intro base c hv
    subst hv
    have h3:=u3 w rfl
    have h4:=b06 (P:=P) hly ry w
    cases base<;>simp only[Builtin.copy_,h0,Sem.run_bind,M9 ht,O2 hs,h4,h3,Result.andThen_ok,C5,List.getElem?_cons_zero,List.getElem?_cons_succ,Sem.run_pure]
   have nil:lx=0→us=[]:=by
    intro hz;subst hz
    have:Nat.min ly 0=0:=Nat.min_zero ly
    rw[this]at aF3
    rw[bl5 aF3]at u1;exact u1
   cases x<;>simp only[cp1,reduceCtorEq,j4,a8,d7]at e
   ·obtain⟨rfl,rfl⟩:=e
    exact⟨β,_,w,by rw[hrun none 0 (by simpa[VR,show lx=0 by simpa[ay9]using hlx.symm]using rx)];rfl,rfl,r,.refl _ _⟩
   ·rename_i b o len cap
    obtain⟨h1,he,rfl,rfl⟩:=e
    simp only[ay9,a8]at hlx;subst hlx
    simp only[VR]at rx;obtain⟨L,hL,rx⟩:=rx
    obtain⟨p1,p2,p3⟩:=Y1 (P:=P) r he hL u1
    exact⟨β,_,_,by rw[hrun _ _ rx,Sem.run_bind,p1];rfl,rfl,p2,p3⟩
   ·rename_i b o len cap
    obtain⟨h1,he,rfl,rfl⟩:=e
    simp only[ay9,a8]at hlx;subst hlx
    simp only[VR]at rx;obtain⟨L,c,hL,_,rx⟩:=rx
    obtain⟨p1,p2,p3⟩:=Y1 (P:=P) r he hL u1
    exact⟨β,_,_,by rw[hrun _ _ rx,Sem.run_bind,p1];rfl,rfl,p2,p3⟩
   ·obtain⟨rfl,rfl⟩:=e
    simp only[ay9,a8]at hlx;subst hlx
    obtain rfl:=nil rfl
    simp only[VR]at rx;obtain⟨L,ad,c,_,rx,_⟩:=rx
    exact⟨β,_,w,by rw[hrun (some ad) c rx];rfl,rfl,r,.refl _ _⟩
   ·obtain⟨rfl,rfl⟩:=e
    simp only[ay9,a8]at hlx;subst hlx
    obtain rfl:=nil rfl
    simp only[VR]at rx;obtain⟨ad,rx⟩:=rx
    exact⟨β,_,w,by rw[hrun (some ad) 0 rx];rfl,rfl,r,.refl _ _⟩
  ·cases e
 ·cases e
theorem bw0(r:HR β ω K w0 h w){elem l c s:Nat}{cs:List AV}{us:Array Value}(ho:cs.all AV.one=true)(rv:VRs β ω cs us.toList):
 ∃β',VR β' ω (.sl h.next 0 l c) (.slice (some ⟨w.heap.size,0,none⟩) l c)∧HR β' ω K w0 (h.new (.cells elem 0 cs)) (w.alloc (.cells us elem))∧St h β (h.new (.cells elem 0 cs)) β':=by
 have hl:=rv.length
 simp only[Array.length_toList]at hl
 obtain⟨p1,p2⟩:=ba5 r elem cs us ho rv us.size (b9 _) (by omega)
 exact⟨_,⟨_,Bij.add_self _ _ _,rfl⟩,p1,p2⟩
theorem ab1(f:Nat→Value):(Array.range 0).map f= #[]:=by simp[Array.range]
theorem aS7{t n:Nat}{parts:List (Nat×AV)}{vparts:Array (Nat×Value)}{a:AV}(r:HR β ω K w0 h w)(e:X9 P t n parts h=some (a,h'))
 (hm:parts.map (·.1)=vparts.toList.map (·.1)) (hv:VRs β ω (parts.map (·.2)) (vparts.toList.map (·.2))):Ok P β ω K w0 w h (Instr.buildSlice t n vparts) a h':=by
 unfold X9 at e
 split at e
 ·rename_i elem ht
  split at e
  ·rename_i s z hs hz
   obtain⟨hc,e⟩:=M7 e
   obtain⟨hc,c3⟩:=M6 hc
   obtain⟨c1,c2⟩:=M6 hc
   rw[M8]at c1
   rw[N9]at c2
   rw[N1]at c3
   split at e
   ·rename_i cs hf
    obtain⟨ho,e⟩:=M7 e
    simp only[a8,d7]at e
    obtain⟨rfl,rfl⟩:=e
    obtain⟨zv,hzv,hzr⟩:=Y4 hz
    have rz:VRs β ω z.cells zv.cells.toList:=VR.cells' (a19 hzv) (ab0 hzv)
    have hzs:zv.cells.size=s:=by have:=rz.length;simpa[c1]using this
    have rr:=aw4 rz (by omega) n
    rw[hzs]at rr
    obtain⟨cells',e1,e2,e3⟩:=aH7 (placeV:=fun i=>some (i*s,s)) (fun i x hx=>hx) parts vparts.toList _ cs _ hf rr hm hv
    obtain⟨β',q1,q2,q3⟩:=bw0 (s:=s) (elem:=elem) (l:=n) (c:=n) r ho e2
    refine⟨β',_,_,?_,q1,q2,q3⟩
    have h1: ¬(n*s>2^24):=by omega
    by_cases hn0:n*s=0
    ·simp only[hzs,hn0]at e1
     simp only[Instr.buildSlice,Sem.run_bind,M9 ht,O2 hs,Result.andThen_ok,hn0,if_true,if_neg (show¬(0>2^24) by omega),Sem.run_pure]
     rw[ab1]at e1⊢
     rw[e1];rfl
    ·simp only[Instr.buildSlice,Sem.run_bind,M9 ht,O2 hs,Result.andThen_ok,if_neg h1,if_neg hn0,hzr,Sem.run_pure,hzs,e1]
     rfl
   ·cases e
  ·cases e
 ·cases e
theorem b08{t:Nat}{l c a:AV}{vl vc:Value}(r:HR β ω K w0 h w)(e:a05 P t l c h=some (a,h'))(rl:VR β ω l vl)(rc:VR β ω c vc):Ok P β ω K w0 w h (Instr.makeSlice t vl vc) a h':=by
 unfold a05 at e
 split at e
 ·rename_i elem k l k' c ht
  split at e
  ·rename_i l c s z i hl hc hs hz hi
   replace e:=M7 e
   obtain⟨hx,e⟩:=e
   obtain⟨hx,c6⟩:=M6 hx
   obtain⟨hx,c5⟩:=M6 hx
   obtain⟨hx,c4⟩:=M6 hx
   obtain⟨hx,c3⟩:=M6 hx
   obtain⟨c1,c2⟩:=M6 hx
   rw[N1]at c1 c2 c3
   rw[M8]at c4
   rw[N9]at c5
   simp only[a8,d7]at e
   obtain⟨rfl,rfl⟩:=e
   obtain rfl:=X5 hl
   obtain rfl:=X5 hc
   simp only[VR]at rl rc;subst rl rc
   obtain⟨zv,hzv,hzr⟩:=Y4 hz
   have rz:VRs β ω z.cells zv.cells.toList:=VR.cells' (a19 hzv) (ab0 hzv)
   have hzs:zv.cells.size=s:=by have:=rz.length;simpa[c4]using this
   have rr:=aw4 rz (by omega) c
   rw[hzs]at rr
   obtain⟨β',q1,q2,q3⟩:=bw0 (s:=s) (elem:=elem) (l:=l) (c:=c) r (b07 c6) rr
   refine⟨β',_,_,?_,q1,q2,q3⟩
   have w1:IntKind.i64.wrap (l:Int)=l:=aq8 _ _ (by show l<9223372036854775808;omega)
   have w2:IntKind.i64.wrap (c:Int)=c:=aq8 _ _ (by show c<9223372036854775808;omega)
   have hb:i.bytes*c≤1000*1000000:=D9 c3 c2
   have hcond:((decide ((c:Int)<0)||decide ((i.bytes:Int)*(c:Int)>2^48))||decide ((l:Int)<0)||decide ((l:Int)>(c:Int)))=false:=by
    have: ¬((i.bytes:Int)*(c:Int)>2^48):=by
     rw[←Int.natCast_mul];omega
    simp only[this]
    simp;omega
   by_cases hn0:c*s=0
   ·have hc0:c=0:=by rcases Nat.mul_eq_zero.1 hn0 with hh|hh<;>omega
    subst hc0
    obtain rfl:l=0:=by omega
    rw[B5,ab1]
    simp only[Instr.makeSlice,Sem.run_bind,M9 ht,Result.andThen_ok,asInt,asIntOf,Sem.run_pure,typeInfo,hi,run_program,w1,w2,hcond,i4,if_false,run_askRoom,Int.toNat_natCast,O2 hs,B5,if_true,ab1]
    rfl
   ·simp only[Instr.makeSlice,Sem.run_bind,M9 ht,Result.andThen_ok,asInt,asIntOf,Sem.run_pure,typeInfo,hi,run_program,w1,w2,hcond,if_neg hn0,i4,if_false,run_askRoom,Int.toNat_natCast,O2 hs,hzr,hzs]
    rfl
  ·cases e
 ·cases e
end Go.Ev
