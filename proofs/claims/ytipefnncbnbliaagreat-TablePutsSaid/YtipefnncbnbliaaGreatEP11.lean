import Derived.Test.YtipefnncbnbliaaGreatEP0
set_option linter.unusedSimpArgs false
set_option linter.unusedVariables false
namespace Go.Ev.S9
open Go Go.Ev
variable{l:List Val}
def nC(l:List Val):Option Nat:=(List.range l.length).find? λi=>(gD l i).isSome
def Aw(l:List Val):Nat×List Val:=match nC l with
 |some i=>(1,[.vi (eB l i ((gD l i).getD 0)).length,.vb true,.vi i,.vl (eB l i ((gD l i).getD 0))])
 |none=>(0,[.vb false,.vi l.length])
def Co(a:List Val):Val:=cr (Aw (bV a 3).toL)
def nX:Nat->List Val->List Val
 |0,l=>l
 |f+1,l=>match nC l with
  |some i=>nX f (eB l i ((gD l i).getD 0))
  |none=>l
def ig(l:List Val):List Val:=nX l.length l
def e70(a:List Val):Val:=cr (0,[.vi (ig (bV a 2).toL).length,.vb false,.vl (ig (bV a 2).toL)])
theorem cB5(l:List Val){i j:Nat}(h:i<j): ∀n,(cn (iP l i j) n).length+((if i<n then 1 else 0)+(if j<n then 1 else 0))=n
 |0=>rfl
 |n+1=>by
  have ih:=cB5 l h n;show(cn (iP l i j) n++iP l i j n).length+_=_;unfold iP at ih⊢;grind
theorem Rs{i j:Nat}(h:i<j)(hj:j<l.length):(eB l i j).length+1=l.length:=by
 have:=cB5 l h l.length;grind[eB,List.length_append]
theorem KV{i:Nat}(h:nC l=some i): ∃j,gD l i=some j/\i<j/\j<l.length/\sr l i j=true:=by
 obtain⟨a,b,c⟩:=oI h;cases hj:gD l i with
 |none=>grind
 |some j=>
  obtain⟨a',b',c'⟩:=oI hj;grind
theorem c09(h:nC l=none){i j:Nat}(hij:i<j)(hj:j<l.length):sr l i j=false:=by
 have h1:=A6.1 h i (o8.2 (by omega));have h2:gD l i=none:=by simpa using h1
 have h3:=A6.1 h2 j (o8.2 hj);simpa[hij]using h3
variable{I:Opq}
theorem d4{x:Val}{j:Nat}:(I.upd 4000 [x,.vi j]).w 4000=x/\(I.upd 4000 [x,.vi j]).w 4001= .vi j:=⟨by rfl,by rfl⟩
theorem dG5(f858: ∀a,I.f 858 a=tR a)(f859: ∀a,I.f 859 a=om a)(h0:I.w 2000= .vi l.length)(h2:(I.w 2002).toL=l)(hn:l.length<=1000)(i:Nat)(hi:i<=l.length):
 W7 Pr (I.upd 4000 [.vb false,.vi i])=if i<l.length then(match gD l i with|some j=>some (2,[.vi (eB l i j).length,.vb true,.vi i,.vl (eB l i j)])|none=>some (0,[.vb false,.vi (i+1:Nat)]))else some (1,[.vb false,.vi i]):=by
 obtain⟨v0,v1⟩:=d4 (I:=I) (x:= .vb false) (j:=i);have w0:(I.upd 4000 [.vb false,.vi i]).w 2000= .vi l.length:=by grind[cN]
 have w2:((I.upd 4000 [.vb false,.vi i]).w 2002).toL=l:=by grind[cN]
 have wf: ∀a,(I.upd 4000 [.vb false,.vi i]).f 858 a=tR a:=λa=>by grind[eV]
 have wg: ∀a,(I.upd 4000 [.vb false,.vi i]).f 859 a=om a:=λa=>by grind[eV]
 generalize I.upd 4000 [.vb false,.vi i]=aa at*
 refine W8 (by simp_all[cB,cx,co,e9]) ?_;by_cases c:i<l.length
 .rw[e8 c];have inc:cg .add .i64 (i:Int) 1=((i+1:Nat):Int):=eH (n:=1000000) (by omega) (by omega);have di:bU aa (zi bg)= .vi (i+1:Nat):=by
   show Val.vi (cg .add .i64 (aa.w 4001).toI 1)=_;simp_all
  have d6:bU aa X6=cr (zP (.vb false) l i):=by
   show aa.f 858 [aa.w 4000,bU aa (zi bg),aa.w 2000,aa.w 2002,aa.w 4001]=_;rw[wf];show cr (zP (aa.w 4000) (aa.w 2002).toL (aa.w 4001).toI.toNat)=_;simp_all
  refine cy (by simp_all[cP,co,e9]) (Z3 (r:=zP (.vb false) l i) ?_ d6 ?_)
  .show cI _ [aa.w 4000,bU aa (zi bg)]=_;grind[dX7]
  .have hR:zP (.vb false) l i=match gD l i with
    |some j=>(1,[.vi (eB l i j).length,.vb true,.vi j,.vl (eB l i j)])
    |none=>(0,[.vb false,.vi l.length]):=rfl
   cases hj:gD l i with
   |none=>
    rw[hj]at hR;rw[hR]at d6⊢;show some (0,[bZ (bU aa X6).toL 1 0,bU aa (zi bg)])=_;rw[d6,di];rfl
   |some j=>
    rw[hj]at hR;rw[hR]at d6⊢;have e0:bU aa (zo X6 0)= .vi (eB l i j).length:=by show bZ (bU aa X6).toL 1 0=_;rw[d6];rfl
    have e1:bU aa (zo X6 1)= .vb true:=by show bZ (bU aa X6).toL 1 1=_;rw[d6];rfl
    have e3:bU aa (zo X6 3)= .vl (eB l i j):=by show bZ (bU aa X6).toL 1 3=_;rw[d6];rfl
    refine W8 (by rw[dX,Z8,e0,e3];exact e9 rfl) ?_;show some (2,[Val.vi (bU aa (zo X6 3)).toL.length,bU aa (zo X6 1),aa.w 4001,bU aa (zo X6 3)])=_;simp_all
 .refine cu (by rw[cP,co,co,v1,w0];exact j5 (by show¬(i:Int)<(l.length:Int);omega)) ?_;show some (1,[aa.w 4000,aa.w 4001])=_;grind
theorem dX8(f858: ∀a,I.f 858 a=tR a)(f859: ∀a,I.f 859 a=om a)(h0:I.w 2000= .vi l.length)(h2:(I.w 2002).toL=l)(hn:l.length<=1000):
 cI (λvs=>W7 Pr (I.upd 4000 vs)) [.vb false,.vi 0]=some (Aw l):=by
 have run:=dG5 f858 f859 h0 h2 hn;unfold Aw;cases hf:nC l with
 |none=>
  refine eG (st:=λm=>[.vb false,.vi m]) (n:=l.length) (λm hm=> ?_) ?_
  .have h1:=A6.1 hf m (o8.2 hm);have h2:gD l m=none:=by simpa using h1
   rw[run _ (by omega),e8 hm,h2]
  grind
 |some i=>
  obtain⟨a,b,c⟩:=oI hf;obtain⟨j,hj,j1,j2,j3⟩:=KV hf;refine eG (st:=λm=>[.vb false,.vi m]) (n:=i) (λm hm=> ?_) ?_
  .have h2:gD l m=none:=by have:=c m hm;simpa using this
   rw[run _ (by omega),e8 (by omega),h2]
  grind
theorem dX9{b:Bool}:(I.upd 2000 [.vi l.length,.vb b,.vl l]).w 2000= .vi l.length/\(I.upd 2000 [.vi l.length,.vb b,.vl l]).w 2001= .vb b/\(I.upd 2000 [.vi l.length,.vb b,.vl l]).w 2002= .vl l:=
 ⟨by rfl,by rfl,by rfl⟩
theorem ZF(f857: ∀a,I.f 857 a=Co a)(f858: ∀a,I.f 858 a=tR a)(f859: ∀a,I.f 859 a=om a)(hn:l.length<=1000):
 W7 Hw (I.upd 2000 [.vi l.length,.vb true,.vl l])=match nC l with
  |some i=>some (0,[.vi (eB l i ((gD l i).getD 0)).length,.vb true,.vl (eB l i ((gD l i).getD 0))])
  |none=>some (0,[.vi l.length,.vb false,.vl l]):=by
 obtain⟨v0,v1,v2⟩:=dX9 (I:=I) (l:=l) (b:=true);have wf: ∀a,(I.upd 2000 [.vi l.length,.vb true,.vl l]).f 857 a=Co a:=λa=>by grind[eV]
 have wg: ∀a,(I.upd 2000 [.vi l.length,.vb true,.vl l]).f 858 a=tR a:=λa=>by grind[eV]
 have wh: ∀a,(I.upd 2000 [.vi l.length,.vb true,.vl l]).f 859 a=om a:=λa=>by grind[eV]
 generalize I.upd 2000 [.vi l.length,.vb true,.vl l]=aa at*
 have d7:bU aa X7=cr (Aw l):=by
  show aa.f 857 [.vb false,.vi 0,aa.w 2000,aa.w 2002]=_;rw[wf,v2];rfl
 refine cy (by show(aa.w 2001).toB=true;rw[v1];rfl) (Z3 (r:=Aw l) ?_ d7 ?_)
 .exact dX8 wg wh v0 (by rw[v2];rfl) hn
 .have hR:Aw l=match nC l with
   |some i=>(1,[.vi (eB l i ((gD l i).getD 0)).length,.vb true,.vi i,.vl (eB l i ((gD l i).getD 0))])
   |none=>(0,[.vb false,.vi l.length]):=rfl
  cases hj:nC l with
  |none=>
   rw[hj]at hR;rw[hR];show some (0,[aa.w 2000,Val.vb false,aa.w 2002])=_;grind
  |some i=>
   rw[hj]at hR;rw[hR]at d7⊢;have e0:bU aa (zo X7 0)= .vi (eB l i ((gD l i).getD 0)).length:=by show bZ (bU aa X7).toL 1 0=_;rw[d7];rfl
   have e1:bU aa (zo X7 1)= .vb true:=by show bZ (bU aa X7).toL 1 1=_;rw[d7];rfl
   have e3:bU aa (zo X7 3)= .vl (eB l i ((gD l i).getD 0)):=by show bZ (bU aa X7).toL 1 3=_;rw[d7];rfl
   refine W8 (by rw[dX,Z8,e0,e3];exact e9 rfl) ?_;show some (0,[Val.vi (bU aa (zo X7 3)).toL.length,bU aa (zo X7 1),bU aa (zo X7 3)])=_;simp_all
theorem cB6(l:List Val):W7 Hw (I.upd 2000 [.vi l.length,.vb false,.vl l])=some (1,[.vi l.length,.vb false,.vl l]):=by
 rfl
theorem dY0(f857: ∀a,I.f 857 a=Co a)(f858: ∀a,I.f 858 a=tR a)(f859: ∀a,I.f 859 a=om a): ∀(f:Nat) (l:List Val),l.length<=f->l.length<=1000->
 Iter (λvs=>W7 Hw (I.upd 2000 vs)) [.vi l.length,.vb true,.vl l] 0 [.vi (nX f l).length,.vb false,.vl (nX f l)]:=by
 intro f;induction f with
 |zero=>
  intro l hf hn;have:l=[]:=B7 (by omega);subst this;exact .more (ZF f857 f858 f859 hn) (.out (cB6 []))
 |succ f ih=>
  intro l hf hn;have h:=ZF f857 f858 f859 hn;unfold nX;cases hj:nC l with
  |none=>
   rw[hj]at h;exact .more h (.out (cB6 l))
  |some i=>
   rw[hj]at h;obtain⟨j,h1,h2,h3,h4⟩:=KV hj;have hl:(eB l i ((gD l i).getD 0)).length+1=l.length:=by grind[Rs]
   exact .more h (ih _ (by omega) (by omega))
theorem dY1(f857: ∀a,I.f 857 a=Co a)(f858: ∀a,I.f 858 a=tR a)(f859: ∀a,I.f 859 a=om a)(hn:l.length<=1000):
 cI (λvs=>W7 Hw (I.upd 2000 vs)) [.vi l.length,.vb true,.vl l]=some (0,[.vi (ig l).length,.vb false,.vl (ig l)]):=by
 rw[nh];exact dY0 f857 f858 f859 _ l (i6 _) hn
end Go.Ev.S9
namespace Go.Ev.S9
open Go Go.Ev
variable{M:List Val}
def vd(M:List Val)(k:Nat):List Val:=(M.set k (dV (bW M (k+1)))).set (k+1) (dV (bW M k))
def jb:Nat->List Val->Nat×List Val
 |0,M=>(0,M)
 |k+1,M=>if ci (bW M (k+1)) 0<ci (bW M k) 0 then jb k (vd M k)else(k+1,M)
def MV(a:List Val):Val:=cr (0,[.vi (jb (bV a 0).toI.toNat (bV a 1).toL).1,.vl (jb (bV a 0).toI.toNat (bV a 1).toL).2])
def gc(l:List Val):Nat->List Val
 |0=>[]
 |k+1=>(jb k (gc l k++[dV (bW l k)])).2
def e71(a:List Val):Val:=cr (0,[.vi (bV a 3).toI.toNat,.vi (bV a 3).toI.toNat,.vl (gc (bV a 4).toL (bV a 3).toI.toNat)])
theorem c10: ∀(k:Nat) (M:List Val),(jb k M).2.length=M.length
 |0,M=>rfl
 |k+1,M=>by
  unfold jb;split
  .rw[c10 k];simp[vd]
  .rfl
theorem BN(l:List Val): ∀k,(gc l k).length=k
 |0=>rfl
 |k+1=>by show(jb k _).2.length=_;rw[c10,k7,BN l k];rfl
theorem ZB{k:Nat}(hk:k+1<M.length)(hM: ∀r∈M,dV r=r)(r:Val):r∈vd M k↔r∈M:=by
 have a1:bW M k∈M:=kl (by omega);have a2:bW M (k+1)∈M:=kl hk;have e:vd M k=(M.set k (bW M (k+1))).set (k+1) (bW M k):=by grind[vd]
 rw[e];constructor
 .grind
 .intro h;obtain⟨m,hm,rfl⟩:=B0 h;have ea: ∀n (h:n<M.length),bW M n=M[n]:=λn h=>by simp[bW,j9,h]
  by_cases c1:m=k
  .grind[List.mem_iff_getElem]
  .by_cases c2:m=k+1
   .refine T6.2 ⟨k,by simp;omega,?_⟩;grind
   .refine T6.2 ⟨m,by simp;omega,?_⟩;grind
theorem XH: ∀(k:Nat) (M:List Val),k<M.length->(∀r∈M,dV r=r)-> ∀r,r∈(jb k M).2↔r∈M
 |0,M,_,_,r=>Iff.rfl
 |k+1,M,hk,hM,r=>by
  unfold jb;split
  .rw[XH k _ (by simp[vd];omega) (λr hr=>hM r ((ZB hk hM r).1 hr)) r,ZB hk hM]
  rfl
theorem c12{l:List Val}(hl: ∀r∈l,dV r=r): ∀k,k<=l.length-> ∀r,r∈gc l k↔r∈l.take k
 |0,_,r=>by simp[gc]
 |k+1,hk,r=>by
  have ih:=c12 hl k (by omega);have ha:=kl (l:=l) (show k<l.length by omega);show r∈(jb k (gc l k++[dV (bW l k)])).2↔_;have hs: ∀r∈gc l k++[dV (bW l k)],dV r=r:=λr hr=>by
   rcases x8.1 hr with h|h
   .exact hl r (N4 ((ih r).1 h))
   .rw[n9.1 h,hl _ ha,hl _ ha]
  rw[XH k _ (by rw[k7,BN];simp) hs,x8,n9,ih,hl _ ha,show l.take (k+1)=l.take k++[bW l k] by rw[O8,show l[k]?.toList=[bW l k] by simp[bW,j9,show k<l.length by omega]],x8,n9]
variable{I:Opq}
theorem d3{j:Nat}:(I.upd 3000 [.vi j,.vl M]).w 3000= .vi j/\(I.upd 3000 [.vi j,.vl M]).w 3001= .vl M:=⟨by rfl,by rfl⟩
theorem dG6{N k:Nat}(hc:(I.w 2002).toL.length+1=N)(hM:M.length=N)(hk:k+1<N)(hN:N<=1000):
 W7 Oe (I.upd 3000 [.vi (k+1:Nat),.vl M])=if ci (bW M (k+1)) 0<ci (bW M k) 0 then some (0,[.vi k,.vl (vd M k)])else some (1,[.vi (k+1:Nat),.vl M]):=by
 obtain⟨v0,v1⟩:=d3 (I:=I) (M:=M) (j:=k+1);have w2:(I.upd 3000 [.vi (k+1:Nat),.vl M]).w 2002=I.w 2002:=cN _ _ _ (by omega);generalize I.upd 3000 [.vi (k+1:Nat),.vl M]=aa at*
 have i1:(bU aa (zm aY aZ))= .vi k:=by
  show Val.vi (cg .sub .i64 (aa.w 3000).toI 1)=_;grind[a06,lQ]
 have i1I:(bU aa (zm aY aZ)).toI=(k:Int):=by rw[i1];rfl
 have l8:(bU aa X8).toL.length=N:=by
  show((aa.w 2002).toL++[_]).length=N;grind
 have l8I:(bU aa (zL X8)).toI=(N:Int):=by rw[Z8,l8]
 have l1I:(bU aa (zl 3001)).toI=(N:Int):=by simp_all[Z8,dN]
 have v0I:(bU aa aY).toI=((k+1:Nat):Int):=by rw[co,v0];rfl
 have g1: ∀j:Nat,bU aa (.op .lget [bc,aY,.ci j])=Z7 (bW M (k+1)) j:=λj=>by
  show bZ (aa.w 3001).toL (aa.w 3000).toI (j:Int)=_;rw[v1,v0];rfl
 have g0: ∀j:Nat,bU aa (.op .lget [bc,zm aY aZ,.ci j])=Z7 (bW M k) j:=λj=>by
  show bZ (aa.w 3001).toL (bU aa (zm aY aZ)).toI (j:Int)=_;rw[v1,i1];rfl
 have d10:bU aa Mw= .vl (M.set k (dV (bW M (k+1)))):=by
  show Val.vl ((aa.w 3001).toL.set (bU aa (zm aY aZ)).toI.toNat (.vl [bU aa (.op .lget [bc,aY,.ci (0:Nat)]),bU aa (.op .lget [bc,aY,.ci (1:Nat)])]))=_;rw[v1,i1,g1,g1];rfl
 refine cy (by grind[dE8,cx,decide_eq_true]) ?_;refine W8 (by grind[db,cB,cP,cx,decide_eq_true]) ?_;refine W8 (by grind[cP,decide_eq_true]) ?_;refine W8 (by grind[db,cB,cP,cx,decide_eq_true]) ?_;refine W8 (by grind[cP,decide_eq_true]) ?_;have hq:dB aa (fm X9 (zg 3001 3000 0))=decide (ci (bW M (k+1)) 0<ci (bW M k) 0):=by
  have e1:=congrArg Val.toI (g1 0);have e0:=congrArg Val.toI (g0 0);exact congr (congrArg (λa b:Int=>decide (a<b)) e1) e0
 by_cases c:ci (bW M (k+1)) 0<ci (bW M k) 0
 .rw[e8 c];refine cy (hq.trans (e9 c)) (W8 ?_ ?_)
  .rw[cP,v0I,Z8,d10];show decide (((k+1:Nat):Int)<((M.set k (dV (bW M (k+1)))).length:Int))=true;grind
  .show some (0,[bU aa (zm aY aZ),Val.vl ((bU aa Mw).toL.set (aa.w 3000).toI.toNat (.vl [bU aa (.op .lget [bc,zm aY aZ,.ci (0:Nat)]),bU aa (.op .lget [bc,zm aY aZ,.ci (1:Nat)])]))])=_;rw[i1,d10,v0,g0,g0];rfl
 .refine cu (hq.trans (j5 c)) ?_;show some (1,[aa.w 3000,aa.w 3001])=_;grind
theorem dG7{N:Nat}(hc:(I.w 2002).toL.length+1=N)(hN:N<=1000): ∀(k:Nat) (M:List Val),k<N->M.length=N->Iter (λvs=>W7 Oe (I.upd 3000 vs)) [.vi k,.vl M] 0 [.vi (jb k M).1,.vl (jb k M).2]
 |0,M,hk,hM=>by
  refine .out ?_;rfl
 |k+1,M,hk,hM=>by
  have hs:=dG6 (I:=I) hc hM hk hN;unfold jb;by_cases c:ci (bW M (k+1)) 0<ci (bW M k) 0
  .rw[e8 c]at hs⊢;exact .more hs (dG7 hc hN k _ (by omega) (by grind[vd]))
  .rw[b9 c]at hs⊢;exact .out hs
theorem dY2(f856: ∀a,I.f 856 a=MV a){l:List Val}(d3: ∀vs,bU (I.upd 2000 vs) oF= .vi l.length)(d4: ∀vs,bU (I.upd 2000 vs) lv= .vl l)(hn:l.length<=900):
 cI (λvs=>W7 e60 (I.upd 2000 vs)) [.vi 0,.vi 0,.vl []]=some (0,[.vi l.length,.vi l.length,.vl (gc l l.length)]):=by
 refine eG (st:=λk=>[.vi k,.vi k,.vl (gc l k)]) (n:=l.length) (λk hk=> ?_) ?_
 .have hl:=BN l k;have hm:gc l (k+1)=(jb k (gc l k++[dV (bW l k)])).2:=rfl;have hl2:=BN l (k+1);rw[hm]at hl2⊢;generalize gc l k=acc at hl hl2⊢;have v0:=kW I 2000 (.vi k) (.vi k) (.vl acc);have v1:=fX I 2000 (.vi k) (.vi k) (.vl acc);have v2:=kP I 2000 (.vi k) (.vi k) (.vl acc);have d3:=d3 [.vi k,.vi k,.vl acc];have d4:=d4 [.vi k,.vi k,.vl acc];have wf: ∀a,(I.upd 2000 [.vi k,.vi k,.vl acc]).f 856 a=MV a:=λa=>by grind[eV]
  generalize I.upd 2000 [.vi k,.vi k,.vl acc]=aa at*
  have inc:cg .add .i64 (k:Int) 1=((k+1:Nat):Int):=eH (n:=1000000) (by omega) (by omega);have d8:bU aa X8= .vl (acc++[dV (bW l k)]):=by
   show Val.vl ((aa.w 2002).toL++[.vl [bZ (bU aa lv).toL (aa.w 2001).toI 0,bZ (bU aa lv).toL (aa.w 2001).toI 1]])=_;rw[v2,d4,v1];rfl
  have d12:bU aa At= .vl (jb k (acc++[dV (bW l k)])).2:=by
   show bZ (aa.f 856 [aa.w 2001,bU aa X8,bU aa oF,bU aa lv,.vi (bU aa X8).toL.length,bU aa X8,aa.w 2001]).toL 1 1=_;rw[wf,d8,v1];rfl
  have e856:aa.f 856 [aa.w 2001,bU aa X8,bU aa oF,bU aa lv,.vi (bU aa X8).toL.length,bU aa X8,aa.w 2001]=cr (0,[.vi (jb k (acc++[dV (bW l k)])).1,.vl (jb k (acc++[dV (bW l k)])).2]):=by
   rw[wf,d8,v1];rfl
  refine W8 (by simp_all[cB,cx,e9]) (cy (by simp_all[cP,co,e9]) ?_);refine W8 (by simp_all[cB,cx,co,e9]) ?_;refine W8 (by simp_all[cP,co,Z8,e9]) ?_;refine W8 (MT (q:= aV) (l:= aW) (c:=X8) (by grind[dN]) v2 d8 (by omega)) ?_;have ml:(acc++[dV (bW l k)]).length=k+1:=by grind
  refine Z3 (r:=(0,[.vi (jb k (acc++[dV (bW l k)])).1,.vl (jb k (acc++[dV (bW l k)])).2])) ?_ e856 (W8 ?_ ?_)
  .show cI _ [aa.w 2001,bU aa X8]=_;rw[v1,d8,nh];exact dG7 (N:=k+1) (by simp_all) (by omega) k _ (by omega) ml
  .simp_all[dX,Z8,e9,dV,bW,jb]
  .show some (0,[Val.vi (bU aa At).toL.length,Val.vi (cg .add .i64 (aa.w 2001).toI 1),bU aa At])=_;simp_all
 .have v0:=kW I 2000 (.vi l.length) (.vi l.length) (.vl (gc l l.length));have v1:(I.upd 2000 [.vi l.length,.vi l.length,.vl (gc l l.length)]).w 2001=_:=fX I 2000 (.vi l.length) (.vi l.length) (.vl (gc l l.length));have v2:(I.upd 2000 [.vi l.length,.vi l.length,.vl (gc l l.length)]).w 2002=_:=kP I 2000 (.vi l.length) (.vi l.length) (.vl (gc l l.length));have d3:=d3 [.vi l.length,.vi l.length,.vl (gc l l.length)];generalize I.upd 2000 [.vi l.length,.vi l.length,.vl (gc l l.length)]=aa at*
  refine W8 (by rw[cB,cx,d3];exact e9 (by show(0:Int)<=(l.length:Int);omega)) (cu (by rw[cP,co,d3,v1];exact j5 (by omega)) ?_);show some (1,[aa.w 2000,aa.w 2001,aa.w 2002])=_;grind
end Go.Ev.S9
namespace Go.Ev.S9
open Go Go.Ev
def fG(g:Int)(l:List Val):List Val:=cn (mZ g l) l.length
def iX(g:Int)(l:List Val):List Val:=gc (ig (fG g l)) (ig (fG g l)).length
def iW(g:Int)(l:List Val):Bool:=decide (1<=g)&&(decide (g<=1048576)&&((List.range l.length).find? (sV l)).isNone)
def Iw(a:List Val):Val:= .vl (bif iW (bV a 0).toI (bV a 1).toL then iX (bV a 0).toI (bV a 1).toL else [])
def QQ(a:List Val):Val:= .vi (bif iW (bV a 0).toI (bV a 1).toL then 0 else 2)
theorem Tw: ∀(f:Nat) (l:List Val),(nX f l).length<=l.length
 |0,l=>i6 _
 |f+1,l=>by
  unfold nX;cases hj:nC l with
  |none=>grind
  |some i=>
   obtain⟨j,h1,h2,h3,h4⟩:=KV hj;have hl:(eB l i ((gD l i).getD 0)).length+1=l.length:=by grind[Rs]
   exact n7 (Tw f _) (by omega)
variable{I:Opq}
theorem dY4(f854: ∀a,I.f 854 a=e70 a)(f855: ∀a,I.f 855 a=e71 a)(f856: ∀a,I.f 856 a=MV a)(f857: ∀a,I.f 857 a=Co a)(f858: ∀a,I.f 858 a=tR a)(f859: ∀a,I.f 859 a=om a)(f860: ∀a,I.f 860 a=e69 a)(hn:(I.w 1).toL.length<=100):
 W7 T_sOf I=some (0,[QQ [I.w 0,I.w 1],Iw [I.w 0,I.w 1]]):=by
 generalize h0:(I.w 0).toI=g;generalize h1:(I.w 1).toL=l at hn;have e0:bU I kZ=cr (GY g l):=by
  show I.f 860 [.vi 0,.vi 0,.vi 0,.vl [],I.w 0,.vi 0,.vi (I.w 1).toL.length,I.w 1]=_;rw[f860,<-h0,<-h1];rfl
 have hv:([QQ [I.w 0,I.w 1],Iw [I.w 0,I.w 1]]:List Val)=[.vi (bif iW g l then 0 else 2),.vl (bif iW g l then iX g l else [])]:=by
  show [Val.vi (bif iW (I.w 0).toI (I.w 1).toL then 0 else 2),.vl (bif iW (I.w 0).toI (I.w 1).toL then iX (I.w 0).toI (I.w 1).toL else [])]=_;rw[h0,h1]
 rw[hv];unfold T_sOf iW;by_cases g1:1<=g
 .refine cy (by rw[Cr,co,cx,h0];exact e9 g1) ?_;rw[e9 g1,B4];by_cases g2:g<=1048576
  .refine cu (by rw[iu,cB,co,cx,h0,e9 g2];rfl) ?_;rw[e9 g2,B4];refine Z3 (r:=GY g l) (dX5 h0 h1 (by omega)) e0 ?_;unfold GY at e0⊢;cases hf:(List.range l.length).find? (sV l)with
   |some i=>
    rw[hf]at e0;show some (0,[bU I (zo kZ 0),Val.vl []])=_;have:bU I (zo kZ 0)= .vi 2:=by show bZ (bU I kZ).toL 1 0=_;rw[e0];rfl
    rw[this];rfl
   |none=>
    rw[hf]at e0;have q1:bU I sF= .vl (fG g l):=by show bZ (bU I kZ).toL 1 3=_;rw[e0];rfl
    have q01:bU I (zo kZ 1)= .vi (fG g l).length:=by show bZ (bU I kZ).toL 1 1=_;rw[e0];rfl
    have hL:(fG g l).length=l.length:=mX (λi=> .vl [Z7 (bW l i) 0,.vi (cg .add .i64 (ci (bW l i) 0) g)]) l.length;have q2:bU I tX=cr (0,[.vi (ig (fG g l)).length,.vb false,.vl (ig (fG g l))]):=by
     show I.f 854 [.vi (bU I sF).toL.length,.vb true,bU I sF]=_;rw[f854,q1];rfl
    have q3:bU I oF= .vi (ig (fG g l)).length:=by show bZ (bU I tX).toL 1 0=_;rw[q2];rfl
    have q4:bU I lv= .vl (ig (fG g l)):=by show bZ (bU I tX).toL 1 2=_;rw[q2];rfl
    have hM:(ig (fG g l)).length<=100:=n7 (Tw _ _) (by omega);have D2: ∀vs,bU (I.upd 2000 vs) tX=bU I tX:=λvs=>by
     have e:bU (I.upd 2000 vs) kZ=bU I kZ:=by
      show(I.upd 2000 vs).f 860 [.vi 0,.vi 0,.vi 0,.vl [],(I.upd 2000 vs).w 0,.vi 0,.vi ((I.upd 2000 vs).w 1).toL.length,(I.upd 2000 vs).w 1]=I.f 860 [.vi 0,.vi 0,.vi 0,.vl [],I.w 0,.vi 0,.vi (I.w 1).toL.length,I.w 1];rw[cN _ _ _ (by omega),cN _ _ _ (by omega),eV]
     show(I.upd 2000 vs).f 854 [.vi (bZ (bU (I.upd 2000 vs) kZ).toL 1 3).toL.length,.vb true,bZ (bU (I.upd 2000 vs) kZ).toL 1 3]=I.f 854 [.vi (bZ (bU I kZ).toL 1 3).toL.length,.vb true,bZ (bU I kZ).toL 1 3];rw[e,eV]
    have D3: ∀vs,bU (I.upd 2000 vs) oF= .vi (ig (fG g l)).length:=λvs=>by
     show bZ (bU (I.upd 2000 vs) tX).toL 1 0=_;rw[D2,q2];rfl
    have D4: ∀vs,bU (I.upd 2000 vs) lv= .vl (ig (fG g l)):=λvs=>by
     show bZ (bU (I.upd 2000 vs) tX).toL 1 2=_;rw[D2,q2];rfl
    have q5:bU I BO=cr (0,[.vi (ig (fG g l)).length,.vi (ig (fG g l)).length,.vl (iX g l)]):=by
     show I.f 855 [.vi 0,.vi 0,.vl [],bU I oF,bU I lv]=_;rw[f855,q3,q4];rfl
    have q6:bU I Nh= .vl (iX g l):=by show bZ (bU I BO).toL 1 2=_;rw[q5];rfl
    have q50:bU I (zo BO 0)= .vi (ig (fG g l)).length:=by show bZ (bU I BO).toL 1 0=_;rw[q5];rfl
    refine W8 (by rw[dX,Z8,q01,q1];exact e9 rfl) (Z3 (r:=(0,[.vi (ig (fG g l)).length,.vb false,.vl (ig (fG g l))])) ?_ q2 (Z3 (r:=(0,[.vi (ig (fG g l)).length,.vi (ig (fG g l)).length,.vl (iX g l)])) ?_ q5 (W8 ?_ ?_)))
    .show cI _ [Val.vi (bU I sF).toL.length,.vb true,bU I sF]=_;rw[q1];exact dY1 (l:=fG g l) f857 f858 f859 (by omega)
    .exact dY2 f856 D3 D4 (by omega)
    .rw[dX,Z8,q50,q6];exact decide_eq_true (by show((ig (fG g l)).length:Int)=((iX g l).length:Int);unfold iX;rw[BN])
    .show some (0,[Val.vi 0,bU I Nh])=_;rw[q6];rfl
  .rw[j5 g2,l6];exact cy (by rw[iu,cB,co,cx,h0,j5 g2];rfl) rfl
 .rw[j5 g1,l6];exact cu (by rw[Cr,co,cx,h0];exact j5 g1) rfl
end Go.Ev.S9
namespace Go.Ev.S9
open Go Go.Ev
def wx(k s l g:Int)(T:List Val):List Val:=if k=3 then cn (λi=>[dV (bW (bif iW g T then iX g T else []) i)]) (bif iW g T then iX g T else []).length else cn (λi=>cX k s l g (Z7 (bW T i) 0)) T.length
def mP(k s l g:Int)(ev:List Val)(key:List UInt8):List Val:=wx k s l g (kX ev key)
def e72(a:List Val):Val:=mF (kX (bV a 5).toL (bV a 6).toS) (bV a 5).toL.length
def YQ(a:List Val):Val:=mF (cn (λi=>[dV (bW (bV a 4).toL i)]) (bV a 4).toL.length) (bV a 4).toL.length
def lI(k s l g:Int)(T:List Val):List Val:=cn (λi=>cX k s l g (Z7 (bW T i) 0)) T.length
def Zm(a:List Val):Val:=mF (lI (bV a 3).toI (bV a 4).toI (bV a 5).toI (bV a 6).toI (bV a 8).toL) (bV a 8).toL.length
def Em(a:List Val):Val:= .vl (mP (bV a 0).toI (bV a 1).toI (bV a 2).toI (bV a 3).toI (bV a 4).toL (bV a 5).toS)
theorem and2{a b:Bool}(h:a=true)(h2:b=true):(a&&b)=true:=by grind
theorem c14(g:Int)(T:List Val):(iX g T).length<=T.length:=by
 unfold iX;rw[BN];exact n7 (Tw _ _) (R9 (mX (λi=> .vl [Z7 (bW T i) 0,.vi (cg .add .i64 (ci (bW T i) 0) g)]) T.length))
theorem Wp(l:List Val)(key:List UInt8):(kX l key).length<=l.length:=by
 have:=je (g:=JU l key) (m:=1) (λi=>by unfold JU;cases decide ((Z7 (bW l i) 1).toS=key)<;>simp) l.length;grind[kX]
variable{I:Opq}
theorem dY5{k s l g:Int}{T:List Val}(f704: ∀a,I.f 704 a= .vl (cX (bV a 0).toI (bV a 1).toI (bV a 2).toI (bV a 3).toI (bV a 4)))(h0:(I.w 0).toI=k)(h1:(I.w 1).toI=s)(h2:(I.w 2).toI=l)(h3:(I.w 3).toI=g)(k3:k≠3)(D1: ∀vs,bU (I.upd 2000 vs) lT= .vi T.length)(D2: ∀vs,bU (I.upd 2000 vs) nf= .vl T)(hn:T.length<=1000):
 cI (λvs=>W7 Ug (I.upd 2000 vs)) [.vi 0,.vi 0,.vl []]=some (0,[.vi (lI k s l g T).length,.vi T.length,.vl (lI k s l g T)]):=by
 have hlen: ∀i,(cn (λi=>cX k s l g (Z7 (bW T i) 0)) i).length<=i*16:=λi=>je (λi=>CL k3) i
 refine Bq (λi acc=>[.vi acc.length,.vi i,.vl acc]) (a0:=[]) (g:=λi=>cX k s l g (Z7 (bW T i) 0)) (n:=T.length) rfl (λi hi=> ?_) ?_
 .rw[List.nil_append];have ha:=hlen i;have hb:=CL (k:=k) (s:=s) (l:=l) (g:=g) (t:=Z7 (bW T i) 0) k3;generalize cn (λi=>cX k s l g (Z7 (bW T i) 0)) i=acc at ha⊢;have v0:(I.upd 2000 [.vi acc.length,.vi i,.vl acc]).w 2000=_:=kW I 2000 (.vi acc.length) (.vi i) (.vl acc);have v1:(I.upd 2000 [.vi acc.length,.vi i,.vl acc]).w 2001=_:=fX I 2000 (.vi acc.length) (.vi i) (.vl acc);have v2:(I.upd 2000 [.vi acc.length,.vi i,.vl acc]).w 2002=_:=kP I 2000 (.vi acc.length) (.vi i) (.vl acc);have D1:=D1 [.vi acc.length,.vi i,.vl acc];have D2:=D2 [.vi acc.length,.vi i,.vl acc];have u0:((I.upd 2000 [.vi acc.length,.vi i,.vl acc]).w 0).toI=k:=by grind[cN]
  have u1:((I.upd 2000 [.vi acc.length,.vi i,.vl acc]).w 1).toI=s:=by grind[cN]
  have u2:((I.upd 2000 [.vi acc.length,.vi i,.vl acc]).w 2).toI=l:=by grind[cN]
  have u3:((I.upd 2000 [.vi acc.length,.vi i,.vl acc]).w 3).toI=g:=by grind[cN]
  have wf: ∀a,(I.upd 2000 [.vi acc.length,.vi i,.vl acc]).f 704 a= .vl (cX (bV a 0).toI (bV a 1).toI (bV a 2).toI (bV a 3).toI (bV a 4)):=λa=>by grind[eV]
  generalize I.upd 2000 [.vi acc.length,.vi i,.vl acc]=aa at*
  have d16:bU aa wd= .vl (acc++cX k s l g (Z7 (bW T i) 0)):=by
   show Val.vl ((aa.w 2002).toL++(aa.f 704 [aa.w 0,aa.w 1,aa.w 2,aa.w 3,bZ (bU aa nf).toL (aa.w 2001).toI 0]).toL)=_;rw[wf,D2,v1,v2];show Val.vl (acc++cX (aa.w 0).toI (aa.w 1).toI (aa.w 2).toI (aa.w 3).toI (Z7 (bW T i) 0))=_;grind
  have inc:cg .add .i64 (i:Int) 1=((i+1:Nat):Int):=eH (n:=1000000) (by omega) (by omega);refine W8 (by simp_all[cB,cx,e9]) (cy (by simp_all[cP,co,e9]) ?_);refine W8 (by simp_all[cB,cx,co,e9]) ?_;refine W8 (by simp_all[cP,co,Z8,e9]) ?_;refine W8 ?_ ?_
  .show(decide ((aa.w 2000).toI=((aa.w 2002).toL.length:Int))&&decide (((bU aa wd).toL.length:Int)<=1000000))=true;rw[v0,v2,d16];exact and2 (e9 rfl) (e9 (by show((acc++cX k s l g (Z7 (bW T i) 0)).length:Int)<=1000000;grind))
  .show some (0,[Val.vi (bU aa wd).toL.length,Val.vi (cg .add .i64 (aa.w 2001).toI 1),bU aa wd])=_;simp_all
 .show W7 Ug (I.upd 2000 [.vi (lI k s l g T).length,.vi T.length,.vl (lI k s l g T)])=some (1,[.vi (lI k s l g T).length,.vi T.length,.vl (lI k s l g T)]);refine W8 (by rw[cB,cx,D1];exact e9 (by show(0:Int)<=(T.length:Int);omega)) (cu (by rw[cP,co,D1,show(I.upd 2000 [.vi (lI k s l g T).length,.vi T.length,.vl (lI k s l g T)]).w 2001=_ from fX ..];exact j5 (by omega)) ?_);rfl
theorem cV2(f704: ∀a,I.f 704 a= .vl (cX (bV a 0).toI (bV a 1).toI (bV a 2).toI (bV a 3).toI (bV a 4)))(f824: ∀a,I.f 824 a=Iw a)(f861: ∀a,I.f 861 a=e72 a)(f862: ∀a,I.f 862 a=YQ a)(f863: ∀a,I.f 863 a=Zm a)(hn:(I.w 4).toL.length<=100):
 W7 T_rSpans I=some (0,[Em [I.w 0,I.w 1,I.w 2,I.w 3,I.w 4,I.w 5]]):=by
 generalize h0:(I.w 0).toI=k;generalize h1:(I.w 1).toI=s;generalize h2:(I.w 2).toI=l;generalize h3:(I.w 3).toI=g;generalize h4:(I.w 4).toL=ev at hn;generalize h5:(I.w 5).toS=key;generalize hT:kX ev key=T;have hTl:T.length<=100:=by grind[Nat.le_trans,Wp]
 have hv:Em [I.w 0,I.w 1,I.w 2,I.w 3,I.w 4,I.w 5]= .vl (wx k s l g T):=by
  show Val.vl (wx (I.w 0).toI (I.w 1).toI (I.w 2).toI (I.w 3).toI (kX (I.w 4).toL (I.w 5).toS))=_;grind
 rw[hv];have e0:bU I tp=cr (0,[.vi T.length,.vi ev.length,.vl T]):=by
  show I.f 861 [.vi 0,.vi 0,.vl [],.vi 0,.vi (I.w 4).toL.length,I.w 4,I.w 5,I.w 0,I.w 1,I.w 2,I.w 3]=_;rw[f861];show mF (kX (I.w 4).toL (I.w 5).toS) (I.w 4).toL.length=_;rw[h4,h5,hT];rfl
 have D0: ∀vs,bU (I.upd 2000 vs) tp=bU I tp:=λvs=>by
  rfl
 have q1:bU I lT= .vi T.length:=by show bZ (bU I tp).toL 1 0=_;rw[e0];rfl
 have q2:bU I nf= .vl T:=by show bZ (bU I tp).toL 1 2=_;rw[e0];rfl
 have D1: ∀vs,bU (I.upd 2000 vs) lT= .vi T.length:=λvs=>by show bZ (bU (I.upd 2000 vs) tp).toL 1 0=_;rw[D0,e0];rfl
 have D2: ∀vs,bU (I.upd 2000 vs) nf= .vl T:=λvs=>by show bZ (bU (I.upd 2000 vs) tp).toL 1 2=_;rw[D0,e0];rfl
 have q3:bU I wU= .vl T:=by
  show Val.vl (((bU I nf).toL.drop (0:Int).toNat).take ((bU I lT).toI-0).toNat)=_;simp_all
 have D3: ∀vs,bU (I.upd 2000 vs) wU= .vl T:=λvs=>by
  show Val.vl (((bU (I.upd 2000 vs) nf).toL.drop (0:Int).toNat).take ((bU (I.upd 2000 vs) lT).toI-0).toNat)=_;simp_all
 refine Z3 (r:=(0,[.vi T.length,.vi ev.length,.vl T])) ?_ e0 ?_
 .have:=d45 (I:=I) (v0:=2000) (N:= (zl 4)) (c:= .op (.scmp .eql) [jf 4 2001 1,be]) (row:= .op .row [jf 4 2001 2]) (p:=λi=>decide ((Z7 (bW ev i) 1).toS=key)) (f:=λi=> .vl [Z7 (bW ev i) 2]) (n:=ev.length) (by omega) (λvs=> ?_) (λi a acc hi=> ?_) (λi a acc hi=> ?_)
  .rw[<-hT];exact this
  .grind[Z8,dN,cN]
  .show decide ((bU (I.upd 2000 [a,.vi i,acc]) (jf 4 2001 (1:Nat))).toS=((I.upd 2000 [a,.vi i,acc]).w 5).toS)=_;rw[tD (fX ..),cN _ _ _ (by omega),cN _ _ _ (by omega),h4,h5]
  .show Val.vl [bU (I.upd 2000 [a,.vi i,acc]) (jf 4 2001 (2:Nat))]=_;rw[tD (fX ..),cN _ _ _ (by omega),h4]
 .unfold wx;by_cases k3:k=3
  .rw[e8 k3];refine cy (by grind[dX,co,cx,decide_eq_true]) (W8 ?_ ?_)
   .show((decide ((0:Int)<=(bU I lT).toI)&&decide ((bU I lT).toI<=((bU I nf).toL.length:Int)))&&decide (((bU I wU).toL.length:Int)<=100))=true;rw[q1,q2,q3];exact and2 (and2 (e9 (by simp_all)) (e9 (by simp_all))) (e9 (by show(T.length:Int)<=100;omega))
   .have q4:bU I nD= .vl (bif iW g T then iX g T else []):=by
     show I.f 824 [I.w 3,bU I wU]=_;rw[f824,q3];show Val.vl (bif iW (I.w 3).toI T then iX (I.w 3).toI T else [])=_;rw[h3]
    have D4: ∀vs,bU (I.upd 2000 vs) nD= .vl (bif iW g T then iX g T else []):=λvs=>by
     show(I.upd 2000 vs).f 824 [(I.upd 2000 vs).w 3,bU (I.upd 2000 vs) wU]=_;rw[D3,cN _ _ _ (by omega),eV,f824];show Val.vl (bif iW (I.w 3).toI T then iX (I.w 3).toI T else [])=_;rw[h3]
    have hSl:(bif iW g T then iX g T else []).length<=100:=by
     cases iW g T with
     |true=>grind[Nat.le_trans,c14]
     |false=>grind
    generalize (bif iW g T then iX g T else [])=S at q4 D4 hSl⊢;have e5:bU I Jz=cr (0,[.vi (cn (λi=>[dV (bW S i)]) S.length).length,.vi S.length,.vl (cn (λi=>[dV (bW S i)]) S.length)]):=by
     show I.f 862 [.vi 0,.vi 0,.vl [],.vi (bU I nD).toL.length,bU I nD]=_;rw[f862,q4];rfl
    have q6:bU I Mz= .vl (cn (λi=>[dV (bW S i)]) S.length):=by show bZ (bU I Jz).toL 1 2=_;rw[e5];rfl
    refine Z3 (r:=(0,[.vi (cn (λi=>[dV (bW S i)]) S.length).length,.vi S.length,.vl (cn (λi=>[dV (bW S i)]) S.length)])) ?_ e5 (Kp e5 q6 ?_)
    .refine YA (f:=λi=>dV (bW S i)) (n:=S.length) (by omega) (λvs=> ?_) (λi a acc hi=> ?_)
     .rw[Z8,D4];rfl
     .show Val.vl [bZ (bU (I.upd 2000 [a,.vi i,acc]) nD).toL ((I.upd 2000 [a,.vi i,acc]).w (2000+1)).toI 0,bZ (bU (I.upd 2000 [a,.vi i,acc]) nD).toL ((I.upd 2000 [a,.vi i,acc]).w (2000+1)).toI 1]=_;rw[D4,fX];rfl
    .show some (0,[bU I Mz])=_;rw[q6]
  .rw[b9 k3];refine cu (by grind[dX,co,cx,decide_eq_false]) ?_;have e7:bU I Mp=cr (0,[.vi (lI k s l g T).length,.vi T.length,.vl (lI k s l g T)]):=by
    show I.f 863 [.vi 0,.vi 0,.vl [],I.w 0,I.w 1,I.w 2,I.w 3,bU I lT,bU I nf]=_;rw[f863,q2];show mF (lI (I.w 0).toI (I.w 1).toI (I.w 2).toI (I.w 3).toI T) T.length=_;rw[h0,h1,h2,h3];rfl
   have q8:bU I ML= .vl (lI k s l g T):=by show bZ (bU I Mp).toL 1 2=_;rw[e7];rfl
   refine Z3 (r:=(0,[.vi (lI k s l g T).length,.vi T.length,.vl (lI k s l g T)])) ?_ e7 (Kp e7 q8 ?_)
   .exact dY5 f704 h0 h1 h2 h3 k3 D1 D2 (by omega)
   .show some (0,[bU I ML])=_;rw[q8];rfl
end Go.Ev.S9
namespace Go.Ev.S9
open Go Go.Ev
def qZ(ev:List Val)(key:List UInt8)(s e:Int)(q:Nat):Bool:=decide ((Z7 (bW ev q) 1).toS=key)&&(decide (s<=ci (bW ev q) 2)&&decide (ci (bW ev q) 2<e))
def iB(ev:List Val)(key:List UInt8)(s e:Int):List Val:=cn (λq=>bif qZ ev key s e q then [.vl [Z7 (bW ev q) 3]]else []) ev.length
def CH(a:List Val):Val:=mF (iB (bV a 5).toL (bV a 16).toS (bV a 17).toI (bV a 18).toI) (bV a 5).toL.length
def BQ(a:List Val):Val:= .vl [.vl (aA (bV a 0).toL)]
def ux(a:List Val):Val:= .vb ((bV a 0).toL.any λr=>decide (Z2 r=⟨(bV a 1).toS,(bV a 2).toI,(bV a 3).toI⟩))
def re(ev:List Val)(key r:Val):Val:= .vl [key,Z7 r 0,Z7 r 1,(aA (iB ev key.toS (ci r 0) (ci r 1))).getD 0 default,(aA (iB ev key.toS (ci r 0) (ci r 1))).getD 1 default,(aA (iB ev key.toS (ci r 0) (ci r 1))).getD 2 default,(aA (iB ev key.toS (ci r 0) (ci r 1))).getD 3 default]
def nV(M:List Val)(key r:Val):Bool:=M.any λx=>decide (Z2 x=⟨key.toS,ci r 0,ci r 1⟩)
def ue(ev:List Val)(key:Val)(M:List Val)(r:Val):List Val:=bif nV M key r then []else [re ev key r]
def eQ(ev:List Val)(key:Val)(R M0:List Val):Nat->List Val
 |0=>M0
 |j+1=>eQ ev key R M0 j++ue ev key (eQ ev key R M0 j) (bW R j)
def oZ(ev:List Val)(key:Val)(R M0:List Val)(j:Nat):Bool:= !nV (eQ ev key R M0 j) key (bW R j)&& !decide (sE (iB ev key.toS (ci (bW R j) 0) (ci (bW R j) 1))=0)
def zT(ev:List Val)(key:Val)(R M0:List Val):Nat×List Val:=match(List.range R.length).find? (oZ ev key R M0)with
 |some j=>(1,[.vb false,.vi (eQ ev key R M0 j).length,.vi j,.vl (eQ ev key R M0 j)])
 |none=>(0,[.vb false,.vi (eQ ev key R M0 R.length).length,.vi R.length,.vl (eQ ev key R M0 R.length)])
def Nt(a:List Val):Val:=cr (zT (bV a 6).toL (Z7 (bW (bV a 6).toL (bV a 11).toI.toNat) 1) (bV a 13).toL (bV a 3).toL)
theorem dm1(ev:List Val)(key:List UInt8)(s e:Int):(iB ev key s e).length<=ev.length:=by
 have:=je (g:=λq=>bif qZ ev key s e q then [.vl [Z7 (bW ev q) 3]]else []) (m:=1) (λi=>by cases qZ ev key s e i<;>simp) ev.length;grind[iB]
theorem Ux(ev:List Val)(key:Val)(R M0:List Val): ∀j,(eQ ev key R M0 j).length<=M0.length+j
 |0=>i6 _
 |j+1=>by
  have:=Ux ev key R M0 j;grind[eQ,ue,bW,List.length_append,nV]
variable{I:Opq}
theorem dY7{ev R:List Val}{i j:Nat}(h4:(I.w 4).toL=ev)(hi:I.w 2002= .vi i)(hj:I.w 4002= .vi j)(D17: ∀vs,bU (I.upd 6000 vs) dR= .vl R)(hjR:j<R.length)(hn:ev.length<=100):
 cI (λvs=>W7 Kt (I.upd 6000 vs)) [.vi 0,.vi 0,.vl []]=some (0,[.vi (iB ev (Z7 (bW ev i) 1).toS (ci (bW R j) 0) (ci (bW R j) 1)).length,.vi ev.length,.vl (iB ev (Z7 (bW ev i) 1).toS (ci (bW R j) 0) (ci (bW R j) 1))]):=by
 generalize hkey:(Z7 (bW ev i) 1).toS=key;generalize hs:ci (bW R j) 0=s;generalize he:ci (bW R j) 1=e;refine Bq (λq acc=>[.vi acc.length,.vi q,.vl acc]) (a0:=[]) (g:=λq=>bif qZ ev key s e q then [.vl [Z7 (bW ev q) 3]]else []) (n:=ev.length) rfl (λq hq=> ?_) ?_
 .rw[List.nil_append];have ha:(cn (λq=>bif qZ ev key s e q then [.vl [Z7 (bW ev q) 3]]else []) q).length<=q:=by
   have:=je (g:=λq=>bif qZ ev key s e q then [Val.vl [Z7 (bW ev q) 3]]else []) (m:=1) (λi=>by cases qZ ev key s e i<;>simp) q;omega
  generalize cn (λq=>bif qZ ev key s e q then [.vl [Z7 (bW ev q) 3]]else []) q=acc at ha;have v0:(I.upd 6000 [.vi acc.length,.vi q,.vl acc]).w 6000= .vi acc.length:=by rw[cM];simp
  have v1:(I.upd 6000 [.vi acc.length,.vi q,.vl acc]).w 6001= .vi q:=by rw[cM];simp
  have v2:(I.upd 6000 [.vi acc.length,.vi q,.vl acc]).w 6002= .vl acc:=by rw[cM];simp
  have w4:((I.upd 6000 [.vi acc.length,.vi q,.vl acc]).w 4).toL=ev:=by rw[cN _ _ _ (by omega),h4]
  have wi:(I.upd 6000 [.vi acc.length,.vi q,.vl acc]).w 2002= .vi i:=by rw[cN _ _ _ (by omega),hi]
  have wj:(I.upd 6000 [.vi acc.length,.vi q,.vl acc]).w 4002= .vi j:=by rw[cN _ _ _ (by omega),hj]
  have D17:=D17 [.vi acc.length,.vi q,.vl acc];generalize I.upd 6000 [.vi acc.length,.vi q,.vl acc]=aa at*
  have inc:cg .add .i64 (q:Int) 1=((q+1:Nat):Int):=eH (n:=1000000) (by omega) (by omega);have skip:W7 (.ret 0 [bG,zi bx,bC]) aa=some (0,[.vi acc.length,.vi (q+1:Nat),.vl acc]):=by
   show some (0,[aa.w 6000,Val.vi (cg .add .i64 (aa.w 6001).toI 1),aa.w 6002])=_;rw[v0,v1,v2,a06,inc]
  have dc:bU aa yc= .vl (acc++[.vl [Z7 (bW ev q) 3]]):=by
   show Val.vl ((aa.w 6002).toL++[.vl [bZ (aa.w 4).toL (aa.w 6001).toI 3]])=_;rw[v2,w4,v1];rfl
  have c1:dB aa (.op (.scmp .eql) [zg 4 6001 1,zg 4 2002 1])=decide ((Z7 (bW ev q) 1).toS=key):=by
   show decide ((bZ (aa.w 4).toL (aa.w 6001).toI 1).toS=(bZ (aa.w 4).toL (aa.w 2002).toI 1).toS)=_;rw[w4,v1,wi,<-hkey];rfl
  have c2:dB aa (gM (zg 4 6001 2) (bX dR bm 0))=decide (s<=ci (bW ev q) 2):=by
   show decide ((bZ (bU aa dR).toL (aa.w 4002).toI 0).toI<=(bZ (aa.w 4).toL (aa.w 6001).toI 2).toI)=_;rw[w4,v1,D17,wj,<-hs];rfl
  have c3:dB aa (zs (zg 4 6001 2) (bX dR bm 1))=decide (ci (bW ev q) 2<e):=by
   show decide ((bZ (aa.w 4).toL (aa.w 6001).toI 2).toI<(bZ (bU aa dR).toL (aa.w 4002).toI 1).toI)=_;rw[w4,v1,D17,wj,<-he];rfl
  unfold Kt qZ;refine cy (by rw[cP,co,v1,Z8,dN,w4];exact e9 (by show(q:Int)<(ev.length:Int);omega)) (W8 (by rw[cB,cx,co,v1];exact e9 (by show(0:Int)<=(q:Int);omega)) ?_);by_cases q1:(Z7 (bW ev q) 1).toS=key
  .refine cy (c1.trans (e9 q1)) (W8 ?_ ?_)
   .rw[db,cB,cP,cx,co,wj,Z8,D17,e9 (show(0:Int)<=(Val.vi (j:Int)).toI by show(0:Int)<=(j:Int);omega),e9 (show(Val.vi (j:Int)).toI<((Val.vl R).toL.length:Int) by show(j:Int)<(R.length:Int);omega)];rfl
   rw[e9 q1,B4];by_cases q2:s<=ci (bW ev q) 2
   .refine cy (c2.trans (e9 q2)) ?_;rw[e9 q2,B4];by_cases q3:ci (bW ev q) 2<e
    .rw[e9 q3,cond_true];refine cy (c3.trans (e9 q3)) (W8 (MT (q:= bG) (l:= bC) (c:=yc) v0 v2 dc (by omega)) ?_);show some (0,[Val.vi (bU aa yc).toL.length,Val.vi (cg .add .i64 (aa.w 6001).toI 1),bU aa yc])=_;rw[dc,v1,a06,inc];rfl
    .rw[j5 q3,cond_false,s6];exact cu (c3.trans (j5 q3)) skip
   .rw[j5 q2,l6,cond_false,s6];exact cu (c2.trans (j5 q2)) skip
  simp_all[j5,l6,cond_false,s6,cu]
 .show W7 Kt (I.upd 6000 [.vi (iB ev key s e).length,.vi ev.length,.vl (iB ev key s e)])=some (1,[.vi (iB ev key s e).length,.vi ev.length,.vl (iB ev key s e)]);generalize iB ev key s e=acc;have v0:(I.upd 6000 [.vi acc.length,.vi ev.length,.vl acc]).w 6000= .vi acc.length:=by rw[cM];simp
  have v1:(I.upd 6000 [.vi acc.length,.vi ev.length,.vl acc]).w 6001= .vi ev.length:=by rw[cM];simp
  have v2:(I.upd 6000 [.vi acc.length,.vi ev.length,.vl acc]).w 6002= .vl acc:=by rw[cM];simp
  have w4:((I.upd 6000 [.vi acc.length,.vi ev.length,.vl acc]).w 4).toL=ev:=by rw[cN _ _ _ (by omega),h4]
  generalize I.upd 6000 [.vi acc.length,.vi ev.length,.vl acc]=aa at*
  refine cu (by rw[cP,co,v1,Z8,dN,w4];exact j5 (by show¬(ev.length:Int)<(ev.length:Int);omega)) ?_;show some (1,[aa.w 6000,aa.w 6001,aa.w 6002])=_;grind
end Go.Ev.S9
namespace Go.Ev.S9
open Go Go.Ev
variable{R M:List Val}
variable{I:Opq}
theorem d53(h:bU I dR= .vl R){v0:Nat}(hv:2002<v0)(vs:List Val):bU (I.upd v0 vs) dR= .vl R:=by
 show(I.upd v0 vs).f 826 [(I.upd v0 vs).w 0,(I.upd v0 vs).w 1,(I.upd v0 vs).w 2,(I.upd v0 vs).w 3,(I.upd v0 vs).w 4,bZ ((I.upd v0 vs).w 4).toL ((I.upd v0 vs).w 2002).toI 1]=_;rw[cN _ _ _ (by omega),cN _ _ _ (by omega),cN _ _ _ (by omega),cN _ _ _ (by omega),cN _ _ _ (by omega),cN _ _ _ (by omega),eV];exact h
theorem Cz{x n:SX}(hx:bU I x= .vl M)(hn:bU I n= .vi M.length):bU I (.op .lsub [x,aN,n])= .vl M:=by
 show Val.vl (((bU I x).toL.drop (0:Int).toNat).take ((bU I n).toI-0).toNat)=_;simp_all
theorem c16{x n:SX}{c:Int}(hx:bU I x= .vl M)(hn:bU I n= .vi M.length)(hc:(M.length:Int)<=c):dB I (zn (zn (zp n) (fJ n (zL x))) (fJ (zL (.op .lsub [x,aN,n])) (.ci c)))=true:=by
 simp_all[db,cB,Z8,Cz,cx,and2,e9]
theorem dG9(f820: ∀a,I.f 820 a=BQ a)(f827: ∀a,I.f 827 a=ux a)(f843: ∀a,I.f 843 a= .vi (sE (bV a 0).toL))(f867: ∀a,I.f 867 a=CH a)
 {ev:List Val} {i:Nat} (h4:(I.w 4).toL=ev) (hi:I.w 2002= .vi i) (D17:bU I dR= .vl R) (hiv:i<ev.length) (hn:ev.length<=100) (hM:M.length<=100000) (hR:R.length<=100000) (j:Nat) (hj:j<=R.length):
 W7 OG (I.upd 4000 [.vb false,.vi M.length,.vi j,.vl M])=if j<R.length then(if(!nV M (Z7 (bW ev i) 1) (bW R j)&& !decide (sE (iB ev (Z7 (bW ev i) 1).toS (ci (bW R j) 0) (ci (bW R j) 1))=0))=true then some (2,[.vb false,.vi M.length,.vi j,.vl M])else some (0,[.vb false,.vi (M++ue ev (Z7 (bW ev i) 1) M (bW R j)).length,.vi (j+1:Nat),.vl (M++ue ev (Z7 (bW ev i) 1) M (bW R j))]))else some (1,[.vb false,.vi M.length,.vi j,.vl M]):=by
 have v0:(I.upd 4000 [.vb false,.vi M.length,.vi j,.vl M]).w 4000= .vb false:=by rfl
 have v1:(I.upd 4000 [.vb false,.vi M.length,.vi j,.vl M]).w 4001= .vi M.length:=by rfl
 have v2:(I.upd 4000 [.vb false,.vi M.length,.vi j,.vl M]).w 4002= .vi j:=by rfl
 have v3:(I.upd 4000 [.vb false,.vi M.length,.vi j,.vl M]).w 4003= .vl M:=by rfl
 have w4:((I.upd 4000 [.vb false,.vi M.length,.vi j,.vl M]).w 4).toL=ev:=by grind[cN]
 have wi:(I.upd 4000 [.vb false,.vi M.length,.vi j,.vl M]).w 2002= .vi i:=by grind[cN]
 have D17:=d53 D17 (v0:=4000) (by omega) [.vb false,.vi M.length,.vi j,.vl M];have f820: ∀a,(I.upd 4000 [.vb false,.vi M.length,.vi j,.vl M]).f 820 a=BQ a:=λa=>by grind[eV]
 have f827: ∀a,(I.upd 4000 [.vb false,.vi M.length,.vi j,.vl M]).f 827 a=ux a:=λa=>by grind[eV]
 have f843: ∀a,(I.upd 4000 [.vb false,.vi M.length,.vi j,.vl M]).f 843 a= .vi (sE (bV a 0).toL):=λa=>by grind[eV]
 have f867: ∀a,(I.upd 4000 [.vb false,.vi M.length,.vi j,.vl M]).f 867 a=CH a:=λa=>by grind[eV]
 generalize I.upd 4000 [.vb false,.vi M.length,.vi j,.vl M]=aa at*
 have kx:bU aa (zg 4 2002 1)=Z7 (bW ev i) 1:=by
  show bZ (aa.w 4).toL (aa.w 2002).toI 1=_;rw[w4,wi];rfl
 have sx:bU aa (bX dR bm 0)=Z7 (bW R j) 0:=by
  show bZ (bU aa dR).toL (aa.w 4002).toI 0=_;rw[D17,v2];rfl
 have ex:bU aa (bX dR bm 1)=Z7 (bW R j) 1:=by
  show bZ (bU aa dR).toL (aa.w 4002).toI 1=_;rw[D17,v2];rfl
 generalize hkey:Z7 (bW ev i) 1=key at*
 by_cases c:j<R.length
 .rw[e8 c];have inc:cg .add .i64 (j:Int) 1=((j+1:Nat):Int):=eH (n:=1000000) (by omega) (by omega);have jx:bU aa (zi bm)= .vi (j+1:Nat):=by
   show Val.vi (cg .add .i64 (aa.w 4002).toI 1)=_;simp_all
  refine cy (by simp_all[cP,co,Z8,e9]) ?_;refine W8 (by show dB aa (zn (zp aW) (zs aW (zl 4)))=true;rw[db,cB,cP,cx,co,wi,Z8,dN,w4];simp_all) ?_;refine W8 (by simp_all[cB,cx,co,e9]) ?_;refine W8 (c16 (x:= bE) (n:= bg) v3 v1 (by omega)) ?_;have hd:dB aa (.app 827 [.op .lsub [bE,aN,bg],zg 4 2002 1,bX dR bm 0,bX dR bm 1])=nV M key (bW R j):=by
   show(aa.f 827 [bU aa (.op .lsub [bE,aN,bg]),bU aa (zg 4 2002 1),bU aa (bX dR bm 0),bU aa (bX dR bm 1)]).toB=_;rw[f827,Cz (x:= bE) (n:= bg) v3 v1,kx,sx,ex];rfl
  unfold ue;cases hh:nV M key (bW R j)with
  |true=>
   refine cy (hd.trans hh) ?_;show some (0,[aa.w 4000,aa.w 4001,bU aa (zi bm),aa.w 4003])=_;grind
  |false=>
   refine cu (hd.trans hh) ?_;generalize hV:iB ev key.toS (ci (bW R j) 0) (ci (bW R j) 1)=V;have hVl:V.length<=100:=by grind[Nat.le_trans,dm1]
   have e20:bU aa oW=cr (0,[.vi V.length,.vi ev.length,.vl V]):=by
    show aa.f 867 [.vi 0,.vi 0,.vl [],.vi 0,.vi (aa.w 4).toL.length,aa.w 4,aa.w 0,aa.w 1,aa.w 2,aa.w 3,aa.w 4001,aa.w 4003,aa.w 2002,.vi (bU aa dR).toL.length,bU aa dR,aa.w 4002,bU aa (zg 4 2002 1),bU aa (bX dR bm 0),bU aa (bX dR bm 1)]=_;rw[f867,kx,sx,ex];show mF (iB (aa.w 4).toL key.toS (ci (bW R j) 0) (ci (bW R j) 1)) (aa.w 4).toL.length=_;rw[w4,hV];rfl
   have a0:bU aa (zo oW 0)= .vi V.length:=by show bZ (bU aa oW).toL 1 0=_;rw[e20];rfl
   have a2:bU aa (zo oW 2)= .vl V:=by show bZ (bU aa oW).toL 1 2=_;rw[e20];rfl
   have e21:bU aa mH= .vl V:=Cz (x:= (zo oW 2)) (n:= (zo oW 0)) a2 a0;have g820: ∀p:Nat,bU aa (.op .lget [.app 820 [mH],aN,.ci p])=(aA V).getD p default:=λp=>by
    show bZ (aa.f 820 [bU aa mH]).toL 0 (p:Int)=_;rw[f820,e21];rfl
   have h843:dB aa (dv (.app 843 [mH]) aN)= !decide (sE V=0):=by
    show(!decide ((aa.f 843 [bU aa mH]).toI=0))=_;rw[f843,e21];rfl
   refine Z3 (r:=(0,[.vi V.length,.vi ev.length,.vl V])) ?_ e20 (W8 (c16 a2 a0 (by omega)) ?_)
   .rw[<-hV,<-hkey];exact dY7 w4 wi v2 (d53 D17 (by omega)) c hn
   .by_cases cs:sE V=0
    .have d22:bU aa zG= .vl (M++[re ev key (bW R j)]):=by
      show Val.vl ((aa.w 4003).toL++[.vl [bU aa (zg 4 2002 1),bU aa (bX dR bm 0),bU aa (bX dR bm 1),bU aa (.op .lget [.app 820 [mH],aN,.ci (0:Nat)]),bU aa (.op .lget [.app 820 [mH],aN,.ci (1:Nat)]),bU aa (.op .lget [.app 820 [mH],aN,.ci (2:Nat)]),bU aa (.op .lget [.app 820 [mH],aN,.ci (3:Nat)])]])=_;rw[v3,kx,sx,ex,g820,g820,g820,g820];unfold re;rw[hV];rfl
     refine cu (by rw[h843,e9 cs];rfl) (W8 (MT (q:= bg) (l:= bE) (c:=zG) v1 v3 d22 (by omega)) ?_);show some (0,[aa.w 4000,Val.vi (bU aa zG).toL.length,bU aa (zi bm),bU aa zG])=_;simp_all
    .refine cy (by rw[h843,j5 cs];rfl) ?_;show some (2,[Val.vb false,aa.w 4001,aa.w 4002,aa.w 4003])=_;grind
 .refine cu (by rw[cP,co,v2,Z8,D17];exact j5 (by show¬(j:Int)<(R.length:Int);omega)) ?_;show some (1,[aa.w 4000,aa.w 4001,aa.w 4002,aa.w 4003])=_;grind
theorem dY8(f820: ∀a,I.f 820 a=BQ a)(f827: ∀a,I.f 827 a=ux a)(f843: ∀a,I.f 843 a= .vi (sE (bV a 0).toL))(f867: ∀a,I.f 867 a=CH a)
 {ev M0:List Val} {i:Nat} (h4:(I.w 4).toL=ev) (hi:I.w 2002= .vi i) (D17:bU I dR= .vl R) (hiv:i<ev.length) (hn:ev.length<=100) (hM:M0.length+R.length<=100000):
 cI (λvs=>W7 OG (I.upd 4000 vs)) [.vb false,.vi M0.length,.vi 0,.vl M0]=some (zT ev (Z7 (bW ev i) 1) R M0):=by
 have run:=λj hj=>dG9 (M:=eQ ev (Z7 (bW ev i) 1) R M0 j) f820 f827 f843 f867 h4 hi D17 hiv hn (by grind[Ux,Z7,bW]) (by omega) j hj
 unfold zT;generalize Z7 (bW ev i) 1=key at run⊢;cases hf:(List.range R.length).find? (oZ ev key R M0)with
 |none=>
  refine eG (st:=λm=>[.vb false,.vi (eQ ev key R M0 m).length,.vi m,.vl (eQ ev key R M0 m)]) (n:=R.length) (λm hm=> ?_) ?_
  .have h1:=A6.1 hf m (o8.2 hm);unfold oZ at h1;rw[run m (by omega),e8 hm,b9 h1];rfl
  grind
 |some j=>
  obtain⟨a,b,c⟩:=oI hf;refine eG (st:=λm=>[.vb false,.vi (eQ ev key R M0 m).length,.vi m,.vl (eQ ev key R M0 m)]) (n:=j) (λm hm=> ?_) ?_
  .have h1: ¬oZ ev key R M0 m=true:=by grind
   unfold oZ at h1;rw[run m (by omega),e8 (by omega),b9 h1];rfl
  .unfold oZ at b;grind
end Go.Ev.S9
namespace Go.Ev.S9
open Go Go.Ev
variable{ev:List Val}
def fK(ev:List Val)(i:Nat):Val:=Z7 (bW ev i) 1
def eo(k s l g:Int)(ev:List Val)(i:Nat):List Val:=mP k s l g ev (fK ev i).toS
def ef(k s l g:Int)(ev:List Val):Nat->List Val
 |0=>[]
 |i+1=>eQ ev (fK ev i) (eo k s l g ev i) (ef k s l g ev i) (eo k s l g ev i).length
def rC(k s l g:Int)(ev:List Val)(i:Nat):Option Nat:=(List.range (eo k s l g ev i).length).find? (oZ ev (fK ev i) (eo k s l g ev i) (ef k s l g ev i))
def Df(k s l g:Int)(ev:List Val)(i:Nat):List Val:=eQ ev (fK ev i) (eo k s l g ev i) (ef k s l g ev i) ((rC k s l g ev i).getD 0)
def BA(k s l g:Int)(ev:List Val):Nat×List Val:=match(List.range ev.length).find? (λi=>(rC k s l g ev i).isSome)with
 |some i=>(1,[.vb false,.vi (Df k s l g ev i).length,.vi i,.vl (Df k s l g ev i)])
 |none=>(0,[.vb false,.vi (ef k s l g ev ev.length).length,.vi ev.length,.vl (ef k s l g ev ev.length)])
def VB(a:List Val):Val:=cr (BA (bV a 7).toI (bV a 8).toI (bV a 9).toI (bV a 10).toI (bV a 6).toL)
def fB(k s l g:Int)(ev:List Val):Bool:=((List.range ev.length).find? (λi=>(rC k s l g ev i).isSome)).isNone
def Fs(a:List Val):Val:= .vb (fB (bV a 0).toI (bV a 1).toI (bV a 2).toI (bV a 3).toI (bV a 4).toL)
def nO(X:Nat->List Val->Val)(a:List Val):Val:=if fB (bV a 0).toI (bV a 1).toI (bV a 2).toI (bV a 3).toI (bV a 4).toL=true then X 490 [.vl (ef (bV a 0).toI (bV a 1).toI (bV a 2).toI (bV a 3).toI (bV a 4).toL (bV a 4).toL.length)]else .vl []
theorem c17(k s l g:Int)(ev:List Val)(key:List UInt8):(mP k s l g ev key).length<=16*ev.length:=by
 have hT:=Wp ev key;unfold mP wx;generalize kX ev key=T at hT⊢;by_cases k3:k=3
 .rw[e8 k3];generalize hS:(bif iW g T then iX g T else [])=S;have hSl:S.length<=T.length:=by
   rw[<-hS];cases iW g T with
   |true=>exact c14 g T
   |false=>grind
  rw[mX (λi=>dV (bW S i)) S.length];omega
 .rw[b9 k3];have:=je (g:=λi=>cX k s l g (Z7 (bW T i) 0)) (m:=16) (λi=>CL k3) T.length;omega
theorem cB8(k s l g:Int)(ev:List Val): ∀i,(ef k s l g ev i).length<=i*(16*ev.length)
 |0=>r9 _
 |i+1=>by
  have h1:=cB8 k s l g ev i;have h2:=Ux ev (fK ev i) (eo k s l g ev i) (ef k s l g ev i) (eo k s l g ev i).length;have h3:(eo k s l g ev i).length<=16*ev.length:=c17 k s l g ev _;show(eQ ev (fK ev i) (eo k s l g ev i) (ef k s l g ev i) (eo k s l g ev i).length).length<=_;grind
variable{I:Opq}
section
variable(f820: ∀a,I.f 820 a=BQ a)(f826: ∀a,I.f 826 a=Em a)(f827: ∀a,I.f 827 a=ux a)(f843: ∀a,I.f 843 a= .vi (sE (bV a 0).toL))(f866: ∀a,I.f 866 a=Nt a)(f867: ∀a,I.f 867 a=CH a)
include f820 f826 f827 f843 f866 f867
theorem dH1{k s l g:Int}(h0:(I.w 0).toI=k)(h1:(I.w 1).toI=s)(h2:(I.w 2).toI=l)(h3:(I.w 3).toI=g)(h4:(I.w 4).toL=ev)(hn:ev.length<=24)(i:Nat)(hi:i<=ev.length):
 W7 Rj (I.upd 2000 [.vb false,.vi (ef k s l g ev i).length,.vi i,.vl (ef k s l g ev i)])=if i<ev.length then(if(rC k s l g ev i).isSome then some (2,[.vb false,.vi (Df k s l g ev i).length,.vi i,.vl (Df k s l g ev i)])else some (0,[.vb false,.vi (ef k s l g ev (i+1)).length,.vi (i+1:Nat),.vl (ef k s l g ev (i+1))]))else some (1,[.vb false,.vi (ef k s l g ev i).length,.vi i,.vl (ef k s l g ev i)]):=by
 have hM:=cB8 k s l g ev i;have hMs:ef k s l g ev (i+1)=eQ ev (fK ev i) (eo k s l g ev i) (ef k s l g ev i) (eo k s l g ev i).length:=rfl;have hR:(eo k s l g ev i).length<=16*ev.length:=c17 k s l g ev _;have hM2:(ef k s l g ev i).length<=24*384:=n7 hM (G6 (by omega) (by omega));have hX:Df k s l g ev i=eQ ev (fK ev i) (eo k s l g ev i) (ef k s l g ev i) ((rC k s l g ev i).getD 0):=rfl;have hF:rC k s l g ev i=(List.range (eo k s l g ev i).length).find? (oZ ev (fK ev i) (eo k s l g ev i) (ef k s l g ev i)):=rfl;have hspR:eo k s l g ev i=mP k s l g ev (fK ev i).toS:=rfl;rw[hMs,hX,hF];generalize eo k s l g ev i=R at hR hspR⊢;generalize ef k s l g ev i=M at hM2⊢;have v0:(I.upd 2000 [.vb false,.vi M.length,.vi i,.vl M]).w 2000= .vb false:=by rw[cM];simp
 have v1:(I.upd 2000 [.vb false,.vi M.length,.vi i,.vl M]).w 2001= .vi M.length:=by rw[cM];simp
 have v2:(I.upd 2000 [.vb false,.vi M.length,.vi i,.vl M]).w 2002= .vi i:=by rw[cM];simp
 have v3:(I.upd 2000 [.vb false,.vi M.length,.vi i,.vl M]).w 2003= .vl M:=by rw[cM];simp
 have w0:((I.upd 2000 [.vb false,.vi M.length,.vi i,.vl M]).w 0).toI=k:=by rw[cN _ _ _ (by omega),h0]
 have w1:((I.upd 2000 [.vb false,.vi M.length,.vi i,.vl M]).w 1).toI=s:=by rw[cN _ _ _ (by omega),h1]
 have w2:((I.upd 2000 [.vb false,.vi M.length,.vi i,.vl M]).w 2).toI=l:=by rw[cN _ _ _ (by omega),h2]
 have w3:((I.upd 2000 [.vb false,.vi M.length,.vi i,.vl M]).w 3).toI=g:=by rw[cN _ _ _ (by omega),h3]
 have w4:((I.upd 2000 [.vb false,.vi M.length,.vi i,.vl M]).w 4).toL=ev:=by rw[cN _ _ _ (by omega),h4]
 have f820: ∀a,(I.upd 2000 [.vb false,.vi M.length,.vi i,.vl M]).f 820 a=BQ a:=λa=>by exact f820 a
 have f826: ∀a,(I.upd 2000 [.vb false,.vi M.length,.vi i,.vl M]).f 826 a=Em a:=λa=>by exact f826 a
 have f827: ∀a,(I.upd 2000 [.vb false,.vi M.length,.vi i,.vl M]).f 827 a=ux a:=λa=>by exact f827 a
 have f843: ∀a,(I.upd 2000 [.vb false,.vi M.length,.vi i,.vl M]).f 843 a= .vi (sE (bV a 0).toL):=λa=>by exact f843 a
 have f866: ∀a,(I.upd 2000 [.vb false,.vi M.length,.vi i,.vl M]).f 866 a=Nt a:=λa=>by exact f866 a
 have f867: ∀a,(I.upd 2000 [.vb false,.vi M.length,.vi i,.vl M]).f 867 a=CH a:=λa=>by exact f867 a
 generalize I.upd 2000 [.vb false,.vi M.length,.vi i,.vl M]=aa at*
 have l4:(bU aa (zl 4)).toI=(ev.length:Int):=by rw[Z8,dN,w4]
 by_cases c:i<ev.length
 .rw[e8 c];have d17:bU aa dR= .vl R:=by
   show aa.f 826 [aa.w 0,aa.w 1,aa.w 2,aa.w 3,aa.w 4,bZ (aa.w 4).toL (aa.w 2002).toI 1]=_;rw[f826];show Val.vl (mP (aa.w 0).toI (aa.w 1).toI (aa.w 2).toI (aa.w 3).toI (aa.w 4).toL (bZ (aa.w 4).toL (aa.w 2002).toI 1).toS)=_;rw[w0,w1,w2,w3,w4,v2,hspR];rfl
  have e23:bU aa fh=cr (zT ev (fK ev i) R M):=by
   show aa.f 866 [aa.w 2000,.vi (aa.w 2003).toL.length,.vi 0,aa.w 2003,.vi 0,.vi (aa.w 4).toL.length,aa.w 4,aa.w 0,aa.w 1,aa.w 2,aa.w 3,aa.w 2002,.vi (bU aa dR).toL.length,bU aa dR]=_;rw[f866,d17];show cr (zT (aa.w 4).toL (Z7 (bW (aa.w 4).toL (aa.w 2002).toI.toNat) 1) R (aa.w 2003).toL)=_;rw[w4,v2,v3];rfl
  have i1:bU aa (zi aW)= .vi (i+1:Nat):=by
   show Val.vi (cg .add .i64 (aa.w 2002).toI 1)=_;rw[v2,a06,eH (n:=1000000) (by omega) (by omega)]
  refine cy (by show dB aa (zs aW (zl 4))=true;rw[cP,co,v2,l4];exact e9 (by show(i:Int)<(ev.length:Int);omega)) ?_;refine W8 (by rw[cB,cx,co,v2];exact e9 (by show(0:Int)<=(i:Int);omega)) ?_;refine W8 (by rw[cB,cx,l4];exact e9 (by omega)) ?_;refine W8 (by show dB aa (cC aR (zl 2003))=true;rw[dX,co,v1,Z8,dN,v3];exact e9 rfl) ?_;refine Z3 (r:=zT ev (fK ev i) R M) ?_ e23 ?_
  .show cI _ [aa.w 2000,Val.vi (aa.w 2003).toL.length,.vi 0,aa.w 2003]=_;rw[v0,v3];exact dY8 (M0:=M) f820 f827 f843 f867 w4 v2 d17 c (by omega) (by omega)
  .unfold zT at e23⊢;cases hf:(List.range R.length).find? (oZ ev (fK ev i) R M)with
   |none=>
    rw[hf]at e23;have a0:bU aa (zo fh 0)= .vb false:=by show bZ (bU aa fh).toL 1 0=_;rw[e23];rfl
    have a1:bU aa (zo fh 1)= .vi (eQ ev (fK ev i) R M R.length).length:=by show bZ (bU aa fh).toL 1 1=_;rw[e23];rfl
    have a3:bU aa (zo fh 3)= .vl (eQ ev (fK ev i) R M R.length):=by show bZ (bU aa fh).toL 1 3=_;rw[e23];rfl
    refine W8 (by show dB aa (cC (zo fh 1) (zL (zo fh 3)))=true;rw[dX,Z8,a1,a3];exact e9 rfl) ?_;show some (0,[bU aa (zo fh 0),Val.vi (bU aa (zo fh 3)).toL.length,bU aa (zi aW),bU aa (zo fh 3)])=_;rw[a0,a3,i1];rfl
   |some j=>
    rw[hf]at e23;have a0:bU aa (zo fh 0)= .vb false:=by show bZ (bU aa fh).toL 1 0=_;rw[e23];rfl
    have a1:bU aa (zo fh 1)= .vi (eQ ev (fK ev i) R M j).length:=by show bZ (bU aa fh).toL 1 1=_;rw[e23];rfl
    have a3:bU aa (zo fh 3)= .vl (eQ ev (fK ev i) R M j):=by show bZ (bU aa fh).toL 1 3=_;rw[e23];rfl
    refine W8 (by show dB aa (cC (zo fh 1) (zL (zo fh 3)))=true;rw[dX,Z8,a1,a3];exact e9 rfl) ?_;show some (2,[bU aa (zo fh 0),Val.vi (bU aa (zo fh 3)).toL.length,aa.w 2002,bU aa (zo fh 3)])=_;rw[a0,a3,v2];rfl
 .rw[b9 c];refine cu (by show dB aa (zs aW (zl 4))=false;rw[cP,co,v2,l4];exact j5 (by show¬(i:Int)<(ev.length:Int);omega)) ?_;show some (1,[aa.w 2000,aa.w 2001,aa.w 2002,aa.w 2003])=_;rw[v0,v1,v2,v3]
theorem dY9{k s l g:Int}(h0:(I.w 0).toI=k)(h1:(I.w 1).toI=s)(h2:(I.w 2).toI=l)(h3:(I.w 3).toI=g)(h4:(I.w 4).toL=ev)(hn:ev.length<=24):
 cI (λvs=>W7 Rj (I.upd 2000 vs)) [.vb false,.vi 0,.vi 0,.vl []]=some (BA k s l g ev):=by
 have run:=dH1 f820 f826 f827 f843 f866 f867 h0 h1 h2 h3 h4 hn;unfold BA;cases hf:(List.range ev.length).find? (λi=>(rC k s l g ev i).isSome)with
 |none=>
  refine eG (st:=λm=>[.vb false,.vi (ef k s l g ev m).length,.vi m,.vl (ef k s l g ev m)]) (n:=ev.length) (λm hm=> ?_) ?_
  .have h1:=A6.1 hf m (o8.2 hm);rw[run m (by omega),e8 hm,b9 h1]
  grind
 |some j=>
  obtain⟨a,b,c⟩:=oI hf;refine eG (st:=λm=>[.vb false,.vi (ef k s l g ev m).length,.vi m,.vl (ef k s l g ev m)]) (n:=j) (λm hm=> ?_) ?_
  .rw[run m (by omega),e8 (by omega),b9 (by rw[c m hm];simp)]
  grind
theorem dm2{X:Nat->List Val->Val}(f490: ∀a,I.f 490 a=X 490 a)(f865: ∀a,I.f 865 a=VB a){k s l g:Int}(h0:(I.w 0).toI=k)(h1:(I.w 1).toI=s)(h2:(I.w 2).toI=l)(h3:(I.w 3).toI=g)(h4:(I.w 4).toL=ev)(hn:ev.length<=24)
 (hok:fB k s l g ev=true->(ef k s l g ev ev.length).length<=400/\(I.f 431 [.vl (ef k s l g ev ev.length)]).toB=true):
 W7 T_rRows I=some (0,[Fs [I.w 0,I.w 1,I.w 2,I.w 3,I.w 4],nO X [I.w 0,I.w 1,I.w 2,I.w 3,I.w 4]]):=by
 have hv:([Fs [I.w 0,I.w 1,I.w 2,I.w 3,I.w 4],nO X [I.w 0,I.w 1,I.w 2,I.w 3,I.w 4]]:List Val)=[.vb (fB k s l g ev),if fB k s l g ev=true then X 490 [.vl (ef k s l g ev ev.length)]else .vl []]:=by
  show [Val.vb (fB (I.w 0).toI (I.w 1).toI (I.w 2).toI (I.w 3).toI (I.w 4).toL),if fB (I.w 0).toI (I.w 1).toI (I.w 2).toI (I.w 3).toI (I.w 4).toL=true then X 490 [.vl (ef (I.w 0).toI (I.w 1).toI (I.w 2).toI (I.w 3).toI (I.w 4).toL (I.w 4).toL.length)]else .vl []]=_;grind
 have e0:bU I tf=cr (BA k s l g ev):=by
  show I.f 865 [.vb false,.vi 0,.vi 0,.vl [],.vi 0,.vi (I.w 4).toL.length,I.w 4,I.w 0,I.w 1,I.w 2,I.w 3]=_;rw[f865,<-h0,<-h1,<-h2,<-h3,<-h4];rfl
 refine Z3 (r:=BA k s l g ev) (dY9 f820 f826 f827 f843 f866 f867 h0 h1 h2 h3 h4 hn) e0 ?_;unfold fB BA at*
 cases hf:(List.range ev.length).find? (λi=>(rC k s l g ev i).isSome)with
 |none=>
  rw[hf]at e0 hok;obtain⟨k1,k2⟩:=hok rfl;generalize ef k s l g ev ev.length=M at*
  have a1:bU I DC= .vi M.length:=by show bZ (bU I tf).toL 1 1=_;rw[e0];rfl
  have a2:bU I MK= .vl M:=by show bZ (bU I tf).toL 1 3=_;rw[e0];rfl
  have a3:bU I xJ= .vl M:=Cz (x:=MK) (n:=DC) a2 a1;refine W8 ?_ ?_
  .rw[db,db,db,cB,cB,cB,Z8,Z8,a1,a2,a3,cx,cx];have:dB I (.app 431 [xJ])=true:=by
    show(I.f 431 [bU I xJ]).toB=true;grind
   exact and2 (and2 (e9 (by simp_all)) (e9 (by simp_all))) (and2 (e9 (by show(M.length:Int)<=400;omega)) this)
  .show some (0,[Val.vb true,I.f 490 [bU I xJ]])=_;grind
 |some i=>
  rw[hf]at e0;show some (0,[bU I (zo tf 0),Val.vl []])=_;have:bU I (zo tf 0)= .vb false:=by show bZ (bU I tf).toL 1 0=_;rw[e0];rfl
  grind
end
end Go.Ev.S9
namespace Go.Ev.S9
open Go Go.Ev
def tg(L:List Val)(mark:Int)(i:Nat):Bool:=decide (mark<ci (bW L i) 2)
def BU(L:List Val)(mark:Int):Nat×List Val:=gv (.vi 0) (λk=>[.vi k,.vi k]) (tg L mark) L.length
def e76(a:List Val):Val:=cr (BU (bV a 3).toL (bV a 4).toI)
def eY(L:List Val)(mark:Int)(k:Nat):Nat->Nat×List Val
 |0=>(k,L)
 |j+1=>if ci (bW (eY L mark k j).2 (k+1+j)) 2<=mark then((eY L mark k j).1+1,(eY L mark k j).2.set (eY L mark k j).1 (cK (bW (eY L mark k j).2 (k+1+j))))else eY L mark k j
def Cd(L:List Val)(mark:Int)(k:Nat):Nat×List Val:=(0,[.vi (eY L mark k (L.length-(k+1))).1,.vi L.length,.vl (eY L mark k (L.length-(k+1))).2])
def We(a:List Val):Val:=cr (Cd (bV a 2).toL (bV a 5).toI (bV a 0).toI.toNat)
def eE(mark:Int)(r:Val):Bool:=decide (ci r 2<=mark)
def JP(X:Nat->List Val->Val)(a:List Val):Val:= .vl ((X 490 [bV a 0]).toL.filter (eE (bV a 1).toI))
theorem nU{l:List Val}{i:Nat}(h:i<l.length):bW l i=l[i]:=by simp[bW,j9,h]
theorem Kb{l:List Val}{i:Nat}(h:i<l.length):l.take (i+1)=l.take i++[bW l i]:=by
 rw[O8,show l[i]?.toList=[bW l i] by simp[bW,j9,h]]
theorem Oa{L:List Val}{mark:Int}{k:Nat}(hL: ∀r∈L,cK r=r)(hk:(L.take k).filter (eE mark)=L.take k)(hkn:k<L.length)(hkp:eE mark (bW L k)=false): ∀j,k+1+j<=L.length->
 (eY L mark k j).1<=k+j/\k<=(eY L mark k j).1/\(eY L mark k j).2.length=L.length/\(∀q,k+1+j<=q->bW (eY L mark k j).2 q=bW L q)/\(eY L mark k j).2.take (eY L mark k j).1=(L.take (k+1+j)).filter (eE mark)
 |0,_=>by
  refine⟨i6 _,i6 _,rfl,λ_ _=>rfl,?_⟩;show L.take k=(L.take (k+1)).filter (eE mark);rw[Kb hkn,C6,hk,V8 (by rw[hkp];simp)];simp
 |j+1,hj=>by
  obtain⟨h1,h2,h3,h4,h5⟩:=Oa hL hk hkn hkp j (by omega);have ha:=h4 (k+1+j) (i6 _);have hs:(L.take (k+1+(j+1))).filter (eE mark)=(L.take (k+1+j)).filter (eE mark)++(if eE mark (bW L (k+1+j))then [bW L (k+1+j)]else []):=by
   rw[show k+1+(j+1)=(k+1+j)+1 by omega,Kb (by omega),C6];cases hc:eE mark (bW L (k+1+j))with
   |true=>rw[V9 hc];rfl
   |false=>rw[V8 (by rw[hc];simp)];rfl
  unfold eY;rw[ha,hs,<-h5];by_cases c:ci (bW L (k+1+j)) 2<=mark
  .rw[e8 c,e8 (show eE mark (bW L (k+1+j))=true from e9 c),hL _ (kl (by omega))];generalize eY L mark k j=p at*
   obtain⟨w,M⟩:=p;refine⟨by omega,by omega,by simpa using h3,λq hq=> ?_,?_⟩
   .have:=h4 q (by omega);rw[<-this];show(M.set w (bW L (k+1+j))).getD q (.vl [])=M.getD q (.vl []);rw[j9,j9,W1 (by omega)]
   .have hM:M.length=L.length:=h3;rw[Kb (by rw[C4,hM];omega),List.take_set_of_le (i6 _)];rw[nU (by rw[C4,hM];omega),List.getElem_set_self]
  .rw[if_neg c,if_neg (show¬eE mark (bW L (k+1+j))=true from by unfold eE;rw[decide_eq_false c];simp),List.append_nil];exact⟨by omega,h2,h3,λq hq=>h4 q (by omega),rfl⟩
variable{I:Opq}
section
variable{L:List Val}{mark:Int}(D0: ∀vs,bU (I.upd 2000 vs) (.app 490 [aS])= .vl L)(hm:(I.w 5).toI=mark)
include D0 hm
theorem dZ0(hn:L.length<=400):cI (λvs=>W7 Ru (I.upd 2000 vs)) [.vi 0,.vi 0]=some (BU L mark):=by
 have run: ∀(x:Val) (i:Nat),W7 Ru (I.upd 2000 [x,.vi i])=if i<L.length then(if tg L mark i then some (2,[.vi i,.vi i])else some (0,[x,.vi (i+1:Nat)]))else some (1,[x,.vi i]):=λx i=>by
  have v0:(I.upd 2000 [x,.vi i]).w 2000=x:=by rw[cM];simp
  have v1:(I.upd 2000 [x,.vi i]).w 2001= .vi i:=by rw[cM];simp
  have w5:((I.upd 2000 [x,.vi i]).w 5).toI=mark:=by rw[cN _ _ _ (by omega),hm]
  have D0:=D0 [x,.vi i];generalize I.upd 2000 [x,.vi i]=aa at*
  have l0:(bU aa iN).toI=(L.length:Int):=by show((bU aa (.app 490 [aS])).toL.length:Int)=_;rw[D0];rfl
  by_cases c:i<L.length
  .rw[e8 c];refine cy (by rw[cP,co,v1,l0];exact e9 (by show(i:Int)<(L.length:Int);omega)) (W8 (by rw[cB,cx,co,v1];exact e9 (by show(0:Int)<=(i:Int);omega)) ?_);have hq:dB aa (fm (bX (.app 490 [aS]) aR 2) be)=tg L mark i:=by
    show decide ((aa.w 5).toI<(bZ (bU aa (.app 490 [aS])).toL (aa.w 2001).toI 2).toI)=_;rw[D0,v1,w5];rfl
   cases hl:tg L mark i with
   |true=>
    rw[e8 rfl];refine cy (hq.trans hl) ?_;show some (2,[aa.w 2001,aa.w 2001])=_;rw[v1]
   |false=>
    rw[b9 (by simp)];refine cu (hq.trans hl) ?_;show some (0,[aa.w 2000,Val.vi (cg .add .i64 (aa.w 2001).toI 1)])=_;rw[v0,v1,a06,eH (n:=1000000) (by omega) (by omega)]
  .rw[b9 c];refine cu (by rw[cP,co,v1,l0];exact j5 (by show¬(i:Int)<(L.length:Int);omega)) ?_;show some (1,[aa.w 2000,aa.w 2001])=_;rw[v0,v1]
 refine ws (λi hi hb=> ?_) (λi hi hb=> ?_) ?_
 .rw[run,e8 hi,b9 (by rw[hb];simp)]
 .rw[run,e8 hi,e8 hb]
 grind
theorem dZ1(hL: ∀r∈L,cK r=r){k:Nat}(hk:(L.take k).filter (eE mark)=L.take k)(hkn:k<L.length)(hkp:eE mark (bW L k)=false)(hn:L.length<=400):
 cI (λvs=>W7 UM (I.upd 2000 vs)) [.vi k,.vi (k+1:Nat),.vl L]=some (Cd L mark k):=by
 refine eG (st:=λj=>[.vi (eY L mark k j).1,.vi (k+1+j:Nat),.vl (eY L mark k j).2]) (n:=L.length-(k+1)) (λj hj=> ?_) ?_
 .obtain⟨h1,h2,h3,h4,h5⟩:=Oa hL hk hkn hkp j (by omega);show W7 UM (I.upd 2000 [.vi (eY L mark k j).1,.vi (k+1+j:Nat),.vl (eY L mark k j).2])=some (0,[.vi (eY L mark k (j+1)).1,.vi (k+1+j+1:Nat),.vl (eY L mark k (j+1)).2]);rw[show eY L mark k (j+1)=if ci (bW (eY L mark k j).2 (k+1+j)) 2<=mark then((eY L mark k j).1+1,(eY L mark k j).2.set (eY L mark k j).1 (cK (bW (eY L mark k j).2 (k+1+j))))else eY L mark k j from rfl];generalize eY L mark k j=p at*
  obtain⟨wr,M⟩:=p;replace h3:M.length=L.length:=h3;have v0:=kW I 2000 (.vi wr) (.vi (k+1+j:Nat)) (.vl M);have v1:(I.upd 2000 [.vi wr,.vi (k+1+j:Nat),.vl M]).w 2001=_:=fX I 2000 (.vi wr) (.vi (k+1+j:Nat)) (.vl M);have v2:(I.upd 2000 [.vi wr,.vi (k+1+j:Nat),.vl M]).w 2002=_:=kP I 2000 (.vi wr) (.vi (k+1+j:Nat)) (.vl M);have w5:((I.upd 2000 [.vi wr,.vi (k+1+j:Nat),.vl M]).w 5).toI=mark:=by grind[cN]
  have D0:=D0 [.vi wr,.vi (k+1+j:Nat),.vl M];generalize I.upd 2000 [.vi wr,.vi (k+1+j:Nat),.vl M]=aa at*
  generalize hr:k+1+j=r at*
  have l0:(bU aa iN).toI=(L.length:Int):=by show((bU aa (.app 490 [aS])).toL.length:Int)=_;rw[D0];rfl
  have gx: ∀c:Nat,bU aa (.op .lget [aW,aR,.ci c])=Z7 (bW M r) c:=λc=>by
   show bZ (aa.w 2002).toL (aa.w 2001).toI (c:Int)=_;rw[v1,v2];rfl
  have hq:dB aa (fm (zg 2002 2001 2) be)=decide (mark<ci (bW M r) 2):=by
   show decide ((aa.w 5).toI<(bU aa (.op .lget [aW,aR,.ci (2:Nat)])).toI)=_;rw[gx,w5];rfl
  have inc:cg .add .i64 (r:Int) 1=((r+1:Nat):Int):=eH (n:=1000000) (by omega) (by omega);have incw:cg .add .i64 (wr:Int) 1=((wr+1:Nat):Int):=eH (n:=1000000) (by omega) (by omega);refine cy (by rw[cP,co,v1,l0];exact e9 (by show(r:Int)<(L.length:Int);omega)) (W8 (by rw[cB,cx,co,v1];rfl) (W8 (by rw[cP,co,v1,Z8,dN,v2];exact e9 (by show(r:Int)<(M.length:Int);omega)) ?_));by_cases c:ci (bW M r) 2<=mark
  .rw[e8 c];refine cy (by grind[iu,decide_eq_false]) (W8 ?_ (W8 ?_ ?_))
   .rw[db,cB,cP,cx,co,show aa.w 2000=_ from v0,l0];exact and2 (e9 (by show(0:Int)<=(wr:Int);omega)) (e9 (by show(wr:Int)<(L.length:Int);omega))
   .rw[cP,co,show aa.w 2000=_ from v0,Z8,dN,v2];exact e9 (by show(wr:Int)<(M.length:Int);omega)
   .show some (0,[Val.vi (cg .add .i64 (aa.w 2000).toI 1),Val.vi (cg .add .i64 (aa.w 2001).toI 1),Val.vl ((aa.w 2002).toL.set (aa.w 2000).toI.toNat (.vl [bU aa (.op .lget [aW,aR,.ci (0:Nat)]),bU aa (.op .lget [aW,aR,.ci (1:Nat)]),bU aa (.op .lget [aW,aR,.ci (2:Nat)]),bU aa (.op .lget [aW,aR,.ci (3:Nat)]),bU aa (.op .lget [aW,aR,.ci (4:Nat)]),bU aa (.op .lget [aW,aR,.ci (5:Nat)]),bU aa (.op .lget [aW,aR,.ci (6:Nat)])]))])=_;rw[gx,gx,gx,gx,gx,gx,gx,show aa.w 2000=_ from v0,v1,v2,a06,a06,inc,incw];rfl
  .refine cu (by rw[iu,hq,e9 (by omega)];rfl) ?_;show some (0,[aa.w 2000,Val.vi (cg .add .i64 (aa.w 2001).toI 1),aa.w 2002])=_;grind[a06]
 .rw[show k+1+(L.length-(k+1))=L.length by omega];generalize eY L mark k (L.length-(k+1))=p;have D0:=D0 [.vi p.1,.vi L.length,.vl p.2];have v0:(I.upd 2000 [.vi p.1,.vi L.length,.vl p.2]).w 2000=_:=kW ..;have v1:(I.upd 2000 [.vi p.1,.vi L.length,.vl p.2]).w 2001=_:=fX ..;have v2:(I.upd 2000 [.vi p.1,.vi L.length,.vl p.2]).w 2002=_:=kP ..;generalize I.upd 2000 [.vi p.1,.vi L.length,.vl p.2]=aa at*
  have l0:(bU aa iN).toI=(L.length:Int):=by show((bU aa (.app 490 [aS])).toL.length:Int)=_;rw[D0];rfl
  refine cu (by rw[cP,co,v1,l0];exact j5 (by show¬(L.length:Int)<(L.length:Int);omega)) ?_;show some (1,[aa.w 2000,aa.w 2001,aa.w 2002])=_;grind
end
end Go.Ev.S9
namespace Go.Ev.S9
open Go Go.Ev
variable{I:Opq}
theorem dm3{X:Nat->List Val->Val}(f490: ∀a,I.f 490 a=X 490 a)(h490: ∀v,(I.f 431 [v]).toB=true-> ∃l',X 490 [v]= .vl l'/\l'.Perm v.toL/\ ∀r∈l',cK r=r)
 (f763: ∀a,I.f 763 a=e76 a) (f764: ∀a,I.f 764 a=We a) (hn:(I.w 4).toL.length<=400) (h431:(I.f 431 [I.w 4]).toB=true) (h491:(I.f 491 [I.w 4]).toB=true):
 W7 T_fired I=some (0,[JP X [I.w 4,I.w 5]]):=by
 obtain⟨L,hL,hp,hL7⟩:=h490 _ h431;have hLn:L.length<=400:=by rw[hp.length_eq];exact hn
 generalize hm:(I.w 5).toI=mark;have hv:JP X [I.w 4,I.w 5]= .vl (L.filter (eE mark)):=by
  show Val.vl ((X 490 [I.w 4]).toL.filter (eE (I.w 5).toI))=_;rw[hL,hm];rfl
 rw[hv];have dL:bU I (.app 490 [aS])= .vl L:=by show I.f 490 [I.w 4]=_;rw[f490,hL]
 have D0: ∀vs,bU (I.upd 2000 vs) (.app 490 [aS])= .vl L:=λvs=>by
  exact dL
 have l0:bU I iN= .vi L.length:=by show Val.vi ((bU I (.app 490 [aS])).toL.length:Int)=_;rw[dL];rfl
 have e1:I.f 763 [.vi 0,.vi 0,bU I iN,bU I (.app 490 [aS]),I.w 5,bU I iN]=cr (BU L mark):=by
  rw[f763,dL];show cr (BU L (I.w 5).toI)=_;rw[hm]
 refine W8 ?_ (Z3 (r:=BU L mark) (dZ0 D0 hm hLn) e1 ?_)
 .rw[db,db,cB,Z8,dN,cx];exact and2 (and2 (e9 (by omega)) h431) h491
 unfold BU at*
 cases hf:(List.range L.length).find? (tg L mark)with
 |none=>
  have hno:L.filter (eE mark)=L:=by
   refine W2.2 λr hr=> ?_
   obtain⟨i,hi,rfl⟩:=B0 hr;have h1:=A6.1 hf i (o8.2 hi);unfold tg at h1;rw[nU hi]at h1;exact e9 (by simpa using h1)
  have hs:gv (.vi 0) (λk=>[.vi k,.vi k]) (tg L mark) L.length=(0,[.vi 0,.vi L.length]):=by unfold gv;rw[hf]
  rw[hs];show some (0,[bU I (.app 490 [aS])])=_;rw[dL,hno]
 |some k=>
  obtain⟨hk,hb,hc⟩:=oI hf;have hs:gv (.vi 0) (λk=>[.vi k,.vi k]) (tg L mark) L.length=(1,[.vi k,.vi k]):=by unfold gv;rw[hf]
  rw[hs]at e1⊢;have q1:bU I uG= .vi k:=by
   show bZ (I.f 763 [.vi 0,.vi 0,bU I iN,bU I (.app 490 [aS]),I.w 5,bU I iN]).toL 1 0=_;rw[e1];rfl
  have q2:bU I EV= .vi (k+1:Nat):=by
   show Val.vi (cg .add .i64 (bU I uG).toI 1)=_;rw[q1,a06,eH (n:=1000000) (by omega) (by omega)]
  have hk1:(L.take k).filter (eE mark)=L.take k:=by
   refine W2.2 λr hr=> ?_
   obtain⟨i,hi,rfl⟩:=B0 hr;rw[k8]at hi;have h1:=hc i (by omega);unfold tg at h1;rw[nU (by omega)]at h1;rw[List.getElem_take];exact e9 (by have:=of_decide_eq_false h1;omega)
  have hk2:eE mark (bW L k)=false:=by
   have:=j6 hb;exact j5 (by omega)
  obtain⟨i1,i2,i3,i4,i5⟩:=Oa hL7 hk1 hk hk2 (L.length-(k+1)) (by omega);rw[show k+1+(L.length-(k+1))=L.length by omega,A1]at i5;have e3:bU I Hz=cr (Cd L mark k):=by
   show I.f 764 [bU I uG,bU I EV,bU I (.app 490 [aS]),bU I iN,bU I (.app 490 [aS]),I.w 5]=_;rw[f764,dL,q1];show cr (Cd L (I.w 5).toI k)=_;rw[hm]
  unfold Cd at e3;have hlp:=dZ1 D0 hm hL7 hk1 hk hk2 hLn;unfold Cd at hlp;generalize eY L mark k (L.length-(k+1))=p at*
  obtain⟨wr,M⟩:=p;replace i3:M.length=L.length:=i3;have q4:bU I nG= .vi wr:=by show bZ (bU I Hz).toL 1 0=_;rw[e3];rfl
  have q8:bU I vA= .vl M:=by show bZ (bU I Hz).toL 1 2=_;rw[e3];rfl
  have q5:dB I PS=true:=by
   show decide ((0:Int)<=(bU I nG).toI)=true;rw[q4];exact e9 (by show(0:Int)<=(wr:Int);omega)
  have q6:bU I zA= .vi ((L.length:Int)-wr):=by
   show Val.vi ((bU I iN).toI-(bU I nG).toI)=_;rw[l0,q4];rfl
  have q7:bU I JA= .vi L.length:=by
   show Val.vi ((bU I nG).toI+(bU I zA).toI)=_;rw[q4,q6];show Val.vi ((wr:Int)+((L.length:Int)-wr))=_;congr 1;omega
  have q9: ∃Z,bU I KW= .vl (M.take wr++Z):=by
   refine⟨(bU I (zc (.op .lrep [zA,.op .row [.cs [],aN,aN,aN,aN,aN,aN]]) (.op .lsub [vA,JA,zL vA]))).toL,?_⟩;show Val.vl (((bU I vA).toL.drop (0:Int).toNat).take ((bU I nG).toI-0).toNat++_)=_;rw[q8,q4];exact congrArg Val.vl (congrArg (· ++_) (by simp))
  obtain⟨Z,q9⟩:=q9;have hwl:(M.take wr).length=wr:=by rw[k8];omega
  refine cu (by rw[dX,q1,cx];exact j5 (by show¬(k:Int)= -1;omega)) (Z3 (r:=(0,[.vi wr,.vi L.length,.vl M])) ?_ e3 (W8 ?_ (W8 ?_ (W8 ?_ ?_))))
  .show cI _ [bU I uG,bU I EV,bU I (.app 490 [aS])]=_;rw[q1,q2,dL];exact hlp
  .rw[db,q5,cB,q4,l0];exact and2 rfl (e9 (by show(wr:Int)<=(L.length:Int);omega))
  .rw[db,db,db,q5,cB,cB,cB,q6,q7,Z8,q8,cx,cx];exact and2 (and2 rfl (e9 (by show(0:Int)<=(L.length:Int)-wr;omega))) (and2 (e9 (by show(L.length:Int)-wr<=1000000;omega)) (e9 (by show(L.length:Int)<=(M.length:Int);omega)))
  .rw[cB,q4,Z8,q9];exact e9 (by show(wr:Int)<=((M.take wr++Z).length:Int);rw[k7];omega)
  .show some (0,[Val.vl (((bU I KW).toL.drop (0:Int).toNat).take ((bU I nG).toI-0).toNat)])=_;rw[q9,q4];show some (0,[Val.vl (((M.take wr++Z).drop 0).take ((wr:Int)-0).toNat)])=_;rw[show((wr:Int)-0).toNat=wr by omega,G9,R1 (by omega),I0 (by omega),i5]
end Go.Ev.S9
namespace Go.Ev.S9
open Go Go.Ev
variable{l:List Val}{X:Nat->List Val->Val}
def MM(l:List Val)(i:Nat):Int:=Z9 (ci (bW l i) 0) (Z7 (bW l i) 1).toS (ci (bW l i) 2) (ci (bW l i) 3)
def evT(l:List Val)(i:Nat):List Val:=HW (l.take i)
def rE(k s w g:Int)(l:List Val)(i:Nat):Int:=if MM l i≠0 then MM l i else if fB k s w g (evT l (i+1))=true then 0 else 30
def rF(k s w g:Int)(l:List Val):Option Nat:=(List.range l.length).find? λi=>decide (rE k s w g l i≠0)
def ec6(k s w g:Int)(l:List Val):Nat×List Val:=match rF k s w g l with
 |some i=>(1,[.vi (rE k s w g l i),.vi i])
 |none=>(0,[.vi 0,.vi l.length])
def Xj(a:List Val):Val:= .vi (Z9 (bV a 0).toI (bV a 1).toS (bV a 2).toI (bV a 3).toI)
def Wh(a:List Val):Val:= .vl (HW (bV a 0).toL)
def e80(a:List Val):Val:=ES (bV a 0).toL (bV a 0).toL.length
def e81(a:List Val):Val:= .vl (sk (bV a 0).toL (bV a 1).toI)
def ec7(a:List Val):Val:=cr (ec6 (bV a 5).toI (bV a 6).toI (bV a 7).toI (bV a 8).toI (bV a 4).toL)
def rTe(k s w g:Int)(l:List Val):Int:=if cT k s w g=true then(match rF k s w g l with|some i=>rE k s w g l i|none=>0)else 2
def rTr(X:Nat->List Val->Val)(k s w g:Int)(l:List Val):Val:=if cT k s w g=true then(match rF k s w g l with|some _=> .vl []|none=>e81 [nO X [.vi k,.vi s,.vi w,.vi g,.vl (HW l)],e80 [.vl l]])else .vl []
def ec8(a:List Val):Val:= .vi (rTe (bV a 0).toI (bV a 1).toI (bV a 2).toI (bV a 3).toI (bV a 4).toL)
def ec9(X:Nat->List Val->Val)(a:List Val):Val:=rTr X (bV a 0).toI (bV a 1).toI (bV a 2).toI (bV a 3).toI (bV a 4).toL
variable{I:Opq}
section
variable(f700: ∀a,I.f 700 a= .vb (cT (bV a 0).toI (bV a 1).toI (bV a 2).toI (bV a 3).toI))(f701: ∀a,I.f 701 a=Xj a)(f829: ∀a,I.f 829 a=Fs a)(f830: ∀a,I.f 830 a=Wh a)
include f701 f829 f830
end
end Go.Ev.S9
