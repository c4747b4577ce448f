import Derived.Test.YtipefnncbnbliaaGreatEG1
import Derived.Test.YtipefnncbnbliaaGreatEM1
import Derived.Test.YtipefnncbnbliaaGreatEQ0
set_option linter.unusedSimpArgs false
set_option linter.unusedVariables false
namespace Go.Ev
open Go
@[simp]theorem a06(n:Int):(Val.vi n).toI=n:=rfl
@[simp]theorem dD3(n:List UInt8):(Val.vs n).toS=n:=rfl
@[simp]theorem al0(n:Bool):(Val.vb n).toB=n:=rfl
@[simp]theorem a84(n:List Val):(Val.vl n).toL=n:=rfl
structure ChgM where
 key:List UInt8
 a:Int
 b:Int
 dead:Bool
 c:Int
 d:Int
 e:Int
 f:Int
 deriving DecidableEq
def Uu(a:List Val)(i:Nat):PaneM:=⟨(bV a i).toS,(bV a (i+1)).toI,(bV a (i+2)).toI⟩
noncomputable def F0(id:Nat)(a:List Val):Val:=match id with
 |3=> .vb (uZ (vE (bV a 0)) (vE (bV a 1)))
 |206=> .vi (Gn (Uu a 0) (Uu a 3))
 |107=>GN eW (bV a 4).toL (bV a 7).toL
 |491=> .vb (decide (((bV a 0).toL.map Z2).Nodup))
 |480=>cr (0,[.vi (bV a 5).toL.length,.vi (bV a 5).toL.length,.vl (S7.srt false ((bV a 5).toL.map cK))])
 |481=>cr (0,[.vi (S7.bubA false 0 (bV a 1).toL (bV a 0).toI.toNat).1,.vl (S7.bubA false 0 (bV a 1).toL (bV a 0).toI.toNat).2])
 |i=>S7.GX i a
noncomputable def F:Nat->List Val->Val:=S9.FT (S9.FQ F0)
theorem yf(x:Val)(l:List Val):bV (x::l) 0=x:=rfl
theorem xQ(x:Val)(l:List Val)(n:Nat):bV (x::l) (n+1)=bV l n:=rfl
theorem eV(I:Opq)(v0:Nat)(l:List Val):(I.upd v0 l).f=I.f:=rfl
theorem cM(I:Opq)(v0:Nat)(l:List Val)(n:Nat):(I.upd v0 l).w n=if v0<=n then l.getD (n-v0) (.vb false)else I.w n:=rfl
@[simp]theorem c27{i:Nat}(h:i<=10000000):cg .add .i64 (i:Int) 1=((i+1:Nat):Int):=c98 h
@[simp]theorem a96(a b:Int):gn .lss a b=decide (a<b):=rfl
@[simp]theorem ad1(a b:Int):gn .leq a b=decide (a<=b):=rfl
@[simp]theorem aq8(a b:Int):gn .gtr a b=decide (b<a):=rfl
@[simp]theorem cR4(a b:Int):gn .geq a b=decide (b<=a):=rfl
@[simp]theorem cR5(a b:Int):gn .eql a b=decide (a=b):=rfl
@[simp]theorem bZ2(a b:Int):gn .neq a b= !decide (a=b):=rfl
@[simp]theorem cR6(a b:List UInt8):pz .eql a b=decide (a=b):=rfl
@[simp]theorem bZ3(a b:List UInt8):pz .neq a b= !decide (a=b):=rfl
theorem cD0{α:Type} [DecidableEq α](m:Val->α)(l r:List Val)(h:l.length=r.length):((List.range l.length).any λi=> !decide (m (bW l i)=m (bW r i)))= !decide (l.map m=r.map m):=Ye m (.vl []) l r h
theorem UZ{α:Type} [DecidableEq α](m:Val->α)(l r:List Val)(h:l.length=r.length)(px:Nat->List Val)(x:Val):gv x px (λi=> !decide (m (bW l i)=m (bW r i))) l.length=if l.map m=r.map m then(0,[x,.vi l.length])else(1,px (((List.range l.length).find? (λi=> !decide (m (bW l i)=m (bW r i)))).getD 0)):=by
 grind[Ek,cD0]
theorem Iz{α:Type} [DecidableEq α](m:Val->α)(l r:List Val)(h:l.length=r.length):GN m l r=cr (if l.map m=r.map m then(0,[.vb false,.vi l.length])else(1,[.vb false,.vi (((List.range l.length).find? (λi=> !decide (m (bW l i)=m (bW r i)))).getD 0)])):=by
 grind[GN,UZ]
theorem d58{α:Type}(m:Val->α){l r:List Val}(h:l.length≠r.length): ¬l.map m=r.map m:=λe=>h (by simpa using congrArg List.length e)
theorem Br(a b:Val):eW a=eW b↔((Z7 a 0).toS=(Z7 b 0).toS/\(Z7 a 1).toI=(Z7 b 1).toI/\(Z7 a 2).toI=(Z7 b 2).toI)/\(Z7 a 3).toI=(Z7 b 3).toI/\(Z7 a 4).toI=(Z7 b 4).toI/\(Z7 a 5).toI=(Z7 b 5).toI/\(Z7 a 6).toI=(Z7 b 6).toI:=by
 grind[eW,RowM.mk.injEq]
theorem oR(l:List Val)(i:Nat):bZ l (i:Int) 0=Z7 (bW l i) 0:=rfl
theorem oJ(l:List Val)(i:Nat):bZ l (i:Int) 1=Z7 (bW l i) 1:=rfl
theorem oB(l:List Val)(i:Nat):bZ l (i:Int) 2=Z7 (bW l i) 2:=rfl
theorem um(l:List Val)(i:Nat):bZ l (i:Int) 3=Z7 (bW l i) 3:=rfl
theorem tZ(l:List Val)(i:Nat):bZ l (i:Int) 4=Z7 (bW l i) 4:=rfl
theorem tF(l:List Val)(i:Nat):bZ l (i:Int) 5=Z7 (bW l i) 5:=rfl
theorem tz(l:List Val)(i:Nat):bZ l (i:Int) 6=Z7 (bW l i) 6:=rfl
end Go.Ev
namespace Go.Ev.S7
open Go Go.Ev
variable{I:Opq}{r:Option (Nat×List Val)}
theorem mG{x:Int}(h: -9223372036854775808<=x)(h2:x<9223372036854775808):IntKind.i64.wrap x=x:=by
 grind[IntKind.wrap,IntKind.bits,IntKind.signed]
theorem gb{x y:Int}(h: -9223372036854775808<=x+y)(h2:x+y<9223372036854775808):cg .add .i64 x y=x+y:=mG h h2
theorem lQ{x y:Int}(h: -9223372036854775808<=x-y)(h2:x-y<9223372036854775808):cg .sub .i64 x y=x-y:=mG h h2
theorem W8{e:SX}{x:VT}(h:dB I e=true)(h2:W7 x I=r):W7 (.need e x) I=r:=by rw[W7.eq_3,e8 h,h2]
theorem cy{e:SX}{x y:VT}(h:dB I e=true)(h2:W7 x I=r):W7 (.ite e x y) I=r:=by rw[W7.eq_2,e8 h,h2]
theorem cu{e:SX}{x y:VT}(h:dB I e=false)(h2:W7 y I=r):W7 (.ite e x y) I=r:=by simp_all[W7.eq_2,b9]
theorem and2{a b:Bool}(h:a=true)(h2:b=true):(a&&b)=true:=by grind
theorem Zv{K k:Nat}(h:K=k+1)(h2:K<=10000000):cg .sub .i64 (K:Int) 1=(k:Int):=by
 grind[lQ]
theorem Z3{hd:LHd}{body:VT}{ks:List VT}{r:Nat×List Val}{out:Option (Nat×List Val)}(h1:cI (λvs=>W7 body (I.upd hd.v0 vs)) (Z6 I hd.s0)=some r)(h2:I.f hd.id (Z6 I (hd.s0++hd.fv))=cr r)(h3:nq ks r.1 I=out):W7 (.loop hd body ks) I=out:=by
 simp_all[W7.eq_5,e8]
theorem CV(r:Val):Val.vl [Z7 r 0,Z7 r 1,Z7 r 2,Z7 r 3,Z7 r 4,Z7 r 5,Z7 r 6]=cK r:=rfl
theorem wS{step:List Val->Option (Nat×List Val)}{n j:Nat}(st:Nat->List Val){s0 p:List Val}(h0:s0=st 0)(h1: ∀i,i<n->step (st i)=some (0,st (i+1)))(h2:step (st n)=some (j+1,p)):cI step s0=some (j,p):=by
 rw[h0];exact eG h1 h2
end Go.Ev.S7
namespace Go.Ev.S7
open Go Go.Ev
variable{l M:List Val}{x:Nat}
theorem rO{y:Nat}(h:x+y<=1000000):cg .add .i64 (x:Int) (y:Int)=((x+y:Nat):Int):=by
 grind[gb]
theorem mL{y:Nat}(h:y<=x)(h2:x<=1000000):cg .sub .i64 (x:Int) (y:Int)=((x-y:Nat):Int):=by
 grind[lQ]
theorem DW(h:1<=x)(h2:x<=1000000):cg .sub .i64 (x:Int) 1=((x-1:Nat):Int):=by
 grind[lQ]
theorem vG(h2:x<=1000000):cg .add .i64 (x:Int) 1=((x+1:Nat):Int):=by
 grind[gb]
theorem qL{v:Val}(h:0<=v.toI):v.toI=(nt v:Int):=by grind[nt]
theorem e03(n:Nat):nt (.vi n)=n:=rfl
theorem JT(h:l.all okK=true){k:Nat}(hk:k<l.length):cK (bW l k)=bW l k:=okK_at (k6.1 h _ (Fm hk))
theorem zX{q:List Val}{f:Val->Bool}(h:l.all f=true)(hp:q.Perm l):q.all f=true:=k6.2 λv hv=>k6.1 h v (hp.mem_iff.1 hv)
theorem GR{i j:Nat}(h:l.all okK=true)(hi:i<l.length)(hj:j<l.length):(iK l i j).all okK=true:=by
 rw[k6]at h⊢;intro v hv;unfold iK at hv;grind[List.mem_or_eq_of_mem_set,Fm]
theorem MR(h:l.all okK=true){i j:Nat}(hi:i<l.length)(hj:j<l.length):(l.set i (cK (bW l j))).set j (cK (bW l i))=iK l i j:=by
 rw[JT h hi,JT h hj];rfl
theorem Ca{l:List Val}{a b:Nat}(h:l.all okK=true): ∀n,a+n<=l.length->b+n<=l.length->(jY l a b n).all okK=true
 |0,_,_=>h
 |n+1,h1,h2=>GR (Ca h n (by omega) (by omega)) (by rw[uw];omega) (by rw[uw];omega)
theorem dn3{I:Opq}{a b n N i:Nat}(h7:(I.w 2).toI=a)(h8:(I.w 3).toI=b)(h9:(I.w 4).toI=n)(h6:(I.w 1).toI=N)(hi:i<n)(h1:a+n<=b)(h2:b+n<=N)(hN:N<=400)(hM:M.length=N)(ho:M.all okK=true):
 W7 Jq (I.upd 2000 [.vi i,.vl M])=some (0,[.vi (i+1:Nat),.vl (iK M (a+i) (b+i))]):=by
 have e1:=rO (x:=a) (y:=i) (by omega);have e2:=rO (x:=b) (y:=i) (by omega);have e3:=vG (x:=i) (by omega);have p1:(i:Int)<n:=by omega
 have p2:(0:Int)<=((b+i:Nat):Int):=by omega
 have p3:((b+i:Nat):Int)<N:=by omega
 have p4:(0:Int)<=((a+i:Nat):Int):=by omega
 have p5:((a+i:Nat):Int)<N:=by omega
 rw[<-MR ho (by omega) (by omega)];unfold Jq;simp only[W7,Z6,bU,dB,cA,cM,Nat.reduceLeDiff,Nat.reduceSub,if_true,if_false,C8,C9,a06,a84,al0,h7,h8,h9,h6,e1,e2,e3,a96,ad1,p1,p2,p3,p4,p5,decide_true,D7,hM,C4,oR,oJ,oB,um,tZ,tF,tz,CV,Int.toNat_natCast]
theorem t_swapR{I:Opq}(hf: ∀i a,I.f i a=F i a)(hn:(F 420 [I.w 0,I.w 1,I.w 2,I.w 3,I.w 4]).toB=true):W7 WL I=some (0,[F 421 [I.w 0,I.w 2,I.w 3,I.w 4]]):=by
 obtain⟨ho,hd⟩:=W5 (show(mI (I.w 0) (I.w 1)&&decide (0<=(I.w 2).toI/\0<=(I.w 4).toI/\(I.w 2).toI+(I.w 4).toI<=(I.w 3).toI/\(I.w 3).toI+(I.w 4).toI<=(I.w 1).toI))=true from hn);obtain⟨e5,oa,h6,hl⟩:=GG ho;obtain⟨q1,q2,q3,q4⟩:=j6 hd;have h7:=qL q1;have h9:=qL q2;have h8:=qL (show 0<=(I.w 3).toI by omega);have hF2: ∀a c d:Val,F 452 [a,I.w 0,c,d,I.w 2,I.w 3,I.w 4]=cr (0,[.vi (nt (I.w 4)),.vl (jY (I.w 0).toL (nt (I.w 2)) (nt (I.w 3)) (nt (I.w 4)))]):=λ_ _ _=>rfl
 refine Z3 (r:=(0,[.vi (nt (I.w 4)),.vl (jY (I.w 0).toL (nt (I.w 2)) (nt (I.w 3)) (nt (I.w 4)))])) ?_ ?_ ?_
 .refine wS (λi=>[.vi i,.vl (jY (I.w 0).toL (nt (I.w 2)) (nt (I.w 3)) i)]) (n:=nt (I.w 4)) (by rw[show Z6 I [aN,aM]=[.vi 0,I.w 0]from rfl,e5];rfl) (λi hi=> ?_) ?_
  .exact dn3 h7 h8 h9 h6 hi (by omega) (by omega) hl (uw ..) (Ca oa i (by omega) (by omega))
  .unfold Jq;have p1: ¬((nt (I.w 4):Nat):Int)<(I.w 4).toI:=by omega
   simp[W7,Z6,bU,dB,cA,cM,Nat.reduceLeDiff,Nat.reduceSub,if_true,if_false,C8,C9,a06,a84,al0,a96,p1,decide_false,n8]
 .show I.f 452 [.vi 0,I.w 0,I.w 1,I.w 0,I.w 2,I.w 3,I.w 4]=_;grind
 .show some (0,[bZ (I.f 452 [.vi 0,I.w 0,I.w 1,I.w 0,I.w 2,I.w 3,I.w 4]).toL 1 1])=_;rw[hf,hF2];rfl
theorem Pt(m N:Nat): ∀(n i j:Nat) (M:List Val),0<i->0<j->i<=m->m+j<=N->M.length=N->M.all okK=true->(jZ m n i j M).2.all okK=true/\(jZ m n i j M).2.length=N
 |0,i,j,M,_,_,_,_,hM,ho=>⟨ho,hM⟩
 |n+1,i,j,M,hi,hj,him,hjN,hM,ho=>by
  unfold jZ;by_cases h1:i=j
  .grind
  .rw[b9 h1];by_cases h2:j<i
   .rw[e8 h2];exact Pt m N n (i-j) j _ (by omega) hj (by omega) hjN (by grind[uw]) (Ca ho j (by omega) (by omega))
   .rw[b9 h2];exact Pt m N n i (j-i) _ hi (by omega) him (by omega) (by grind[uw]) (Ca ho i (by omega) (by omega))
theorem Hb{n:Val}{N:Nat}(ho:l.all okK=true)(hl:l.length=N)(hn:n.toI=(N:Int))(hN:N<=400):mI (.vl l) n=true:=
 and2 rfl (and2 ho (and2 (e9 (by simp_all)) (e9 (by simp_all))))
theorem Ew{v:Val}{n:Nat}(h:v.toI=(n:Int)):nt v=n:=by grind[nt]
theorem Qj{n va vb vk:Val}{N a b k:Nat}(ho:M.all okK=true)(hM:M.length=N)(hn:n.toI=(N:Int))(hN:N<=400)(ha:va.toI=(a:Int))(hb:vb.toI=(b:Int))(hk:vk.toI=(k:Int))(h1:a+k<=b)(h2:b+k<=N):(F 420 [.vl M,n,va,vb,vk]).toB=true:=by
 show(mI (.vl M) n&&decide (0<=va.toI/\0<=vk.toI/\va.toI+vk.toI<=vb.toI/\vb.toI+vk.toI<=n.toI))=true;grind[and2,Hb,decide_eq_true]
theorem OW{va vb vk:Val}{a b k:Nat}(ha:va.toI=(a:Int))(hb:vb.toI=(b:Int))(hk:vk.toI=(k:Int)):F 421 [.vl M,va,vb,vk]= .vl (jY M a b k):=by
 show Val.vl (jY M (nt va) (nt vb) (nt vk))=_;grind[Ew]
def tK:SX:= zm aU aV
def Hd:SX:= zm (za aU aR) aV
theorem Oo:Sn= .ite (dv aV aR) (.ite (fm aV aR) (.need (.app 420 [aW,aO,tK,aU,aR]) (.ret 0 [zm aV aR,aR,.app 421 [aW,tK,aU,aR]])) (.need (.app 420 [aW,aO,tK,Hd,aV]) (.ret 0 [aV,zm aR aV,.app 421 [aW,tK,Hd,aV]]))) (.ret 1 [aV,aR,aW]):=rfl
theorem Sw{I:Opq}(hf: ∀i a,I.f i a=F i a){m N:Nat}(h8:(I.w 3).toI=m)(h6:(I.w 1).toI=N)(hN:N<=400): ∀(n i j:Nat) (M:List Val),i+j<=n+1->0<i->0<j->i<=m->m+j<=N->M.length=N->M.all okK=true->
 Iter (λvs=>W7 Sn (I.upd 2000 vs)) [.vi i,.vi j,.vl M] 0 [.vi (jZ m n i j M).1,.vi (jZ m n i j M).1,.vl (jZ m n i j M).2]
 |0,i,j,M,hn,hi,hj,him,hjN,hM,ho=>by omega
 |n+1,i,j,M,hn,hi,hj,him,hjN,hM,ho=>by
  obtain⟨aa,ae⟩: ∃aa,aa=I.upd 2000 [.vi i,.vi j,.vl M]:=⟨_,rfl⟩;have v0:aa.w 2000= .vi i:=by rw[ae];rfl
  have v1:aa.w 2001= .vi j:=by rw[ae];rfl
  have v2:aa.w 2002= .vl M:=by rw[ae];rfl
  have u8:(aa.w 3).toI=m:=by rw[ae];exact h8
  have u6:(aa.w 1).toI=N:=by rw[ae];exact h6
  have hf': ∀i a,aa.f i a=F i a:=by rw[ae];exact hf
  have a1:bU aa tK= .vi (m-i:Nat):=by
   show Val.vi (cg .sub .i64 (aa.w 3).toI (aa.w 2000).toI)=_;grind[a06,mL]
  have a2:bU aa Hd= .vi (m+j-i:Nat):=by
   show Val.vi (cg .sub .i64 (cg .add .i64 (aa.w 3).toI (aa.w 2001).toI) (aa.w 2000).toI)=_;rw[u8,v0,v1,a06,a06,rO (by omega),mL (by omega) (by omega)]
  unfold jZ;by_cases h1:i=j
  .refine .out ?_;rw[<-ae,Oo];refine cu (by show(!decide ((aa.w 2000).toI=(aa.w 2001).toI))=false;rw[v0,v1,a06,a06,h1,e9 rfl];rfl) ?_;show some (1,[aa.w 2000,aa.w 2001,aa.w 2002])=_;grind
  .rw[b9 h1];have c1:dB aa (dv aV aR)=true:=by
    show(!decide ((aa.w 2000).toI=(aa.w 2001).toI))=true;grind[a06,decide_eq_false]
   by_cases h2:j<i
   .rw[e8 h2];refine .more (vs':=[.vi (i-j:Nat),.vi j,.vl (jY M (m-i) m j)]) ?_ (Sw hf h8 h6 hN n (i-j) j _ (by omega) (by omega) hj (by omega) hjN (by grind[uw]) (Ca ho j (by omega) (by omega)));rw[<-ae,Oo];refine cy c1 (cy (by show decide ((aa.w 2001).toI<(aa.w 2000).toI)=true;simp_all) (W8 ?_ ?_))
    .show(aa.f 420 [aa.w 2002,aa.w 1,bU aa tK,aa.w 3,aa.w 2001]).toB=true;rw[hf',v2,a1,v1];exact Qj ho hM u6 hN rfl u8 rfl (by omega) (by omega)
    .show some (0,[Val.vi (cg .sub .i64 (aa.w 2000).toI (aa.w 2001).toI),aa.w 2001,aa.f 421 [aa.w 2002,bU aa tK,aa.w 3,aa.w 2001]])=_;grind[a06,mL,OW]
   .rw[b9 h2];refine .more (vs':=[.vi i,.vi (j-i:Nat),.vl (jY M (m-i) (m+j-i) i)]) ?_ (Sw hf h8 h6 hN n i (j-i) _ (by omega) hi (by omega) him (by omega) (by grind[uw]) (Ca ho i (by omega) (by omega)));rw[<-ae,Oo];refine cy c1 (cu (by show decide ((aa.w 2001).toI<(aa.w 2000).toI)=false;simp_all) (W8 ?_ ?_))
    .show(aa.f 420 [aa.w 2002,aa.w 1,bU aa tK,bU aa Hd,aa.w 2000]).toB=true;rw[hf',v2,a1,a2,v0];exact Qj ho hM u6 hN rfl rfl rfl (by omega) (by omega)
    .show some (0,[aa.w 2000,Val.vi (cg .sub .i64 (aa.w 2001).toI (aa.w 2000).toI),aa.f 421 [aa.w 2002,bU aa tK,bU aa Hd,aa.w 2000]])=_;grind[a06,mL,OW]
theorem t_rotC{I:Opq}(hf: ∀i a,I.f i a=F i a)(hn:(F 422 [I.w 0,I.w 1,I.w 2,I.w 3,I.w 4]).toB=true):W7 d15 I=some (0,[F 423 [I.w 0,I.w 2,I.w 3,I.w 4]]):=by
 obtain⟨ho,hd⟩:=W5 (show(mI (I.w 0) (I.w 1)&&decide (0<=(I.w 2).toI/\(I.w 2).toI<(I.w 3).toI/\(I.w 3).toI<(I.w 4).toI/\(I.w 4).toI<=(I.w 1).toI))=true from hn);obtain⟨e5,oa,h6,hl⟩:=GG ho;obtain⟨q1,q2,q3,q4⟩:=j6 hd;have h7:=qL q1;have h8:=qL (show 0<=(I.w 3).toI by omega);have h9:=qL (show 0<=(I.w 4).toI by omega);have hF:F 423 [I.w 0,I.w 2,I.w 3,I.w 4]= .vl (yF (I.w 0).toL (nt (I.w 2)) (nt (I.w 3)) (nt (I.w 4))):=rfl;rw[hF];generalize nt (I.w 2)=a at h7⊢;generalize hm:nt (I.w 3)=m at h8⊢;generalize nt (I.w 4)=b at h9⊢;generalize hL:(I.w 0).toL=l at e5 oa h6 hl⊢;have r0:bU I GM= .vi (m-a:Nat):=by
  show Val.vi (cg .sub .i64 (I.w 3).toI (I.w 2).toI)=_;grind[mL]
 have r1:bU I Fu= .vi (b-m:Nat):=by
  show Val.vi (cg .sub .i64 (I.w 4).toI (I.w 3).toI)=_;grind[mL]
 have hF2: ∀x y:Val,F 458 [.vi (m-a:Nat),.vi (b-m:Nat),.vl l,x,y,I.w 3]=cr (0,[.vi (jZ (nt (I.w 3)) (m-a+(b-m)) (m-a) (b-m) l).1,.vi (jZ (nt (I.w 3)) (m-a+(b-m)) (m-a) (b-m) l).1,.vl (jZ (nt (I.w 3)) (m-a+(b-m)) (m-a) (b-m) l).2]):=λ_ _=>rfl
 rw[hm]at hF2;have sp:=Ps m (m-a+(b-m)) (m-a) (b-m) (l.take a) (cw l a m) (cw l m b) (l.drop b) (by omega) (by omega) (by omega) (mi (by omega)) (mi (by omega)) (by grind);rw[<-eb3 (l:=l) (by omega) (by omega)]at sp;have al:=Pt m l.length (m-a+(b-m)) (m-a) (b-m) l (by omega) (by omega) (by omega) (by omega) rfl oa;have it:=Sw hf h8 h6 hl (m-a+(b-m)) (m-a) (b-m) l (by omega) (by omega) (by omega) (by omega) (by omega) rfl oa;generalize jZ m (m-a+(b-m)) (m-a) (b-m) l=R at sp al it hF2;obtain⟨r,M⟩:=R;obtain⟨s1,s2,s3,s4,s5⟩:=sp;obtain⟨al1,al2⟩:=al;have d2:bU I DE=cr (0,[.vi r,.vi r,.vl M]):=by
  show I.f 458 [bU I GM,bU I Fu,I.w 0,I.w 1,I.w 0,I.w 3]=_;grind
 have d3:bU I Dp= .vl M:=by show bZ (bU I DE).toL 1 2=_;rw[d2];rfl
 have d4:bU I wK= .vi r:=by show bZ (bU I DE).toL 1 0=_;rw[d2];rfl
 have d5:bU I GE= .vi (m-r:Nat):=by
  show Val.vi (cg .sub .i64 (I.w 3).toI (bU I wK).toI)=_;grind[a06,mL]
 refine Z3 (r:=(0,[.vi r,.vi r,.vl M])) ?_ d2 (W8 ?_ ?_)
 .show cI _ [bU I GM,bU I Fu,I.w 0]=_;grind[nh]
 .show(I.f 420 [bU I Dp,I.w 1,bU I GE,I.w 3,bU I wK]).toB=true;rw[hf,d3,d4,d5];exact Qj al1 al2 h6 hl rfl h8 rfl (by omega) (by omega)
 .show some (0,[I.f 421 [bU I Dp,bU I GE,I.w 3,bU I wK]])=_;rw[hf,d3,d4,d5,OW rfl h8 rfl,s5];rfl
end Go.Ev.S7
namespace Go.Ev.S7
open Go Go.Ev
theorem LG(l:List Val)(i j:Nat):decide ((F 206 [Z7 (bW l i) 0,Z7 (bW l i) 1,Z7 (bW l i) 2,Z7 (bW l j) 0,Z7 (bW l j) 1,Z7 (bW l j) 2]).toI<0)=cL false (bW l i) (bW l j):=by
 rw[D9,decide_eq_true_iff];exact cQ9 _ _
theorem dn5{I:Opq}(hf: ∀i a,I.f i a=F i a){a N k:Nat}(h7:(I.w 2).toI=a)(h6:(I.w 1).toI=N)(hN:N<=400){l:List Val}(hl:l.length=N)(ho:l.all okK=true)(hk:a+k+1<N):
 W7 zq (I.upd 3000 [.vi (a+k+1:Nat),.vl l])=some (if cL false (bW l (a+k+1)) (bW l (a+k))then(0,[.vi (a+k:Nat),.vl (iK l (a+k+1) (a+k))])else(1,[.vi (a+k+1:Nat),.vl l])):=by
 have e1:=Zv (K:=a+k+1) (k:=a+k) rfl (by omega);have p0:(a:Int)<((a+k+1:Nat):Int):=by omega
 have p1:(0:Int)<=((a+k+1:Nat):Int):=by omega
 have p2:((a+k+1:Nat):Int)<N:=by omega
 have p3:(0:Int)<=((a+k:Nat):Int):=by omega
 have p4:((a+k:Nat):Int)<N:=by omega
 have hc:=LG l (a+k+1) (a+k);rw[<-MR ho (by omega) (by omega)];unfold zq;simp only[W7,Z6,bU,dB,cA,cM,Nat.reduceLeDiff,Nat.reduceSub,if_true,if_false,C8,C9,a06,a84,al0,h7,h6,e1,a96,ad1,aq8,p0,p1,p2,p3,p4,decide_true,D7,hl,C4,oR,oJ,oB,um,tZ,tF,tz,CV,Int.toNat_natCast,eV,hf,hc];grind
theorem dH8{I:Opq}(hf: ∀i a,I.f i a=F i a){a N:Nat}(h7:(I.w 2).toI=a)(h6:(I.w 1).toI=N)(hN:N<=400): ∀(k:Nat) (l:List Val),a+k<N->l.length=N->l.all okK=true->
 Iter (λvs=>W7 zq (I.upd 3000 vs)) [.vi (a+k:Nat),.vl l] 0 [.vi (bubA false a l k).1,.vl (bubA false a l k).2]
 |0,l,hk,hl,ho=>by
  refine .out ?_;have p0: ¬(a:Int)<((a:Nat):Int):=by omega
  show W7 zq (I.upd 3000 [.vi (a:Nat),.vl l])=_;unfold zq;simp only[W7,Z6,bU,dB,cA,cM,Nat.reduceLeDiff,Nat.reduceSub,if_true,if_false,C8,C9,a06,a84,al0,h7,aq8,p0,decide_false,n8,bubA]
 |k+1,l,hk,hl,ho=>by
  have hs:=dn5 hf h7 h6 hN (k:=k) hl ho (by omega);unfold bubA;cases hc:cL false (bW l (a+k+1)) (bW l (a+k))with
  |true=>
   rw[hc,e8 rfl]at hs;rw[e8 rfl];exact .more hs (dH8 hf h7 h6 hN k _ (by omega) (by rw[Gx,hl]) (GR ho (by omega) (by omega)))
  |false=>
   rw[hc,b9 (by simp)]at hs;rw[b9 (by simp)];exact .out hs
theorem dn6:LB= .ite (zs aV aU) (.loop ⟨461,[aV,aR],3000,[aO,aR,aT,aU,aV]⟩ zq [.ret 0 [zi aV,zo (.app 461 [aV,aR,aO,aR,aT,aU,aV]) 1]]) (.ret 1 [aV,aR]):=rfl
theorem dn7{I:Opq}(hf: ∀i a,I.f i a=F i a){a N b i:Nat}(h7:(I.w 2).toI=a)(h8:(I.w 3).toI=b)(h6:(I.w 1).toI=N)(hN:N<=400){l:List Val}(hl:l.length=N)(ho:l.all okK=true)(hai:a<=i)(hib:i<b)(hb:b<=N):
 W7 LB (I.upd 2000 [.vi i,.vl (cU false l a i)])=some (0,[.vi (i+1:Nat),.vl (cU false l a (i+1))]):=by
 have hst:=cR2 (sec:=false) (l:=l) hai (by omega);have hpl:=bY3 false (l:=l) hai;have hpo:=zX ho (Fq false (l:=l) hai);generalize cU false l a i=M at hst hpl hpo⊢;obtain⟨aa,ae⟩: ∃aa,aa=I.upd 2000 [.vi i,.vl M]:=⟨_,rfl⟩;have v0:aa.w 2000= .vi i:=by rw[ae];rfl
 have v1:aa.w 2001= .vl M:=by rw[ae];rfl
 have u6:(aa.w 1).toI=N:=by rw[ae];exact h6
 have u7:(aa.w 2).toI=a:=by rw[ae];exact h7
 have u8:(aa.w 3).toI=b:=by rw[ae];exact h8
 have hf': ∀i a,aa.f i a=F i a:=by rw[ae];exact hf
 have lp:=dH8 hf' u7 u6 hN (i-a) M (by omega) (by omega) hpo;have hF: ∀x y z:Val,F 461 [.vi i,.vl M,x,y,aa.w 2,z,.vi i]=cr (0,[.vi (bubA false (nt (aa.w 2)) M (i-nt (aa.w 2))).1,.vl (bubA false (nt (aa.w 2)) M (i-nt (aa.w 2))).2]):=λ_ _ _=>rfl
 rw[Ew u7]at hF;have e1:aa.f 461 [aa.w 2000,aa.w 2001,aa.w 1,aa.w 2001,aa.w 2,aa.w 3,aa.w 2000]=cr (0,[.vi (bubA false a M (i-a)).1,.vl (bubA false a M (i-a)).2]):=by
  grind
 rw[<-ae,dn6];refine cy (by show decide ((aa.w 2000).toI<(aa.w 3).toI)=true;simp_all) (Z3 (r:=(0,[.vi (bubA false a M (i-a)).1,.vl (bubA false a M (i-a)).2])) ?_ e1 ?_)
 .show cI _ [aa.w 2000,aa.w 2001]=_;grind[nh]
 .show some (0,[Val.vi (cg .add .i64 (aa.w 2000).toI 1),bZ (aa.f 461 [aa.w 2000,aa.w 2001,aa.w 1,aa.w 2001,aa.w 2,aa.w 3,aa.w 2000]).toL 1 1])=_;rw[e1,v0,a06,vG (by omega),<-hst];rfl
theorem t_insC{I:Opq}(hf: ∀i a,I.f i a=F i a)(hn:(F 424 [I.w 0,I.w 1,I.w 2,I.w 3]).toB=true):W7 d18 I=some (0,[F 425 [I.w 0,I.w 2,I.w 3]]):=by
 obtain⟨ho,hd⟩:=W5 (show(mI (I.w 0) (I.w 1)&&decide (0<=(I.w 2).toI/\(I.w 2).toI<=(I.w 3).toI/\(I.w 3).toI<=(I.w 1).toI))=true from hn);obtain⟨e5,oa,h6,hl⟩:=GG ho;obtain⟨q1,q2,q3⟩:=j6 hd;have h7:=qL q1;have h8:=qL (show 0<=(I.w 3).toI by omega);have hF:F 425 [I.w 0,I.w 2,I.w 3]= .vl (cU false (I.w 0).toL (nt (I.w 2)) (nt (I.w 3))):=rfl;have hF2: ∀x y z:Val,F 460 [x,I.w 0,y,z,I.w 2,I.w 3]=cr (0,[.vi (max (nt (I.w 2)+1) (nt (I.w 3)):Nat),.vl (cU false (I.w 0).toL (nt (I.w 2)) (nt (I.w 3)))]):=λ_ _ _=>rfl
 rw[hF];generalize nt (I.w 2)=a at h7 hF2⊢;generalize nt (I.w 3)=b at h8 hF2⊢;have r0:bU I CJ= .vi (a+1:Nat):=by
  show Val.vi (cg .add .i64 (I.w 2).toI 1)=_;grind[vG]
 have e1:I.f 460 [bU I CJ,I.w 0,I.w 1,I.w 0,I.w 2,I.w 3]=cr (0,[.vi (max (a+1) b:Nat),.vl (cU false (I.w 0).toL a b)]):=by
  grind
 refine Z3 (r:=(0,[.vi (max (a+1) b:Nat),.vl (cU false (I.w 0).toL a b)])) ?_ e1 ?_
 .show cI _ [bU I CJ,I.w 0]=_;rw[r0];have hout: ∀(i:Nat) (M:Val),b<=i->W7 LB (I.upd 2000 [.vi i,M])=some (1,[.vi i,M]):=λi M hi=>by
   refine cu ?_ rfl;show decide ((i:Int)<(I.w 3).toI)=false;grind
  by_cases hab:a+1<b
  .refine wS (λi=>[.vi (a+1+i:Nat),.vl (cU false (I.w 0).toL a (a+1+i))]) (n:=b-(a+1)) ?_ (λi hi=>dn7 hf h7 h8 h6 hl rfl oa (by omega) (by omega) (by omega)) ?_
   .rw[WY (by omega) (by omega) (by omega),<-e5]
   grind
  .rw[S1 (by omega),WY (by omega) (by omega) (by omega),<-e5,nh];exact .out (hout (a+1) _ (by omega))
 .show some (0,[bZ (I.f 460 [bU I CJ,I.w 0,I.w 1,I.w 0,I.w 2,I.w 3]).toL 1 1])=_;rw[e1];rfl
variable{M Y:List Val}{i j:Nat}
theorem Gv(h:i+j<=1000000):IntKind.i64.wrap (cg .shr .u64 (IntKind.u64.wrap (cg .add .i64 (i:Int) (j:Int))) 1)=(((i+j)/2:Nat):Int):=by
 rw[rO h];have e1:IntKind.u64.wrap ((i+j:Nat):Int)=((i+j:Nat):Int):=by
  have:IntKind.u64.wrap ((i+j:Nat):Int)=((i+j:Nat):Int) % 18446744073709551616:=rfl;omega
 have e2:cg .shr .u64 ((i+j:Nat):Int) 1=(((i+j)/2:Nat):Int):=by
  have:cg .shr .u64 ((i+j:Nat):Int) 1=((i+j:Nat):Int).fdiv 2:=rfl;rw[this,Q0 _ (by omega)];omega
 grind[mG]
theorem dn8{I:Opq}(hf: ∀i a,I.f i a=F i a){a N:Nat}(h7:(I.w 2).toI=a)(h6:(I.w 1).toI=N)(hN:N<=400)(hl:(I.w 0).toL.length=N)(ho:(I.w 0).toL.all okK=true)(hij:i<j)(hj:j<=N)(ha:a<N):
 W7 Gw (I.upd 2000 [.vi i,.vi j])=some (0,if cL false (bW (I.w 0).toL ((i+j)/2)) (bW (I.w 0).toL a)then [.vi ((i+j)/2+1:Nat),.vi j]else [.vi i,.vi ((i+j)/2:Nat)]):=by
 have e0:=Gv (i:=i) (j:=j) (by omega);have hlt:(i+j)/2<j:=by omega
 generalize (i+j)/2=h at e0 hlt⊢;have e1:=vG (x:=h) (by omega);have p0:(i:Int)<(j:Int):=by omega
 have p1:(0:Int)<=(h:Int):=by omega
 have p2:(h:Int)<N:=by omega
 have p3:(0:Int)<=(a:Int):=by omega
 have p4:(a:Int)<N:=by omega
 have hc:=LG (I.w 0).toL (h) (a);unfold Gw;simp only[W7,Z6,bU,dB,cA,cM,Nat.reduceLeDiff,Nat.reduceSub,if_true,if_false,C8,C9,a06,a84,al0,h7,h6,e0,e1,a96,ad1,p0,p1,p2,p3,p4,decide_true,D7,hl,oR,oJ,oB,eV,hf,hc];grind
theorem dn9{I:Opq}(hf: ∀i a,I.f i a=F i a){m N:Nat}(h8:(I.w 3).toI=m)(h6:(I.w 1).toI=N)(hN:N<=400)(hl:(I.w 0).toL.length=N)(ho:(I.w 0).toL.all okK=true)(hij:i<j)(hj:j<=N)(ha:m<N):
 W7 Gi (I.upd 2000 [.vi i,.vi j])=some (0,if(!cL false (bW (I.w 0).toL m) (bW (I.w 0).toL ((i+j)/2)))=true then [.vi ((i+j)/2+1:Nat),.vi j]else [.vi i,.vi ((i+j)/2:Nat)]):=by
 have e0:=Gv (i:=i) (j:=j) (by omega);have hlt:(i+j)/2<j:=by omega
 generalize (i+j)/2=h at e0 hlt⊢;have e1:=vG (x:=h) (by omega);have p0:(i:Int)<(j:Int):=by omega
 have p1:(0:Int)<=(h:Int):=by omega
 have p2:(h:Int)<N:=by omega
 have p3:(0:Int)<=(m:Int):=by omega
 have p4:(m:Int)<N:=by omega
 have hc:=LG (I.w 0).toL (m) (h);unfold Gi;simp only[W7,Z6,bU,dB,cA,cM,Nat.reduceLeDiff,Nat.reduceSub,if_true,if_false,C8,C9,a06,a84,al0,h8,h6,e0,e1,a96,ad1,p0,p1,p2,p3,p4,decide_true,D7,hl,oR,oJ,oB,eV,hf,hc];grind
theorem do0{I:Opq}(hf: ∀i a,I.f i a=F i a){a m b N mid:Nat}(h7:(I.w 2).toI=a)(h8:(I.w 3).toI=m)(h9:(I.w 4).toI=b)(h6:(I.w 1).toI=N)(hN:N<=400)(hl:(I.w 0).toL.length=N)(ho:(I.w 0).toL.all okK=true)(hmid:mid=(a+b)/2)(hb:b<=N)(ham:a<m)(hmb:m<b)
 (hij:i<j) (hj:j<=m) (hj2:j<=mid) (hi:mid+m<=b+i):
 W7 yB (I.upd 2000 [.vi i,.vi j])=some (0,if(!cL false (bW (I.w 0).toL (mid+m-1-(i+j)/2)) (bW (I.w 0).toL ((i+j)/2)))=true then [.vi ((i+j)/2+1:Nat),.vi j]else [.vi i,.vi ((i+j)/2:Nat)]):=by
 have e0:=Gv (i:=i) (j:=j) (by omega);have g0:=Gv (i:=a) (j:=b) (by omega);rw[<-hmid]at g0;have g1:=rO (x:=mid) (y:=m) (by omega);have g2:=DW (x:=mid+m) (by omega) (by omega);have hlt:(i+j)/2<j:=by omega
 have hge:i<=(i+j)/2:=by omega
 generalize (i+j)/2=h at e0 hlt hge⊢;have g3:=mL (x:=mid+m-1) (y:=h) (by omega) (by omega);have e1:=vG (x:=h) (by omega);have hq:mid+m-1-h<N:=by omega
 generalize mid+m-1-h=q at g3 hq⊢;have p0:(i:Int)<(j:Int):=by omega
 have p1:(0:Int)<=(h:Int):=by omega
 have p2:(h:Int)<N:=by omega
 have p3:(0:Int)<=(q:Int):=by omega
 have p4:(q:Int)<N:=by omega
 have hc:=LG (I.w 0).toL (q) (h);unfold yB;simp only[W7,Z6,bU,dB,cA,cM,Nat.reduceLeDiff,Nat.reduceSub,if_true,if_false,C8,C9,a06,a84,al0,h7,h8,h9,h6,e0,e1,g0,g1,g2,g3,a96,ad1,p0,p1,p2,p3,p4,decide_true,D7,hl,oR,oJ,oB,eV,hf,hc];grind
theorem QT{I:Opq}{x:VT}(i:Nat):W7 (.ite (zs aV aR) x (.ret 1 [aV,aR])) (I.upd 2000 [.vi i,.vi i])=some (1,[.vi i,.vi i]):=by
 refine cu ?_ rfl;show decide ((i:Int)<(i:Int))=false;grind
theorem do1{I:Opq}{N r:Nat}(h6:(I.w 1).toI=N)(hN:N<=400)(hr:bZ (I.f 462 [I.w 3,I.w 4,I.w 1,I.w 0,I.w 2]).toL 1 0= .vi r)(hM:M.length=N)(ho:M.all okK=true)(hi:i+1<r)(hrN:r<=N):
 W7 Ka (I.upd 3000 [.vi i,.vl M])=some (0,[.vi (i+1:Nat),.vl (iK M i (i+1))]):=by
 have e0:=DW (x:=r) (by omega) (by omega);have e1:=vG (x:=i) (by omega);have p0:(i:Int)<((r-1:Nat):Int):=by omega
 have p1:(0:Int)<=((i+1:Nat):Int):=by omega
 have p2:((i+1:Nat):Int)<N:=by omega
 have p3:(0:Int)<=(i:Int):=by omega
 have p4:(i:Int)<N:=by omega
 rw[<-MR ho (by omega) (by omega)];unfold Ka;simp only[W7,Z6,bU,dB,cA,cM,Nat.reduceLeDiff,Nat.reduceSub,if_true,if_false,C8,C9,eV,hr,a06,a84,al0,h6,e0,e1,a96,ad1,p0,p1,p2,p3,p4,decide_true,D7,hM,C4,oR,oJ,oB,um,tZ,tF,tz,CV,Int.toNat_natCast]
theorem do2{I:Opq}{N r:Nat}(h6:(I.w 1).toI=N)(hN:N<=400)(hr:bZ (I.f 464 [I.w 2,I.w 3,I.w 1,I.w 0,I.w 3]).toL 1 0= .vi r)(hM:M.length=N)(ho:M.all okK=true)(hi:r<i)(hiN:i<N):
 W7 Ml (I.upd 3000 [.vi i,.vl M])=some (0,[.vi (i-1:Nat),.vl (iK M (i-1) i)]):=by
 have e1:=DW (x:=i) (by omega) (by omega);have p0:(r:Int)<(i:Int):=by omega
 have p1:(0:Int)<=((i-1:Nat):Int):=by omega
 have p2:((i-1:Nat):Int)<N:=by omega
 have p3:(0:Int)<=(i:Int):=by omega
 have p4:(i:Int)<N:=by omega
 rw[Qm (by omega),<-MR ho (by omega) (by omega)];unfold Ml;simp only[W7,Z6,bU,dB,cA,cM,Nat.reduceLeDiff,Nat.reduceSub,if_true,if_false,C8,C9,eV,hr,a06,a84,al0,h6,e1,a96,ad1,aq8,p0,p1,p2,p3,p4,decide_true,D7,hM,C4,oR,oJ,oB,um,tZ,tF,tz,CV,Int.toNat_natCast]
theorem Vy{l:List Val}{a:Nat}(h:l.all okK=true): ∀n,a+n<l.length->(oc l a n).all okK=true
 |0,_=>h
 |n+1,h1=>GR (Vy h n (by omega)) (by rw[LE];omega) (by rw[LE];omega)
theorem XU{l:List Val}{m:Nat}(h:l.all okK=true)(hm:m<l.length): ∀n,(ng l m n).all okK=true
 |0=>h
 |n+1=>GR (XU h hm n) (by rw[Lx];omega) (by rw[Lx];omega)
def DP(B:Int)(e mid L:SX):VT:= .ite (zs mid e) (.ite (zs e aS) (.need (.app 426 [L,aO,mid,e,aS,.ci B]) (.ret 0 [.app 425 [L,mid,aS]])) (.ret 0 [L])) (.ret 0 [L])
def Gq(B:Int)(r e mid L:SX):VT:= .ite (zs aT r) (.ite (zs r mid) (.need (.app 426 [L,aO,aT,r,mid,.ci B]) (DP B e mid (.app 425 [L,aT,mid]))) (DP B e mid L)) (DP B e mid L)
def Na(B:Int)(r e mid:SX):VT:= .ite (zs r aU) (.ite (zs aU e) (.need (.app 422 [aM,aO,r,aU,e]) (Gq B r e mid (.app 423 [aM,r,aU,e]))) (Gq B r e mid aM)) (Gq B r e mid aM)
theorem cW0(B:Int):pY B= .ite (ze (zm aU aT) 1) (.loop ⟨462,[aU,aS],2000,[aO,aM,aT]⟩ Gw [.loop ⟨463,[aT,aM],3000,[aO,aM,yu]⟩ Ka [.ret 0 [zo (.app 463 [aT,aM,aO,aM,yu]) 1]]])
 (.ite (ze (zm aS aU) 1) (.loop ⟨464,[aT,aU],2000,[aO,aM,aU]⟩ Gi [.loop ⟨465,[aU,aM],3000,[aO,aM,xG]⟩ Ml [.ret 0 [zo (.app 465 [aU,aM,aO,aM,xG]) 1]]])
 (.ite (fm aU dH) (.loop ⟨466,[xF,dH],2000,[aO,aM,aT,aU,aS,dH,jm,qc]⟩ yB [Na B pq pA dH]) (.loop ⟨466,[aT,aU],2000,[aO,aM,aT,aU,aS,dH,jm,qc]⟩ yB [Na B pM qK dH]))):=rfl
theorem MX{n:Val}{N a m b:Nat}{B:Int}(ho:M.all okK=true)(hM:M.length=N)(hn:n.toI=(N:Int))(hN:N<=400)(h1:a<m)(h2:m<b)(h3:b<=N)(h4:(b:Int)-a<=B)
 (s1:Sd false (cw M a m)) (s2:Sd false (cw M m b)):(F 426 [.vl M,n,.vi a,.vi m,.vi b,.vi B]).toB=true:=by
 refine QV.2 ⟨Hb ho hM hn hN,?_,?_,?_,?_,h4,rfl,rfl,rfl,s1,s2⟩
 .show(0:Int)<=(a:Int);omega
 .show(a:Int)<(m:Int);omega
 .show(m:Int)<(b:Int);omega
 .show(b:Int)<=n.toI;omega
theorem zK{va vb:Val}{a b:Nat}(ha:va.toI=(a:Int))(hb:vb.toI=(b:Int)):F 425 [.vl M,va,vb]= .vl (cU false M a b):=by
 show Val.vl (cU false M (nt va) (nt vb))=_;grind[Ew]
section
variable{I:Opq}{N a m b R E MID:Nat}{B:Int}{r e mid:SX}
theorem cD7(hf: ∀i a,I.f i a=F i a)(h6:(I.w 1).toI=N)(hN:N<=400)(h9:I.w 4= .vi b)(he:bU I e= .vi E)(hmid:bU I mid= .vi MID)(hb:b<=N)(hB:(b:Int)-MID<=B){L:SX}(hL:bU I L= .vl M)(ho:M.all okK=true)(hM:M.length=N)
 (s1:Sd false (cw M MID E)) (s2:Sd false (cw M E b)) (c1:MID<E->E<b->cU false M MID b=Y) (c2: ¬(MID<E/\E<b)->M=Y):W7 (DP B e mid L) I=some (0,[.vl Y]):=by
 have hret: ¬(MID<E/\E<b)->W7 (.ret 0 [L]) I=some (0,[.vl Y]):=λh=>by
  show some (0,[bU I L])=_;grind
 by_cases h1:MID<E
 .refine cy (by show decide ((bU I mid).toI<(bU I e).toI)=true;simp_all) ?_;by_cases h2:E<b
  .refine cy (by show decide ((bU I e).toI<(I.w 4).toI)=true;simp_all) (W8 ?_ ?_)
   .show(I.f 426 [bU I L,I.w 1,bU I mid,bU I e,I.w 4,.vi B]).toB=true;grind[MX]
   .show some (0,[I.f 425 [bU I L,bU I mid,I.w 4]])=_;rw[hf,hL,hmid,h9,zK rfl rfl,c1 h1 h2]
  .exact cu (by show decide ((bU I e).toI<(I.w 4).toI)=false;simp_all) (hret (by omega))
 .exact cu (by show decide ((bU I mid).toI<(bU I e).toI)=false;simp_all) (hret (by omega))
theorem cD8(hf: ∀i a,I.f i a=F i a)(h6:(I.w 1).toI=N)(hN:N<=400)(h7:I.w 2= .vi a)(h9:I.w 4= .vi b)(hr:bU I r= .vi R)(he:bU I e= .vi E)(hmid:bU I mid= .vi MID)(hb:b<=N)(hmb:MID<b)(hB:(b:Int)-MID<=B)(hB2:(MID:Int)-a<=B){L:SX}{M2:List Val}(hL:bU I L= .vl M)(ho:M.all okK=true)(hM:M.length=N)(ho2:M2.all okK=true)(hM2:M2.length=N)
 (t1:Sd false (cw M a R)) (t2:Sd false (cw M R MID)) (d1:a<R->R<MID->cU false M a MID=M2) (d2: ¬(a<R/\R<MID)->M=M2)
 (s1:Sd false (cw M2 MID E)) (s2:Sd false (cw M2 E b)) (c1:MID<E->E<b->cU false M2 MID b=Y) (c2: ¬(MID<E/\E<b)->M2=Y):W7 (Gq B r e mid L) I=some (0,[.vl Y]):=by
 have hid: ¬(a<R/\R<MID)->W7 (DP B e mid L) I=some (0,[.vl Y]):=λh=>by
  have:=d2 h;subst this;exact cD7 hf h6 hN h9 he hmid hb hB hL ho hM s1 s2 c1 c2
 by_cases h1:a<R
 .refine cy (by show decide ((I.w 2).toI<(bU I r).toI)=true;simp_all) ?_;by_cases h2:R<MID
  .refine cy (by show decide ((bU I r).toI<(bU I mid).toI)=true;simp_all) (W8 ?_ ?_)
   .show(I.f 426 [bU I L,I.w 1,I.w 2,bU I r,bU I mid,.vi B]).toB=true;grind[MX]
   .refine cD7 hf h6 hN h9 he hmid hb hB ?_ ho2 hM2 s1 s2 c1 c2;show I.f 425 [bU I L,I.w 2,bU I mid]=_;rw[hf,hL,hmid,h7,zK rfl rfl,d1 h1 h2]
  .exact cu (by show decide ((bU I r).toI<(bU I mid).toI)=false;simp_all) (hid (by omega))
 .exact cu (by show decide ((I.w 2).toI<(bU I r).toI)=false;simp_all) (hid (by omega))
theorem do4{n va vm vb:Val}{a m b:Nat}(ho:M.all okK=true)(hM:M.length=N)(hn:n.toI=(N:Int))(hN:N<=400)(ha:va.toI=(a:Int))(hm:vm.toI=(m:Int))(hb:vb.toI=(b:Int))(h1:a<m)(h2:m<b)(h3:b<=N):(F 422 [.vl M,n,va,vm,vb]).toB=true:=by
 show(mI (.vl M) n&&decide (0<=va.toI/\va.toI<vm.toI/\vm.toI<vb.toI/\vb.toI<=n.toI))=true;grind[and2,Hb,decide_eq_true]
theorem do5(hf: ∀i a,I.f i a=F i a)(h6:(I.w 1).toI=N)(hN:N<=400)(h7:I.w 2= .vi a)(h8:(I.w 3).toI=m)(h9:I.w 4= .vi b)(hr:bU I r= .vi R)(he:bU I e= .vi E)(hmid:bU I mid= .vi MID)(hb:b<=N)(hEb:E<=b)(hmb:MID<b)(hB:(b:Int)-MID<=B)(hB2:(MID:Int)-a<=B){l M2:List Val}(h5:I.w 0= .vl l)(hl:l.length=N)(hlo:l.all okK=true)
 (b1:R<m->m<E->yF l R m E=M) (b2: ¬(R<m/\m<E)->l=M) (p1:M.Perm l)
 (t1:Sd false (cw M a R)) (t2:Sd false (cw M R MID)) (d1:a<R->R<MID->cU false M a MID=M2) (d2: ¬(a<R/\R<MID)->M=M2) (p2:M2.Perm l)
 (s1:Sd false (cw M2 MID E)) (s2:Sd false (cw M2 E b)) (c1:MID<E->E<b->cU false M2 MID b=Y) (c2: ¬(MID<E/\E<b)->M2=Y):W7 (Na B r e mid) I=some (0,[.vl Y]):=by
 have oM:=zX hlo p1;have lM:M.length=N:=p1.length_eq.trans hl;have oM2:=zX hlo p2;have lM2:M2.length=N:=p2.length_eq.trans hl;have hid: ¬(R<m/\m<E)->W7 (Gq B r e mid aM) I=some (0,[.vl Y]):=λh=>
  cD8 hf h6 hN h7 h9 hr he hmid hb hmb hB hB2 (L:= aM) (by show I.w 0=_;grind) oM lM oM2 lM2 t1 t2 d1 d2 s1 s2 c1 c2
 by_cases h1:R<m
 .refine cy (by show decide ((bU I r).toI<(I.w 3).toI)=true;simp_all) ?_;by_cases h2:m<E
  .refine cy (by show decide ((I.w 3).toI<(bU I e).toI)=true;simp_all) (W8 ?_ ?_)
   .show(I.f 422 [I.w 0,I.w 1,bU I r,I.w 3,bU I e]).toB=true;rw[hf,h5,hr,he];exact do4 hlo hl h6 hN rfl h8 rfl h1 h2 (by omega)
   .refine cD8 hf h6 hN h7 h9 hr he hmid hb hmb hB hB2 ?_ oM lM oM2 lM2 t1 t2 d1 d2 s1 s2 c1 c2;show I.f 423 [I.w 0,bU I r,I.w 3,bU I e]=_;rw[hf,h5,hr,he,<-b1 h1 h2];show Val.vl (yF l R (nt (I.w 3)) E)=_;rw[Ew h8]
  .exact cu (by show decide ((I.w 3).toI<(bU I e).toI)=false;simp_all) (hid (by omega))
 .exact cu (by show decide ((bU I r).toI<(I.w 3).toI)=false;simp_all) (hid (by omega))
end
end Go.Ev.S7
namespace Go.Ev.S7
open Go Go.Ev
theorem QX{T:Nat->Bool}{lo hi:Nat}{step:List Val->Option (Nat×List Val)}{va vb:Val}(hle:lo<=hi)(h1: ∀i j:Nat,lo<=i->i<j->j<=hi->step [.vi i,.vi j]=some (0,if T ((i+j)/2)=true then [.vi ((i+j)/2+1:Nat),.vi j]else [.vi i,.vi ((i+j)/2:Nat)]))(h2: ∀i:Nat,step [.vi i,.vi i]=some (1,[.vi i,.vi i])):
 cI step [.vi lo,.vi hi]=some (0,[.vi (bs T (hi-lo) lo hi),.vi (bs T (hi-lo) lo hi)]):=by
 rw[nh];exact Nm h1 h2 (hi-lo) lo hi (i6 _) hle (i6 _) (i6 _)
theorem t_sym{I:Opq}{B:Int}(hf: ∀i a,I.f i a=F i a)(hn:(F 426 [I.w 0,I.w 1,I.w 2,I.w 3,I.w 4,.vi (2*B)]).toB=true):W7 (pY B) I=some (0,[F 425 [I.w 0,I.w 2,I.w 4]]):=by
 have hn':GP [I.w 0,I.w 1,I.w 2,I.w 3,I.w 4,.vi (2*B)]=true:=hn;obtain⟨ho,q1,q2,q3,q4,q5,i7,i8,i9,s1,s2⟩:=QV.1 hn';have ho:mI (I.w 0) (I.w 1)=true:=ho;have q1:0<=(I.w 2).toI:=q1;have q2:(I.w 2).toI<(I.w 3).toI:=q2;have q3:(I.w 3).toI<(I.w 4).toI:=q3;have q4:(I.w 4).toI<=(I.w 1).toI:=q4;have q5:(I.w 4).toI-(I.w 2).toI<=2*B:=q5;have s1:Sd false (cw (I.w 0).toL (nt (I.w 2)) (nt (I.w 3))):=s1;have s2:Sd false (cw (I.w 0).toL (nt (I.w 3)) (nt (I.w 4))):=s2;obtain⟨e5,oa,h6,hl⟩:=GG ho;have h7:=qL q1;have h8:=qL (show 0<=(I.w 3).toI by omega);have h9:=qL (show 0<=(I.w 4).toI by omega);have w7:I.w 2= .vi (nt (I.w 2)):=(KT (show tn (I.w 2)=true from i7)).trans (congrArg Val.vi h7);have w8:I.w 3= .vi (nt (I.w 3)):=(KT (show tn (I.w 3)=true from i8)).trans (congrArg Val.vi h8);have w9:I.w 4= .vi (nt (I.w 4)):=(KT (show tn (I.w 4)=true from i9)).trans (congrArg Val.vi h9);have hF:F 425 [I.w 0,I.w 2,I.w 4]= .vl (cU false (I.w 0).toL (nt (I.w 2)) (nt (I.w 4))):=rfl;rw[hF];generalize nt (I.w 2)=a at h7 w7 s1⊢;generalize nt (I.w 3)=m at h8 w8 s1 s2⊢;generalize nt (I.w 4)=b at h9 w9 s2⊢;obtain⟨l,hL⟩: ∃l,(I.w 0).toL=l:=⟨_,rfl⟩;obtain⟨N,hNN⟩: ∃N,l.length=N:=⟨_,rfl⟩;have hlN:(I.w 0).toL.length=N:=by grind
 rw[hlN]at h6 hl;have ham:a<m:=by omega
 have hmb:m<b:=by omega
 have hbN:b<=N:=by omega
 rw[cW0];by_cases c1:m=a+1
 .
  refine cy (by show decide (cg .sub .i64 (I.w 3).toI (I.w 2).toI=1)=true;grind[mL,decide_eq_true]) ?_;subst c1;have so:=di4 (sec:=false) (l:=(I.w 0).toL) (a:=a) (b:=b) hmb (by omega) s2;have hlp:cI (λvs=>W7 Gw (I.upd 2000 vs)) [.vi (a+1:Nat),.vi b]=_:=QX (T:=λh=>cL false (bW (I.w 0).toL h) (bW (I.w 0).toL a)) (va:= .vi 0) (vb:= .vi 0) (by omega) (λi j h1 h2 h3=>dn8 hf h7 h6 hl hlN oa h2 (by omega) (by omega)) (λi=>QT i);have hF2:F 462 [.vi (a+1:Nat),.vi b,I.w 1,I.w 0,.vi a]=cr (0,[.vi (bs (λh=>cL false (bW (I.w 0).toL h) (bW (I.w 0).toL a)) (b-(a+1)) (a+1) b),.vi (bs (λh=>cL false (bW (I.w 0).toL h) (bW (I.w 0).toL a)) (b-(a+1)) (a+1) b)]):=rfl;generalize bs (λh=>cL false (bW (I.w 0).toL h) (bW (I.w 0).toL a)) (b-(a+1)) (a+1) b=r at so hlp hF2;obtain⟨r1,r2,r3⟩:=so;have e462:I.f 462 [I.w 3,I.w 4,I.w 1,I.w 0,I.w 2]=cr (0,[.vi r,.vi r]):=by
   grind
  have er:bZ (I.f 462 [I.w 3,I.w 4,I.w 1,I.w 0,I.w 2]).toL 1 0= .vi r:=by rw[e462];rfl
  have hF3: ∀x y:Val,F 463 [.vi a,I.w 0,x,y,.vi r]=cr (0,[.vi (r-1:Nat),.vl (oc (I.w 0).toL a (r-1-a))]):=λ_ _=>rfl
  have e463:I.f 463 [I.w 2,I.w 0,I.w 1,I.w 0,bU I yu]=cr (0,[.vi (r-1:Nat),.vl (oc (I.w 0).toL a (r-1-a))]):=by
   rw[show bU I yu= .vi r from er,hf,w7,hF3]
  refine Z3 (r:=(0,[.vi r,.vi r])) ?_ e462 (Z3 (r:=(0,[.vi (r-1:Nat),.vl (oc (I.w 0).toL a (r-1-a))])) ?_ e463 ?_)
  .show cI _ [I.w 3,I.w 4]=_;grind
  .show cI _ [I.w 2,I.w 0]=_;rw[w7];refine wS (λi=>[.vi (a+i:Nat),.vl (oc (I.w 0).toL a i)]) (n:=r-1-a) (by rw[show oc (I.w 0).toL a 0=(I.w 0).toL from rfl,<-e5];rfl) (λi hi=> ?_) ?_
   .exact do1 h6 hl er (by grind[LE]) (Vy oa i (by omega)) (by omega) (by omega)
   .rw[show a+(r-1-a)=r-1 by omega];refine cu ?_ rfl;show decide (((r-1:Nat):Int)<cg .sub .i64 (bZ (I.f 462 [I.w 3,I.w 4,I.w 1,I.w 0,I.w 2]).toL 1 0).toI 1)=false;grind[a06,DW,decide_eq_false]
  .show some (0,[bZ (I.f 463 [I.w 2,I.w 0,I.w 1,I.w 0,bU I yu]).toL 1 1])=_;rw[e463,<-r3];rfl
 .refine cu (by show decide (cg .sub .i64 (I.w 3).toI (I.w 2).toI=1)=false;grind[mL,decide_eq_false]) ?_;by_cases c2:b=m+1
  .
   refine cy (by show decide (cg .sub .i64 (I.w 4).toI (I.w 3).toI=1)=true;grind[mL,decide_eq_true]) ?_;subst c2;have so:=di5 (sec:=false) (l:=(I.w 0).toL) (a:=a) (m:=m) ham (by omega) s1;have hlp:cI (λvs=>W7 Gi (I.upd 2000 vs)) [.vi a,.vi m]=_:=QX (T:=λh=> !cL false (bW (I.w 0).toL m) (bW (I.w 0).toL h)) (va:= .vi 0) (vb:= .vi 0) (by omega) (λi j h1 h2 h3=>dn9 hf h8 h6 hl hlN oa h2 (by omega) (by omega)) (λi=>QT i);have hF2:F 464 [.vi a,.vi m,I.w 1,I.w 0,.vi m]=cr (0,[.vi (bs (λh=> !cL false (bW (I.w 0).toL m) (bW (I.w 0).toL h)) (m-a) a m),.vi (bs (λh=> !cL false (bW (I.w 0).toL m) (bW (I.w 0).toL h)) (m-a) a m)]):=rfl;generalize bs (λh=> !cL false (bW (I.w 0).toL m) (bW (I.w 0).toL h)) (m-a) a m=r at so hlp hF2;obtain⟨r1,r2,r3⟩:=so;have e464:I.f 464 [I.w 2,I.w 3,I.w 1,I.w 0,I.w 3]=cr (0,[.vi r,.vi r]):=by
    grind
   have er:bZ (I.f 464 [I.w 2,I.w 3,I.w 1,I.w 0,I.w 3]).toL 1 0= .vi r:=by rw[e464];rfl
   have hF3: ∀x y:Val,F 465 [.vi m,I.w 0,x,y,.vi r]=cr (0,[.vi r,.vl (ng (I.w 0).toL m (m-r))]):=λ_ _=>rfl
   have e465:I.f 465 [I.w 3,I.w 0,I.w 1,I.w 0,bU I xG]=cr (0,[.vi r,.vl (ng (I.w 0).toL m (m-r))]):=by
    rw[show bU I xG= .vi r from er,hf,w8,hF3]
   refine Z3 (r:=(0,[.vi r,.vi r])) ?_ e464 (Z3 (r:=(0,[.vi r,.vl (ng (I.w 0).toL m (m-r))])) ?_ e465 ?_)
   .show cI _ [I.w 2,I.w 3]=_;grind
   .show cI _ [I.w 3,I.w 0]=_;rw[w8];refine wS (λi=>[.vi (m-i:Nat),.vl (ng (I.w 0).toL m i)]) (n:=m-r) (by rw[show ng (I.w 0).toL m 0=(I.w 0).toL from rfl,<-e5];rfl) (λi hi=> ?_) ?_
    .grind[do2,ng,Lx,XU,iK]
    .rw[show m-(m-r)=r by omega];refine cu ?_ rfl;show decide ((bZ (I.f 464 [I.w 2,I.w 3,I.w 1,I.w 0,I.w 3]).toL 1 0).toI<(r:Int))=false;grind[a06,decide_eq_false]
   .show some (0,[bZ (I.f 465 [I.w 3,I.w 0,I.w 1,I.w 0,bU I xG]).toL 1 1])=_;rw[e465,<-r3];rfl
  .refine cu (by show decide (cg .sub .i64 (I.w 4).toI (I.w 3).toI=1)=false;grind[mL,decide_eq_false]) ?_;obtain⟨mid,hmid⟩: ∃mid,mid=(a+b)/2:=⟨_,rfl⟩;have d2:bU I dH= .vi mid:=by
    show Val.vi (IntKind.i64.wrap (cg .shr .u64 (IntKind.u64.wrap (cg .add .i64 (I.w 2).toI (I.w 4).toI)) 1))=_;grind[Gv]
   have d3:bU I jm= .vi (mid+m:Nat):=by
    show Val.vi (cg .add .i64 (bU I dH).toI (I.w 3).toI)=_;rw[d2,h8,a06,rO (by omega)]
   have d5:bU I qc= .vi (mid+m-1:Nat):=by
    show Val.vi (cg .sub .i64 (bU I jm).toI 1)=_;rw[d3,a06,DW (by omega) (by omega)]
   have key: ∀(lo hi r:Nat) (va vb:Val) (er ee:SX),(mid<m/\lo=mid+m-b/\hi=mid\/m<=mid/\lo=a/\hi=m)->r=bs (λc=> !cL false (bW (I.w 0).toL (mid+m-1-c)) (bW (I.w 0).toL c)) (hi-lo) lo hi->bU I er= .vi r->(∀n:Nat,bU I er= .vi n->n<=mid+m->bU I ee= .vi (mid+m-n:Nat))->W7 (Na B er ee dH) I=some (0,[.vl (cU false (I.w 0).toL a b)]):=λlo hi r va vb er ee hlh hr h1 h2=>by
    obtain⟨g1,g2,g3,g4,M,M2,b1,b2,p1,t1,t2,k1,k2,p2,u1,u2,x1,x2⟩:=di6 (sec:=false) (l:=(I.w 0).toL) ham hmb (by omega) s1 s2 hmid hlh hr;exact do5 hf h6 hl w7 h8 w9 h1 (h2 r h1 (by omega)) d2 hbN g4 (by omega) (by omega) (by omega) e5 hlN oa b1 b2 p1 t1 t2 k1 k2 p2 u1 u2 x1 x2
   have hlp: ∀lo hi:Nat,(mid<m/\lo=mid+m-b/\hi=mid\/m<=mid/\lo=a/\hi=m)->cI (λvs=>W7 yB (I.upd 2000 vs)) [.vi lo,.vi hi]=some (0,[.vi (bs (λc=> !cL false (bW (I.w 0).toL (mid+m-1-c)) (bW (I.w 0).toL c)) (hi-lo) lo hi),.vi (bs (λc=> !cL false (bW (I.w 0).toL (mid+m-1-c)) (bW (I.w 0).toL c)) (hi-lo) lo hi)]):=λlo hi hlh=>QX (T:=λc=> !cL false (bW (I.w 0).toL (mid+m-1-c)) (bW (I.w 0).toL c)) (va:= .vi 0) (vb:= .vi 0) (by omega) (λi j h1 h2 h3=>do0 hf h7 h8 h9 h6 hl hlN oa hmid hbN ham hmb h2 (by omega) (by omega) (by omega)) (λi=>QT i)
   have hF2: ∀(lo hi:Nat) (va vb x y:Val),nt va=lo->nt vb=hi->F 466 [va,vb,I.w 1,I.w 0,I.w 2,I.w 3,I.w 4,x,y,.vi (mid+m-1:Nat)]=cr (0,[.vi (bs (λc=> !cL false (bW (I.w 0).toL (mid+m-1-c)) (bW (I.w 0).toL c)) (hi-lo) lo hi),.vi (bs (λc=> !cL false (bW (I.w 0).toL (mid+m-1-c)) (bW (I.w 0).toL c)) (hi-lo) lo hi)]):=λlo hi va vb x y h1 h2=>by subst h1;subst h2;rfl
   by_cases c3:mid<m
   .refine cy (by show decide ((bU I dH).toI<(I.w 3).toI)=true;grind[a06,decide_eq_true]) ?_;have hlh:mid<m/\mid+m-b=mid+m-b/\mid=mid\/m<=mid/\mid+m-b=a/\mid=m:= .inl ⟨c3,rfl,rfl⟩;have d4:bU I xF= .vi (mid+m-b:Nat):=by
     show Val.vi (cg .sub .i64 (bU I jm).toI (I.w 4).toI)=_;rw[d3,h9,a06,mL (by omega) (by omega)]
    have e466:I.f 466 [bU I xF,bU I dH,I.w 1,I.w 0,I.w 2,I.w 3,I.w 4,bU I dH,bU I jm,bU I qc]=cr (0,[.vi (bs (λc=> !cL false (bW (I.w 0).toL (mid+m-1-c)) (bW (I.w 0).toL c)) (mid-(mid+m-b)) (mid+m-b) mid),.vi (bs (λc=> !cL false (bW (I.w 0).toL (mid+m-1-c)) (bW (I.w 0).toL c)) (mid-(mid+m-b)) (mid+m-b) mid)]):=by
     rw[hf,d5];exact hF2 (mid+m-b) mid _ _ _ _ (by rw[d4];rfl) (by rw[d2];rfl)
    refine Z3 (r:=(0,_)) ?_ e466 ?_
    .show cI _ [bU I xF,bU I dH]=_;grind
    .refine key _ _ _ (.vi 0) (.vi 0) pq pA hlh rfl ?_ (λn h1 h2=> ?_)
     .show bZ (I.f 466 [bU I xF,bU I dH,I.w 1,I.w 0,I.w 2,I.w 3,I.w 4,bU I dH,bU I jm,bU I qc]).toL 1 0=_;rw[e466];rfl
     .show Val.vi (cg .sub .i64 (bU I jm).toI (bU I pq).toI)=_;rw[d3,h1,a06,a06,mL h2 (by omega)]
   .refine cu (by show decide ((bU I dH).toI<(I.w 3).toI)=false;grind[a06,decide_eq_false]) ?_;have hlh:mid<m/\a=mid+m-b/\m=mid\/m<=mid/\a=a/\m=m:= .inr ⟨by omega,rfl,rfl⟩;have e466:I.f 466 [I.w 2,I.w 3,I.w 1,I.w 0,I.w 2,I.w 3,I.w 4,bU I dH,bU I jm,bU I qc]=cr (0,[.vi (bs (λc=> !cL false (bW (I.w 0).toL (mid+m-1-c)) (bW (I.w 0).toL c)) (m-a) a m),.vi (bs (λc=> !cL false (bW (I.w 0).toL (mid+m-1-c)) (bW (I.w 0).toL c)) (m-a) a m)]):=by
     grind[Ew]
    refine Z3 (r:=(0,_)) ?_ e466 ?_
    .show cI _ [I.w 2,I.w 3]=_;grind
    .refine key _ _ _ (.vi 0) (.vi 0) pM qK hlh rfl ?_ (λn h1 h2=> ?_)
     .show bZ (I.f 466 [I.w 2,I.w 3,I.w 1,I.w 0,I.w 2,I.w 3,I.w 4,bU I dH,bU I jm,bU I qc]).toL 1 0=_;rw[e466];rfl
     .show Val.vi (cg .sub .i64 (bU I jm).toI (bU I pM).toI)=_;rw[d3,h1,a06,a06,mL h2 (by omega)]
theorem sym_vac{a b c d e:Val}(hn:(F 426 [a,b,c,d,e,.vi 1]).toB=true):False:=by
 obtain⟨_,_,q2,q3,_,q5,_⟩:=QV.1 (show GP [a,b,c,d,e,.vi 1]=true from hn);have q2:c.toI<d.toI:=q2;have q3:d.toI<e.toI:=q3;have q5:e.toI-c.toI<=1:=q5;omega
variable{l:List Val}
theorem UP{a b c d:Nat}(ha:a<=l.length)(hd:d<=a):cw (cU false l a b) c d=cw l c d:=by
 unfold cw cU;rw[R1 (by rw[k8];omega),Q1,A8 hd]
theorem do6{a b c:Nat}(h:a<=b)(hb:b<=l.length)(hc:b<=c):(cU false l a b).drop c=l.drop c:=by
 unfold cU;rw[<-A4,N2,O1 (by rw[k7,k8,srt_len,mi hb];omega),List.nil_append,k7,k8,srt_len,mi hb,N3];grind
theorem dI1{a b c d:Nat}(h:a<=b)(hb:b<=l.length)(hc:b<=c):cw (cU false l a b) c d=cw l c d:=by
 grind[cw,List.drop_take,do6]
theorem ow(B:Nat)(l:List Val): ∀k,(dT B l k).length=l.length
 |0=>rfl
 |k+1=>by rw[dT,bY3 false (by omega),ow B l k]
theorem Da(B:Nat)(l:List Val): ∀k,(dT B l k).Perm l
 |0=> .refl _
 |k+1=>(Fq false (by omega)).trans (Da B l k)
theorem IY(B:Nat)(l:List Val): ∀k,Cl false (dT B l k) l
 |0=>Cl.refl _ _
 |k+1=>(Ou false (by omega)).trans (IY B l k)
theorem xn{B:Nat}{l:List Val}: ∀{k c d:Nat},B*k<=l.length->B*k<=c->cw (dT B l k) c d=cw l c d
 |0,c,d,_,_=>rfl
 |k+1,c,d,hl,hc=>by
  rw[Nat.mul_succ]at hl hc;rw[dT,dI1 (by omega) (by grind[ow]) hc,xn (by omega) (by omega)]
theorem UO{B:Nat}{l:List Val}: ∀{k j:Nat},j<k->B*k<=l.length->cw (dT B l k) (B*j) (B*j+B)=srt false (cw l (B*j) (B*j+B))
 |k+1,j,hj,hl=>by
  rw[Nat.mul_succ]at hl;rw[dT];by_cases h:j=k
  .subst h;rw[Nx (by omega) (by grind[ow]),xn (by omega) (i6 _)]
  .have hjk:j<k:=by omega
   have:B*j+B<=B*k:=by exact M5 _ hjk
   rw[UP (by rw[ow];omega) this,UO hjk (by omega)]
def Bk(B n:Nat)(l:List Val):Prop:= ∀k,Sd false (cw l (B*k) (min (B*k+B) n))
theorem RJ:Sd false []:=List.Pairwise.nil
theorem cE1{n:Nat}(hl:l.length=n):Bk 20 n (cU false (dT 20 l (n/20)) (20*(n/20)) n):=by
 have hq:20*(n/20)<=n:=M6 n 20;intro k;rcases G5 k (n/20)with h|h|h
 .have h1:20*k+20<=20*(n/20):=by omega
  rw[A8 (by omega),UP (by rw[ow];omega) h1,UO h (by omega)];exact srt_sorted _ _
 .subst h;rw[M3 (by omega),Nx hq (by rw[ow];omega)];exact srt_sorted _ _
 grind[Tj,RJ]
theorem VL{bs n:Nat}(h0:0<bs)(hl:l.length=n)(hb:Bk bs n l):Bk (2*bs) n (pass bs n l)/\Cl false (pass bs n l) l/\(pass bs n l).Perm l:=by
 have hq:2*bs*(n/(2*bs))<=n:=M6 n (2*bs);have hq2:n<2*bs*(n/(2*bs))+2*bs:=by
  have:=T7 n (show 0<2*bs by omega);omega
 have ev: ∀k,bs*(2*k)=2*bs*k:=λk=>by grind
 have hp:pass bs n l=if 2*bs*(n/(2*bs))+bs<n then cU false (dT (2*bs) l (n/(2*bs))) (2*bs*(n/(2*bs))) n else dT (2*bs) l (n/(2*bs)):=rfl
 generalize n/(2*bs)=q at hq hq2 hp;have hM: ∀k,k<q->Sd false (cw (dT (2*bs) l q) (2*bs*k) (min (2*bs*k+2*bs) n)):=λk hk=>by
  have:2*bs*k+2*bs<=2*bs*q:=by exact M5 _ hk
  rw[A8 (by omega),UO hk (by omega)];exact srt_sorted _ _
 have hgt: ∀k,q<k->n<=2*bs*k:=λk hk=>by
  have:2*bs*(q+1)<=2*bs*k:=M5 _ hk;grind
 by_cases hc:2*bs*q+bs<n
 .have e:(if 2*bs*q+bs<n then cU false (dT (2*bs) l q) (2*bs*q) n else dT (2*bs) l q)=cU false (dT (2*bs) l q) (2*bs*q) n:=e8 hc;refine⟨λk=> ?_,?_,?_⟩
  .rw[hp,e];rcases G5 k q with h|h|h
   .have:2*bs*k+2*bs<=2*bs*q:=by exact M5 _ h
    rw[UP (by rw[ow];omega) (by rw[A8 (by omega)];exact this)];exact hM k h
   .subst h;rw[M3 (by omega),Nx hq (by rw[ow];omega)];exact srt_sorted _ _
   grind[Tj,RJ]
  .rw[hp,e];exact(Ou false hq).trans (IY _ _ _)
  .rw[hp,e];exact(Fq false hq).trans (Da _ _ _)
 .have e:(if 2*bs*q+bs<n then cU false (dT (2*bs) l q) (2*bs*q) n else dT (2*bs) l q)=dT (2*bs) l q:=b9 hc;refine⟨λk=> ?_,?_,?_⟩
  .rw[hp,e];rcases G5 k q with h|h|h
   .exact hM k h
   .subst h;rw[M3 (by omega),xn (by omega) (i6 _)];have:=hb (2*k);rw[ev,M3 (by omega)]at this;exact this
   .rw[Tj (by have:=hgt k h;omega)];exact RJ
  .rw[hp,e];exact IY _ _ _
  grind[Da]
theorem Vl{n:Nat}: ∀(f bs:Nat) (l:List Val),0<bs->n<=bs*2^f->l.length=n->Bk bs n l->(nJ n f bs l).2=srt false l
 |0,bs,l,h0,hn,hl,hb=>by
  rw[nJ,xU];have:=hb 0;grind[cw]
 |f+1,bs,l,h0,hn,hl,hb=>by
  rw[nJ];by_cases h:bs<n
  .rw[e8 h];obtain⟨p1,p2,p3⟩:=VL h0 hl hb;rw[Vl f (2*bs) _ (by omega) (by grind) (by rw[p3.length_eq];exact hl) p1];exact srt_cl p2
  .rw[b9 h,xU];have:=hb 0;grind[cw]
end Go.Ev.S7
namespace Go.Ev.S7
open Go Go.Ev
variable{I:Opq}{l:List Val}{n:Nat}
theorem Tt{x y:Nat}(h:x*y<=1000000):cg .mul .i64 (x:Int) (y:Int)=((x*y:Nat):Int):=by
 have:cg .mul .i64 (x:Int) (y:Int)=IntKind.i64.wrap ((x:Int)*(y:Int)):=rfl;grind[Int.natCast_mul,mG]
theorem Zd{M:List Val}{n va vb:Val}{N a b:Nat}(ho:M.all okK=true)(hM:M.length=N)(hn:n.toI=(N:Int))(hN:N<=400)(ha:va.toI=(a:Int))(hb:vb.toI=(b:Int))(h1:a<=b)(h2:b<=N):(F 424 [.vl M,n,va,vb]).toB=true:=by
 show(mI (.vl M) n&&decide (0<=va.toI/\va.toI<=vb.toI/\vb.toI<=n.toI))=true;grind[and2,Hb,decide_eq_true]
theorem Jp{B:Nat}(h:l.all okK=true)(k:Nat):(dT B l k).all okK=true:=zX h (Da B l k)
theorem e06(hf: ∀i a,I.f i a=F i a)(h1:(I.w 1).toI=n)(h2:(I.w 2).toI=n)(hl:l.length=n)(ho:l.all okK=true)(hn:n<=400):
 cI (λvs=>W7 WO (I.upd 2000 vs)) [.vi 0,.vi 20,.vl l]=some (0,[.vi (20*(n/20):Nat),.vi (20*(n/20)+20:Nat),.vl (dT 20 l (n/20))]):=by
 refine wS (λk=>[.vi (20*k:Nat),.vi (20*k+20:Nat),.vl (dT 20 l k)]) (n:=n/20) rfl (λk hk=> ?_) ?_
 .have hk2:20*k+20<=n:=by omega
  obtain⟨aa,ae⟩: ∃aa,aa=I.upd 2000 [.vi (20*k:Nat),.vi (20*k+20:Nat),.vl (dT 20 l k)]:=⟨_,rfl⟩;have v0:aa.w 2000= .vi (20*k:Nat):=by rw[ae];rfl
  have v1:aa.w 2001= .vi (20*k+20:Nat):=by rw[ae];rfl
  have v2:aa.w 2002= .vl (dT 20 l k):=by rw[ae];rfl
  have u1:(aa.w 1).toI=n:=by rw[ae];exact h1
  have u2:(aa.w 2).toI=n:=by rw[ae];exact h2
  have hf': ∀i a,aa.f i a=F i a:=by rw[ae];exact hf
  rw[<-ae];refine cy (by show decide ((aa.w 2001).toI<=(aa.w 2).toI)=true;rw[v1,u2];exact e9 (by show((20*k+20:Nat):Int)<=(n:Int);omega)) (W8 ?_ ?_)
  .show(aa.f 424 [aa.w 2002,aa.w 1,aa.w 2000,aa.w 2001]).toB=true;rw[hf',v0,v1,v2];exact Zd (Jp ho k) (by grind[ow]) u1 hn rfl rfl (by omega) hk2
  .show some (0,[aa.w 2001,Val.vi (cg .add .i64 (aa.w 2001).toI 20),aa.f 425 [aa.w 2002,aa.w 2000,aa.w 2001]])=_;rw[hf',v0,v1,v2,zK rfl rfl,a06,show(20:Int)=((20:Nat):Int)from rfl,rO (by omega)];rfl
 .refine cu ?_ rfl;show decide (((20*(n/20)+20:Nat):Int)<=(I.w 2).toI)=false;grind
theorem e07(hf: ∀i a,I.f i a=F i a){bs:Nat}(h1:(I.w 1).toI=n)(h2:I.w 2= .vi n)(h3:I.w 3000= .vi bs)(h0:0<bs)(hl:l.length=n)(ho:l.all okK=true)(hn:n<=400)(hbs:bs<=1000)(hb:Bk bs n l):
 cI (λvs=>W7 Po (I.upd 4000 vs)) [.vi 0,.vi (2*bs:Nat),.vl l]=some (0,[.vi (2*bs*(n/(2*bs)):Nat),.vi (2*bs*(n/(2*bs))+2*bs:Nat),.vl (dT (2*bs) l (n/(2*bs)))]):=by
 have hq:2*bs*(n/(2*bs))<=n:=M6 n (2*bs);have hq2:n<2*bs*(n/(2*bs))+2*bs:=by
  have:=T7 n (show 0<2*bs by omega);omega
 have ev: ∀k,bs*(2*k)=2*bs*k:=λk=>by grind
 have od: ∀k,bs*(2*k+1)=2*bs*k+bs:=λk=>by grind
 generalize n/(2*bs)=q at hq hq2⊢;refine wS (λk=>[.vi (2*bs*k:Nat),.vi (2*bs*k+2*bs:Nat),.vl (dT (2*bs) l k)]) (n:=q) (by rw[Nat.mul_zero,l9];rfl) (λk hk=> ?_) ?_
 .have hk2:2*bs*k+2*bs<=n:=by
   have:2*bs*(k+1)<=2*bs*q:=M5 _ hk;grind
  obtain⟨aa,ae⟩: ∃aa,aa=I.upd 4000 [.vi (2*bs*k:Nat),.vi (2*bs*k+2*bs:Nat),.vl (dT (2*bs) l k)]:=⟨_,rfl⟩;have v0:aa.w 4000= .vi (2*bs*k:Nat):=by rw[ae];rfl
  have v1:aa.w 4001= .vi (2*bs*k+2*bs:Nat):=by rw[ae];rfl
  have v2:aa.w 4002= .vl (dT (2*bs) l k):=by rw[ae];rfl
  have u1:(aa.w 1).toI=n:=by rw[ae];exact h1
  have u2:aa.w 2= .vi n:=by rw[ae];exact h2
  have u3:aa.w 3000= .vi bs:=by rw[ae];exact h3
  have hf': ∀i a,aa.f i a=F i a:=by rw[ae];exact hf
  have a1:cg .add .i64 ((2*bs*k:Nat):Int) (bs:Int)=((2*bs*k+bs:Nat):Int):=rO (by omega);have a2:cg .mul .i64 2 (bs:Int)=((2*bs:Nat):Int):=Tt (x:=2) (by omega);have a3:cg .add .i64 ((2*bs*k+2*bs:Nat):Int) ((2*bs:Nat):Int)=((2*bs*k+2*bs+2*bs:Nat):Int):=rO (by omega);have s1:=hb (2*k);rw[ev,A8 (by omega)]at s1;have s2:=hb (2*k+1);rw[<-ae];refine cy (by show decide ((aa.w 4001).toI<=(aa.w 2).toI)=true;rw[v1,u2];exact e9 (by show((2*bs*k+2*bs:Nat):Int)<=(n:Int);omega)) (W8 ?_ ?_)
  .show(aa.f 426 [aa.w 4002,aa.w 1,aa.w 4000,Val.vi (cg .add .i64 (aa.w 4000).toI (aa.w 3000).toI),aa.w 4001,.vi 512]).toB=true;rw[hf',v0,v1,v2,u3,a06,a06,a1];exact MX (Jp ho k) (by grind[ow]) u1 hn (by omega) (by omega) hk2 (by omega) (by rw[xn (by omega) (i6 _)];exact s1) (by grind[xn])
  .show some (0,[aa.w 4001,Val.vi (cg .add .i64 (aa.w 4001).toI (cg .mul .i64 2 (aa.w 3000).toI)),aa.f 425 [aa.w 4002,aa.w 4000,aa.w 4001]])=_;rw[hf',v0,v1,v2,u3,zK rfl rfl,a06,a06,a2,a3,Nat.mul_succ];rfl
 .refine cu ?_ rfl;show decide (((2*bs*q+2*bs:Nat):Int)<=(I.w 2).toI)=false;rw[h2];exact j5 (by show¬((2*bs*q+2*bs:Nat):Int)<=(n:Int);omega)
def Gp:SX:= .app 469 [aN,.op (.ar .mul .i64) [bn,aY],bc,aO,bc,aT,aY]
def oL:SX:= zo Gp 0
def zW:SX:= zo Gp 2
theorem do7:HA= .ite (zs aY aT) (.loop ⟨469,[aN,.op (.ar .mul .i64) [bn,aY],bc],4000,[aO,bc,aT,aY]⟩ Po [.ite (zs (za oL aY) aT) (.need (.app 426 [zW,aO,oL,za oL aY,aT,.ci 512]) (.ret 0 [.op (.ar .mul .i64) [aY,bn],.app 425 [zW,oL,aT]])) (.ret 0 [.op (.ar .mul .i64) [aY,bn],zW])]) (.ret 1 [aY,bc]):=rfl
theorem do8(hf: ∀i a,I.f i a=F i a){bs:Nat}(h1:(I.w 1).toI=n)(h2:I.w 2= .vi n)(h0:0<bs)(hlt:bs<n)(hl:l.length=n)(ho:l.all okK=true)(hn:n<=400)(hb:Bk bs n l):
 W7 HA (I.upd 3000 [.vi bs,.vl l])=some (0,[.vi (2*bs:Nat),.vl (pass bs n l)]):=by
 obtain⟨aa,ae⟩: ∃aa,aa=I.upd 3000 [.vi bs,.vl l]:=⟨_,rfl⟩;have v0:aa.w 3000= .vi bs:=by rw[ae];rfl
 have v1:aa.w 3001= .vl l:=by rw[ae];rfl
 have u1:(aa.w 1).toI=n:=by rw[ae];exact h1
 have u2:aa.w 2= .vi n:=by rw[ae];exact h2
 have hf': ∀i a,aa.f i a=F i a:=by rw[ae];exact hf
 have a2:cg .mul .i64 2 (bs:Int)=((2*bs:Nat):Int):=Tt (x:=2) (by omega);have a2':cg .mul .i64 (bs:Int) 2=((2*bs:Nat):Int):=by grind[Nat.mul_comm,Tt]
 have it:=e07 hf' (l:=l) u1 u2 v0 h0 hl ho hn (by omega) hb;have hp:pass bs n l=if 2*bs*(n/(2*bs))+bs<n then cU false (dT (2*bs) l (n/(2*bs))) (2*bs*(n/(2*bs))) n else dT (2*bs) l (n/(2*bs)):=rfl
 have hF: ∀x y:Val,F 469 [.vi 0,.vi (2*bs:Nat),.vl l,x,y,.vi n,.vi bs]=cr (0,[.vi (2*bs*(n/(2*bs)):Nat),.vi (2*bs*(n/(2*bs))+2*bs:Nat),.vl (dT (2*bs) l (n/(2*bs)))]):=λ_ _=>rfl
 have hq:2*bs*(n/(2*bs))<=n:=M6 n (2*bs);have hq2:n<2*bs*(n/(2*bs))+2*bs:=by
  have:=T7 n (show 0<2*bs by omega);omega
 generalize n/(2*bs)=q at it hp hF hq hq2;have e469:bU aa Gp=cr (0,[.vi (2*bs*q:Nat),.vi (2*bs*q+2*bs:Nat),.vl (dT (2*bs) l q)]):=by
  show aa.f 469 [.vi 0,.vi (cg .mul .i64 2 (aa.w 3000).toI),aa.w 3001,aa.w 1,aa.w 3001,aa.w 2,aa.w 3000]=_;simp_all
 have ea:bU aa oL= .vi (2*bs*q:Nat):=by show bZ (bU aa Gp).toL 1 0=_;rw[e469];rfl
 have el:bU aa zW= .vl (dT (2*bs) l q):=by show bZ (bU aa Gp).toL 1 2=_;rw[e469];rfl
 have eb:bU aa (za oL aY)= .vi (2*bs*q+bs:Nat):=by
  show Val.vi (cg .add .i64 (bU aa oL).toI (aa.w 3000).toI)=_;rw[ea,v0,a06,a06,rO (by omega)]
 rw[<-ae,do7];refine cy (by show decide ((aa.w 3000).toI<(aa.w 2).toI)=true;simp_all) (Z3 (r:=(0,[.vi (2*bs*q:Nat),.vi (2*bs*q+2*bs:Nat),.vl (dT (2*bs) l q)])) ?_ e469 ?_)
 .show cI _ [.vi 0,.vi (cg .mul .i64 2 (aa.w 3000).toI),aa.w 3001]=_;simp_all
 .by_cases hc:2*bs*q+bs<n
  .refine cy (by show decide ((bU aa (za oL aY)).toI<(aa.w 2).toI)=true;rw[eb,u2];exact e9 (by show((2*bs*q+bs:Nat):Int)<(n:Int);omega)) (W8 ?_ ?_)
   .show(aa.f 426 [bU aa zW,aa.w 1,bU aa oL,bU aa (za oL aY),aa.w 2,.vi 512]).toB=true;rw[hf',el,ea,eb,u2];have s1:=hb (2*q);rw[<-Nat.mul_assoc,K7 bs 2,A8 (by omega)]at s1;have s2:=hb (2*q+1);exact MX (Jp ho q) (by grind[ow]) u1 hn (by omega) hc (i6 _) (by omega) (by simp_all[xn,i6]) (by grind[xn])
   .show some (0,[Val.vi (cg .mul .i64 (aa.w 3000).toI 2),aa.f 425 [bU aa zW,bU aa oL,aa.w 2]])=_;grind[a06,zK]
  .refine cu (by show decide ((bU aa (za oL aY)).toI<(aa.w 2).toI)=false;rw[eb,u2];exact j5 (by show¬((2*bs*q+bs:Nat):Int)<(n:Int);omega)) ?_;show some (0,[Val.vi (cg .mul .i64 (aa.w 3000).toI 2),bU aa zW])=_;simp_all
theorem e08(hf: ∀i a,I.f i a=F i a)(h1:(I.w 1).toI=n)(h2:I.w 2= .vi n)(hn:n<=400): ∀(f bs:Nat) (l:List Val),0<bs->n<=bs*2^f->l.length=n->l.all okK=true->Bk bs n l->
 Iter (λvs=>W7 HA (I.upd 3000 vs)) [.vi bs,.vl l] 0 [.vi (nJ n f bs l).1,.vl (nJ n f bs l).2]:=by
 have out: ∀(bs:Nat) (l:List Val),n<=bs->W7 HA (I.upd 3000 [.vi bs,.vl l])=some (1,[.vi bs,.vl l]):=λbs l h=>by
  refine cu ?_ rfl;show decide ((bs:Int)<(I.w 2).toI)=false;simp_all
 intro f;induction f with
 |zero=>
  intro bs l h0 hb hl ho hbk;exact .out (out bs l (by omega))
 |succ f ih=>
  intro bs l h0 hb hl ho hbk;rw[nJ];by_cases h:bs<n
  .rw[e8 h];obtain⟨p1,p2,p3⟩:=VL h0 hl hbk;exact .more (do8 hf h1 h2 h0 h hl ho hn hbk) (ih (2*bs) _ (by omega) (by grind) (by rw[p3.length_eq];exact hl) (zX ho p3) p1)
  .rw[b9 h];exact .out (out bs l (by omega))
theorem t_stab(hf: ∀i a,I.f i a=F i a)(hn:(F 428 [I.w 0,I.w 1,I.w 2]).toB=true):W7 d28 I=some (0,[F 425 [I.w 0,.vi 0,I.w 2]]):=by
 obtain⟨ho,hd⟩:=W5 (show(mI (I.w 0) (I.w 1)&&(tn (I.w 2)&&decide ((I.w 2).toI=(I.w 1).toI)))=true from hn);obtain⟨i2,hd⟩:=W5 hd;obtain⟨e0,oa,h1,hl⟩:=GG ho;have q1:=j6 hd;generalize hL:(I.w 0).toL=l at e0 oa h1 hl;obtain⟨n,hnn⟩: ∃n,l.length=n:=⟨_,rfl⟩;rw[hnn]at h1 hl;have w2:I.w 2= .vi n:=(KT i2).trans (congrArg Val.vi (q1.trans h1));have h2:(I.w 2).toI=n:=q1.trans h1;have hq:=M6 n 20;have e467:bU I Fy=cr (0,[.vi (20*(n/20):Nat),.vi (20*(n/20)+20:Nat),.vl (dT 20 l (n/20))]):=by
  show I.f 467 [.vi 0,.vi 20,I.w 0,I.w 1,I.w 0,I.w 2]=_;rw[hf,e0,w2];rfl
 have d1:bU I Eh= .vl (dT 20 l (n/20)):=by show bZ (bU I Fy).toL 1 2=_;rw[e467];rfl
 have d2:bU I Fj= .vi (20*(n/20):Nat):=by show bZ (bU I Fy).toL 1 0=_;rw[e467];rfl
 have d3:bU I sK= .vl (cU false (dT 20 l (n/20)) (20*(n/20)) n):=by
  show I.f 425 [bU I Eh,bU I Fj,I.w 2]=_;rw[hf,d1,d2,w2,zK rfl rfl]
 have bk:=cE1 hnn;have pm:(cU false (dT 20 l (n/20)) (20*(n/20)) n).Perm l:=(Fq false hq).trans (Da _ _ _);have cl:Cl false (cU false (dT 20 l (n/20)) (20*(n/20)) n) l:=(Ou false hq).trans (IY _ _ _);have bl:=ow 20 l (n/20);have ba:=Jp (B:=20) oa (n/20);generalize cU false (dT 20 l (n/20)) (20*(n/20)) n=L at d3 bk pm cl;have hres:=Vl 9 20 L (by omega) (by omega) (by rw[pm.length_eq];exact hnn) bk;rw[srt_cl cl]at hres;have e468:I.f 468 [.vi 20,bU I sK,I.w 1,bU I sK,I.w 2]=cr (0,[.vi (nJ n 9 20 L).1,.vl (nJ n 9 20 L).2]):=by
  rw[hf,d3,w2];rfl
 have hF:F 425 [I.w 0,.vi 0,I.w 2]= .vl (srt false l):=by
  rw[e0,w2,show Val.vi 0= .vi ((0:Nat):Int)from rfl,zK rfl rfl,<-hnn,bY6]
 rw[hF];refine Z3 (r:=(0,[.vi (20*(n/20):Nat),.vi (20*(n/20)+20:Nat),.vl (dT 20 l (n/20))])) ?_ e467 (W8 ?_ ?_)
 .show cI _ [.vi 0,.vi 20,I.w 0]=_;grind[e06]
 .show(I.f 424 [bU I Eh,I.w 1,bU I Fj,I.w 2]).toB=true;rw[hf,d1,d2];exact Zd ba (bl.trans hnn) h1 hl rfl h2 hq (i6 _)
 .refine Z3 (r:=(0,[.vi (nJ n 9 20 L).1,.vl (nJ n 9 20 L).2])) ?_ e468 ?_
  .show cI _ [.vi 20,bU I sK]=_;rw[d3,nh];exact e08 hf h1 w2 hl 9 20 L (by omega) (by omega) (by rw[pm.length_eq];exact hnn) (zX oa pm) bk
  .show some (0,[bZ (I.f 468 [.vi 20,bU I sK,I.w 1,bU I sK,I.w 2]).toL 1 1])=_;rw[e468,hres];rfl
end Go.Ev.S7
namespace Go.Ev.S7
open Go Go.Ev
variable{I:Opq}
theorem t_cmpR:W7 IT I=some (0,[F 206 [I.w 0,I.w 1,I.w 2,I.w 7,I.w 8,I.w 9]]):=by
 show W7 IT I=some (0,[Val.vi (Gn ⟨(I.w 0).toS,(I.w 1).toI,(I.w 2).toI⟩ ⟨(I.w 7).toS,(I.w 8).toI,(I.w 9).toI⟩)]);simp[IT,Jd,rG,sJ,IJ,W7,Z6,bU,dB,cA,yf,xQ,Uu,al0,a96,aq8,show∀a b,pz .lss a b=jW a b fromλ_ _=>rfl,show∀a b,pz .gtr a b=jW b a fromλ_ _=>rfl,Gn,decide_eq_true_eq,a06];grind
theorem f431{v:Val}(h:(F 431 [v]).toB=true):v= .vl v.toL/\v.toL.all okK=true:=by
 obtain⟨h1,h2⟩:=W5 (show(isL v&&v.toL.all okK)=true from h);grind[isL_at]
theorem t_sstab(hf: ∀i a,I.f i a=F i a)(hn:(I.w 0).toL.length<=400)(h:(F 431 [I.w 0]).toB=true):W7 Wm I=some (0,[F 425 [I.w 0,.vi 0,.vi (I.w 0).toL.length]]):=by
 obtain⟨e,ho⟩:=f431 h;refine W8 ?_ ?_
 .show(I.f 428 [I.w 0,.vi (I.w 0).toL.length,.vi (I.w 0).toL.length]).toB=true;rw[hf];refine and2 ?_ (and2 rfl (e9 rfl));rw[e];exact Hb ho rfl rfl hn
 .show some (0,[I.f 425 [I.w 0,.vi 0,.vi (I.w 0).toL.length]])=_;rw[hf]
theorem cW1(v:Val):F 425 [v,.vi 0,.vi v.toL.length]= .vl (srt false v.toL):=by
 show Val.vl (cU false v.toL 0 (nt (.vi v.toL.length)))=_;grind[nt,e03,bY6]
theorem t_aggSort(hf: ∀i a,I.f i a=F i a)(hn:(I.w 0).toL.length<=400)(h:(F 431 [I.w 0]).toB=true):W7 by3 I=some (0,[F 490 [I.w 0]]):=by
 have e1:bU I (.app 425 [aM,aN,zl 0])= .vl (srt false (I.w 0).toL):=by
  show I.f 425 [I.w 0,.vi 0,.vi (I.w 0).toL.length]=_;rw[hf,cW1]
 refine W8 ?_ (W8 ?_ ?_)
 .show(decide (((I.w 0).toL.length:Int)<=400)&&(I.f 431 [I.w 0]).toB)=true;grind
 .show decide (((I.w 0).toL.length:Int)=((bU I (.app 425 [aM,aN,zl 0])).toL.length:Int))=true;rw[e1];exact e9 (by show((I.w 0).toL.length:Int)=((srt false (I.w 0).toL).length:Int);rw[srt_len])
 .show some (0,[bU I (.app 425 [aM,aN,zl 0])])=_;rw[e1];rfl
theorem t_cloneR(hf: ∀i a,I.f i a=F i a)(hn:(I.w 0).toL.length<=400)(h:(F 431 [I.w 0]).toB=true):W7 LR I=some (0,[I.w 0]):=by
 obtain⟨e,ho⟩:=f431 h;have hb:decide (((I.w 0).toL.length:Int)<=1000000)=true:=e9 (by omega);by_cases h0:0<(I.w 0).toL.length
 .have h1:decide ((0:Int)<((I.w 0).toL.length:Int))=true:=e9 (by omega);simp[LR,Kn,W7,Z6,bU,dB,cA,h1,hb,h0,al0,a96,ad1,show(I.w 0).toL.length<=1000000 by omega]
 .have h2:(I.w 0).toL=[]:=B1.1 (by omega);have h3:I.w 0= .vl []:=by rw[e,h2]
  simp[LR,Kn,W7,Z6,bU,dB,cA,h3,al0,a96,ad1]
end Go.Ev.S7
namespace Go.Ev
open Go
def Hc:VT:= .ite (zt aY 0) (.need (zn (zp (zm aY aZ)) (zs (zm aY aZ) (zL (zc aW (.op .row [zv 0 2001]))))) (.need (zs (zm aY aZ) (zl 3001)) (.need (zn (zp aY) (zs aY (zL (zc aW (.op .row [zv 0 2001]))))) (.need (zs aY (zl 3001)) (.ite (.op (.scmp .neq) [bX bc (zm aY aZ) 0,zg 3001 3000 0]) (.ite (.op (.scmp .lss) [bX bc (zm aY aZ) 0,zg 3001 3000 0]) (.ret 1 [aY,bc]) (.need (zs aY (zL (.op .lset [bc,zm aY aZ,zv 3001 3000]))) (.ret 0 [zm aY aZ,.op .lset [.op .lset [bc,zm aY aZ,zv 3001 3000],aY,.op .row [bX bc (zm aY aZ) 0,bX bc (zm aY aZ) 1,bX bc (zm aY aZ) 2,bX bc (zm aY aZ) 3,bX bc (zm aY aZ) 4,bX bc (zm aY aZ) 5,bX bc (zm aY aZ) 6]]]))) (.ite (dv (bX bc (zm aY aZ) 2) (zg 3001 3000 2)) (.ite (zs (bX bc (zm aY aZ) 2) (zg 3001 3000 2)) (.ret 1 [aY,bc]) (.need (zs aY (zL (.op .lset [bc,zm aY aZ,zv 3001 3000]))) (.ret 0 [zm aY aZ,.op .lset [.op .lset [bc,zm aY aZ,zv 3001 3000],aY,.op .row [bX bc (zm aY aZ) 0,bX bc (zm aY aZ) 1,bX bc (zm aY aZ) 2,bX bc (zm aY aZ) 3,bX bc (zm aY aZ) 4,bX bc (zm aY aZ) 5,bX bc (zm aY aZ) 6]]]))) (.ite (zs (bX bc (zm aY aZ) 1) (zg 3001 3000 1)) (.ret 1 [aY,bc]) (.ite (fm (bX bc (zm aY aZ) 1) (zg 3001 3000 1)) (.need (zs aY (zL (.op .lset [bc,zm aY aZ,zv 3001 3000]))) (.ret 0 [zm aY aZ,.op .lset [.op .lset [bc,zm aY aZ,zv 3001 3000],aY,.op .row [bX bc (zm aY aZ) 0,bX bc (zm aY aZ) 1,bX bc (zm aY aZ) 2,bX bc (zm aY aZ) 3,bX bc (zm aY aZ) 4,bX bc (zm aY aZ) 5,bX bc (zm aY aZ) 6]]])) (.ret 1 [aY,bc]))))))))) (.ret 1 [aY,bc])
def e90:VT:= .ite (zs aR (zl 0)) (.need (zp aR) (.need (zn (cC aV (zl 2002)) (zb (zL (zc aW (.op .row [zv 0 2001]))) 1000000)) (.loop ⟨481,[aR,zc aW (.op .row [zv 0 2001])],3000,[aN,zl 0,aM,zL (zc aW (.op .row [zv 0 2001])),zc aW (.op .row [zv 0 2001]),aR]⟩ Hc [.need (cC (zL (zc aW (.op .row [zv 0 2001]))) (zL (zo (.app 481 [aR,zc aW (.op .row [zv 0 2001]),aN,zl 0,aM,zL (zc aW (.op .row [zv 0 2001])),zc aW (.op .row [zv 0 2001]),aR]) 1))) (.ret 0 [zL (zo (.app 481 [aR,zc aW (.op .row [zv 0 2001]),aN,zl 0,aM,zL (zc aW (.op .row [zv 0 2001])),zc aW (.op .row [zv 0 2001]),aR]) 1),zi aR,zo (.app 481 [aR,zc aW (.op .row [zv 0 2001]),aN,zl 0,aM,zL (zc aW (.op .row [zv 0 2001])),zc aW (.op .row [zv 0 2001]),aR]) 1])]))) (.ret 1 [aV,aR,aW])
def wq:SX:= .app 480 [zL ck,aN,ck,aN,zl 0,aM]
def DL:SX:= zo wq 2
def cE4:VT:= .loop ⟨480,[zL ck,aN,ck],2000,[aN,zl 0,aM]⟩ e90 [.need (cC (zo wq 0) (zL DL)) (.ret 0 [DL])]
end Go.Ev
namespace Go.Ev.S7
open Go Go.Ev
def mn:SX:= zc aW (.op .row [zv 0 2001])
def Rm:SX:= .app 481 [aR,mn,aN,zl 0,aM,zL mn,mn,aR]
def xf:SX:= zo Rm 1
theorem cE5:e90= .ite (zs aR (zl 0)) (.need (zp aR) (.need (zn (cC aV (zl 2002)) (zb (zL mn) 1000000)) (.loop ⟨481,[aR,mn],3000,[aN,zl 0,aM,zL mn,mn,aR]⟩ Hc [.need (cC (zL mn) (zL xf)) (.ret 0 [zL xf,zi aR,xf])]))) (.ret 1 [aV,aR,aW]):=rfl
theorem cW2(B A:Val):cL false B A=if(Z7 A 0).toS=(Z7 B 0).toS then decide ((Z7 B 2).toI<(Z7 A 2).toI)||decide ((Z7 B 2).toI=(Z7 A 2).toI)&&decide ((Z7 B 1).toI<(Z7 A 1).toI)else !jW (Z7 A 0).toS (Z7 B 0).toS:=by
 have h0:cL false B A=(jW (Z7 B 0).toS (Z7 A 0).toS||decide ((Z7 B 0).toS=(Z7 A 0).toS)&&(decide ((Z7 B 2).toI<(Z7 A 2).toI)||decide ((Z7 B 2).toI=(Z7 A 2).toI)&&decide ((Z7 B 1).toI<(Z7 A 1).toI))):=rfl;rw[h0];generalize (Z7 A 0).toS=ka;generalize (Z7 B 0).toS=kb;by_cases h:ka=kb
 .subst h;rw[e8 rfl,show jW ka ka=false from HM ka,e9 rfl];simp
 .rw[b9 h,j5 (λe=>h e.symm),l6,R4];cases h1:jW ka kb with
  |true=>
   rw[E5,<-B2];intro h2;have:=Qh (show gC ka kb=true from h1) (show gC kb ka=true from h2);rw[HM]at this;cases this
  |false=>
   cases h2:jW kb ka with
   |true=>rfl
   |false=>exact absurd (IM (show gC ka kb=false from h1) (show gC kb ka=false from h2)) h
theorem dp0{I:Opq}{N k:Nat}{M:List Val}(hc:(I.w 2002).toL.length+1=N)(hM:M.length=N)(ho:M.all okK=true)(hk:k+1<N)(hN:N<=1000):
 W7 Hc (I.upd 3000 [.vi (k+1:Nat),.vl M])=some (if cL false (bW M (k+1)) (bW M k)then(0,[.vi k,.vl (iK M (k+1) k)])else(1,[.vi (k+1:Nat),.vl M])):=by
 have e1:=Zv (K:=k+1) (k:=k) rfl (by omega);have p0:(0:Int)<((k+1:Nat):Int):=by omega
 have p1:(0:Int)<=(k:Int):=by omega
 have p2:(k:Int)<N:=by omega
 have p3:(0:Int)<=((k+1:Nat):Int):=by omega
 have p4:((k+1:Nat):Int)<N:=by omega
 have hsw:(M.set k (cK (bW M (k+1)))).set (k+1) (cK (bW M k))=iK M (k+1) k:=by
  rw[JT ho (by omega),JT ho (by omega),Qm (by omega)];rfl
 rw[cW2];unfold Hc;simp only[W7,Z6,bU,dB,cA,cM,Nat.reduceLeDiff,Nat.reduceSub,if_true,if_false,C8,C9,a06,a84,al0,e1,a96,ad1,aq8,bZ2,bZ3,show∀a b,pz .lss a b=jW a b fromλ_ _=>rfl,p0,p1,p2,p3,p4,decide_true,D7,k7,List.length_cons,List.length_nil,l9,hc,hM,C4,oR,oJ,oB,um,tZ,tF,tz,CV,Int.toNat_natCast,hsw];grind
theorem Yq{I:Opq}{N:Nat}(hc:(I.w 2002).toL.length+1=N)(hN:N<=1000): ∀(k:Nat) (M:List Val),k<N->M.length=N->M.all okK=true->
 Iter (λvs=>W7 Hc (I.upd 3000 vs)) [.vi k,.vl M] 0 [.vi (bubA false 0 M k).1,.vl (bubA false 0 M k).2]
 |0,M,hk,hM,ho=>by
  refine .out ?_;rfl
 |k+1,M,hk,hM,ho=>by
  have hs:=dp0 (I:=I) hc hM ho hk hN;unfold bubA;rw[l9];cases h:cL false (bW M (k+1)) (bW M k)with
  |true=>
   rw[h,e8 rfl]at hs;exact .more hs (Yq hc hN k _ (by omega) (by grind[Gx]) (GR ho (by omega) (by omega)))
  |false=>
   rw[h,b9 (by simp)]at hs;exact .out hs
theorem cW3{l:List Val}(h:l.all okK=true):l.map cK=l:=by
 have: ∀x∈l,cK x=id x:=λx hx=>okK_at (k6.1 h x hx)
 rw[y7 this,G4]
theorem dp1(l:List Val){i:Nat}(hi:i<l.length):(bubA false 0 (srt false (l.take i)++[bW l i]) i).2=srt false (l.take (i+1)):=by
 have hl:(np false (l.take i)).length=i:=by
  have:=srt_len false (l.take i);unfold srt at this;rw[V3,k8]at this;omega
 have:=RP false (bW l i) (P:=[]) (a:=0) rfl (np false (l.take i)) [];rw[hl,List.nil_append,List.nil_append,s6]at this;unfold srt;rw[this,show l.take (i+1)=l.take i++[bW l i] by rw[O8,show l[i]?.toList=[bW l i] by simp[bW,j9,hi]],WC]
theorem t_sort5{I:Opq}(hf: ∀i a,I.f i a=F i a)(hn:(I.w 0).toL.length<=400)(h:(F 431 [I.w 0]).toB=true):W7 cE4 I=some (0,[F 490 [I.w 0]]):=by
 obtain⟨e,ho⟩:=f431 h;generalize hL:(I.w 0).toL=l at e ho hn;have e480:bU I wq=cr (0,[.vi l.length,.vi l.length,.vl (srt false l)]):=by
  show I.f 480 [.vi (0:Nat),.vi 0,.vl [],.vi 0,.vi (I.w 0).toL.length,I.w 0]=_;rw[hf];show cr (0,[.vi (I.w 0).toL.length,.vi (I.w 0).toL.length,.vl (srt false ((I.w 0).toL.map cK))])=_;rw[hL,cW3 ho]
 have d0:bU I (zo wq 0)= .vi l.length:=by show bZ (bU I wq).toL 1 0=_;rw[e480];rfl
 have d1:bU I DL= .vl (srt false l):=by show bZ (bU I wq).toL 1 2=_;rw[e480];rfl
 have hF:F 490 [I.w 0]= .vl (srt false l):=by show Val.vl (srt false (I.w 0).toL)=_;rw[hL]
 rw[hF];refine Z3 (r:=(0,[.vi l.length,.vi l.length,.vl (srt false l)])) ?_ e480 (W8 ?_ ?_)
 .refine wS (λi=>[.vi i,.vi i,.vl (srt false (l.take i))]) (n:=l.length) rfl (λi hi=> ?_) ?_
  .have tl:(srt false (l.take i)).length=i:=by grind[srt_len,List.length_take]
   have ta:(srt false (l.take i)).all okK=true:=zX (k6.2 λv hv=>k6.1 ho v (N4 hv)) (srt_perm false _);have hb:=dp1 l hi;have hbl:(srt false (l.take (i+1))).length=i+1:=by grind[srt_len,List.length_take]
   generalize srt false (l.take i)=M0 at tl ta hb⊢;obtain⟨aa,ae⟩: ∃aa,aa=I.upd 2000 [.vi i,.vi i,.vl M0]:=⟨_,rfl⟩;have v0:aa.w 2000= .vi i:=by rw[ae];rfl
   have v1:aa.w 2001= .vi i:=by rw[ae];rfl
   have v2:aa.w 2002= .vl M0:=by rw[ae];rfl
   have u0:aa.w 0= .vl l:=by rw[ae];exact e
   have hf': ∀i a,aa.f i a=F i a:=by rw[ae];exact hf
   have xa:okK (bW l i)=true:=k6.1 ho _ (Fm hi);have dc:bU aa mn= .vl (M0++[bW l i]):=by
    show Val.vl ((aa.w 2002).toL++[cK (bW (aa.w 0).toL (aa.w 2001).toI.toNat)])=_;rw[v2,u0,v1];show Val.vl (M0++[cK (bW l i)])=_;rw[okK_at xa]
   have ml:(M0++[bW l i]).length=i+1:=by grind
   have ma:(M0++[bW l i]).all okK=true:=by grind
   have de:bU aa Rm=cr (0,[.vi (bubA false 0 (M0++[bW l i]) i).1,.vl (srt false (l.take (i+1)))]):=by
    show aa.f 481 [aa.w 2001,bU aa mn,.vi 0,.vi (aa.w 0).toL.length,aa.w 0,.vi (bU aa mn).toL.length,bU aa mn,aa.w 2001]=_;rw[hf',dc,v1];show cr (0,[.vi (bubA false 0 (M0++[bW l i]) i).1,.vl (bubA false 0 (M0++[bW l i]) i).2])=_;rw[hb]
   have df:bU aa xf= .vl (srt false (l.take (i+1))):=by show bZ (bU aa Rm).toL 1 1=_;rw[de];rfl
   rw[<-ae,cE5];refine cy (by show decide ((aa.w 2001).toI<((aa.w 0).toL.length:Int))=true;simp_all) (W8 (by show decide ((0:Int)<=(aa.w 2001).toI)=true;simp_all) (W8 ?_ (Z3 (r:=(0,[.vi (bubA false 0 (M0++[bW l i]) i).1,.vl (srt false (l.take (i+1)))])) ?_ de (W8 ?_ ?_))))
   .show(decide ((aa.w 2000).toI=((aa.w 2002).toL.length:Int))&&decide (((bU aa mn).toL.length:Int)<=1000000))=true;rw[v0,v2,dc];exact and2 (e9 (by simp_all)) (e9 (by show((M0++[bW l i]).length:Int)<=1000000;omega))
   .show cI _ [aa.w 2001,bU aa mn]=_;rw[v1,dc,nh,<-hb];exact Yq (N:=i+1) (by simp_all) (by omega) i _ (by omega) ml ma
   .show decide (((bU aa mn).toL.length:Int)=((bU aa xf).toL.length:Int))=true;simp_all
   .show some (0,[Val.vi ((bU aa xf).toL.length:Int),Val.vi (cg .add .i64 (aa.w 2001).toI 1),bU aa xf])=_;rw[df,v1,a06,vG (by omega)];simp_all
  .rw[cE5,A1];refine cu ?_ rfl;show decide ((l.length:Int)<((I.w 0).toL.length:Int))=false;grind
 .show decide ((bU I (zo wq 0)).toI=((bU I DL).toL.length:Int))=true;rw[d0,d1];exact e9 (by show(l.length:Int)=((srt false l).length:Int);rw[srt_len])
 .show some (0,[bU I DL])=_;rw[d1]
end Go.Ev.S7
