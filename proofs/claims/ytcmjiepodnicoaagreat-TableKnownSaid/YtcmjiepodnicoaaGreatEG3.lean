import Derived.Test.YtcmjiepodnicoaaGreatEG1
import Derived.Test.YtcmjiepodnicoaaGreatEM1
import Derived.Test.YtcmjiepodnicoaaGreatEQ0
set_option linter.unusedSimpArgs false
set_option linter.unusedVariables false
namespace Go.Ev
open Go
@[simp]theorem a09(n:Int):(Val.vi n).toI=n:=rfl
@[simp]theorem dz0(n:List UInt8):(Val.vs n).toS=n:=rfl
@[simp]theorem ak3(n:Bool):(Val.vb n).toB=n:=rfl
@[simp]theorem a65(n:List Val):(Val.vl n).toL=n:=rfl
structure ChgM where
 key:List UInt8
 a:Int
 b:Int
 dead:Bool
 c:Int
 d:Int
 e:Int
 f:Int
 deriving DecidableEq
def Tp(a:List Val)(i:Nat):PaneM:=⟨(ce a i).toS,(ce a (i+1)).toI,(ce a (i+2)).toI⟩
noncomputable def F0(id:Nat)(a:List Val):Val:=match id with
 |3=> .vb (wZ (vp (ce a 0)) (vp (ce a 1)))
 |206=> .vi (Gv (Tp a 0) (Tp a 3))
 |107=>EI fJ (ce a 4).toL (ce a 7).toL
 |491=> .vb (decide (((ce a 0).toL.map Z6).Nodup))
 |480=>cA (0,[.vi (ce a 5).toL.length,.vi (ce a 5).toL.length,.vl (S7.srt false ((ce a 5).toL.map cQ))])
 |481=>cA (0,[.vi (S7.bubA false 0 (ce a 1).toL (ce a 0).toI.toNat).1,.vl (S7.bubA false 0 (ce a 1).toL (ce a 0).toI.toNat).2])
 |i=>S7.GX i a
noncomputable def F:Nat->List Val->Val:=S9.FT (S9.FQ F0)
theorem xB(x:Val)(l:List Val):ce (x::l) 0=x:=rfl
theorem yH(x:Val)(l:List Val)(n:Nat):ce (x::l) (n+1)=ce l n:=rfl
theorem eV(I:Opq)(v0:Nat)(l:List Val):(I.upd v0 l).f=I.f:=rfl
theorem cN(I:Opq)(v0:Nat)(l:List Val)(n:Nat):(I.upd v0 l).w n=if v0<=n then l.getD (n-v0) (.vb false)else I.w n:=rfl
@[simp]theorem bZ8{i:Nat}(h:i<=10000000):cn .add .i64 (i:Int) 1=((i+1:Nat):Int):=c67 h
@[simp]theorem a99(a b:Int):jt .lss a b=decide (a<b):=rfl
@[simp]theorem ad7(a b:Int):jt .leq a b=decide (a<=b):=rfl
@[simp]theorem ar0(a b:Int):jt .gtr a b=decide (b<a):=rfl
@[simp]theorem cM1(a b:Int):jt .geq a b=decide (b<=a):=rfl
@[simp]theorem cM2(a b:Int):jt .eql a b=decide (a=b):=rfl
@[simp]theorem bW0(a b:Int):jt .neq a b= !decide (a=b):=rfl
@[simp]theorem cM3(a b:List UInt8):qE .eql a b=decide (a=b):=rfl
@[simp]theorem bW1(a b:List UInt8):qE .neq a b= !decide (a=b):=rfl
theorem cy3{α:Type} [DecidableEq α](m:Val->α)(l r:List Val)(h:l.length=r.length):((List.range l.length).any λi=> !decide (m (cg l i)=m (cg r i)))= !decide (l.map m=r.map m):=bT1 m (.vl []) l r h
theorem Uh{α:Type} [DecidableEq α](m:Val->α)(l r:List Val)(h:l.length=r.length)(px:Nat->List Val)(x:Val):gZ x px (λi=> !decide (m (cg l i)=m (cg r i))) l.length=if l.map m=r.map m then(0,[x,.vi l.length])else(1,px (((List.range l.length).find? (λi=> !decide (m (cg l i)=m (cg r i)))).getD 0)):=by
 grind[GP,cy3]
theorem JM{α:Type} [DecidableEq α](m:Val->α)(l r:List Val)(h:l.length=r.length):EI m l r=cA (if l.map m=r.map m then(0,[.vb false,.vi l.length])else(1,[.vb false,.vi (((List.range l.length).find? (λi=> !decide (m (cg l i)=m (cg r i)))).getD 0)])):=by
 grind[EI,Uh]
theorem cZ4{α:Type}(m:Val->α){l r:List Val}(h:l.length≠r.length): ¬l.map m=r.map m:=λe=>h (by simpa using congrArg List.length e)
theorem CG(a b:Val):fJ a=fJ b↔((Z7 a 0).toS=(Z7 b 0).toS/\(Z7 a 1).toI=(Z7 b 1).toI/\(Z7 a 2).toI=(Z7 b 2).toI)/\(Z7 a 3).toI=(Z7 b 3).toI/\(Z7 a 4).toI=(Z7 b 4).toI/\(Z7 a 5).toI=(Z7 b 5).toI/\(Z7 a 6).toI=(Z7 b 6).toI:=by
 grind[fJ,RowM.mk.injEq]
theorem pw(l:List Val)(i:Nat):co l (i:Int) 0=Z7 (cg l i) 0:=rfl
theorem pD(l:List Val)(i:Nat):co l (i:Int) 1=Z7 (cg l i) 1:=rfl
theorem pJ(l:List Val)(i:Nat):co l (i:Int) 2=Z7 (cg l i) 2:=rfl
theorem uU(l:List Val)(i:Nat):co l (i:Int) 3=Z7 (cg l i) 3:=rfl
theorem um(l:List Val)(i:Nat):co l (i:Int) 4=Z7 (cg l i) 4:=rfl
theorem uP(l:List Val)(i:Nat):co l (i:Int) 5=Z7 (cg l i) 5:=rfl
theorem uw(l:List Val)(i:Nat):co l (i:Int) 6=Z7 (cg l i) 6:=rfl
end Go.Ev
namespace Go.Ev.S7
open Go Go.Ev
variable{I:Opq}{r:Option (Nat×List Val)}
theorem lu{x:Int}(h: -9223372036854775808<=x)(h2:x<9223372036854775808):IntKind.i64.wrap x=x:=by
 grind[IntKind.wrap,IntKind.bits,IntKind.signed]
theorem gj{x y:Int}(h: -9223372036854775808<=x+y)(h2:x+y<9223372036854775808):cn .add .i64 x y=x+y:=lu h h2
theorem kN{x y:Int}(h: -9223372036854775808<=x-y)(h2:x-y<9223372036854775808):cn .sub .i64 x y=x-y:=lu h h2
theorem W8{e:SX}{x:VT}(h:dB I e=true)(h2:Z0 x I=r):Z0 (.need e x) I=r:=by rw[Z0.eq_3,e8 h,h2]
theorem cG{e:SX}{x y:VT}(h:dB I e=true)(h2:Z0 x I=r):Z0 (.ite e x y) I=r:=by rw[Z0.eq_2,e8 h,h2]
theorem cE{e:SX}{x y:VT}(h:dB I e=false)(h2:Z0 y I=r):Z0 (.ite e x y) I=r:=by simp_all[Z0.eq_2,b9]
theorem and2{a b:Bool}(h:a=true)(h2:b=true):(a&&b)=true:=by grind
theorem YN{K k:Nat}(h:K=k+1)(h2:K<=10000000):cn .sub .i64 (K:Int) 1=(k:Int):=by
 grind[kN]
theorem Z5{hd:LHd}{body:VT}{ks:List VT}{r:Nat×List Val}{out:Option (Nat×List Val)}(h1:cO (λvs=>Z0 body (I.upd hd.v0 vs)) (ck I hd.s0)=some r)(h2:I.f hd.id (ck I (hd.s0++hd.fv))=cA r)(h3:sh ks r.1 I=out):Z0 (.loop hd body ks) I=out:=by
 simp_all[Z0.eq_5,e8]
theorem HX(r:Val):Val.vl [Z7 r 0,Z7 r 1,Z7 r 2,Z7 r 3,Z7 r 4,Z7 r 5,Z7 r 6]=cQ r:=rfl
theorem zO{step:List Val->Option (Nat×List Val)}{n j:Nat}(st:Nat->List Val){s0 p:List Val}(h0:s0=st 0)(h1: ∀i,i<n->step (st i)=some (0,st (i+1)))(h2:step (st n)=some (j+1,p)):cO step s0=some (j,p):=by
 rw[h0];exact eE h1 h2
end Go.Ev.S7
namespace Go.Ev.S7
open Go Go.Ev
variable{l M:List Val}{x:Nat}
theorem se{y:Nat}(h:x+y<=1000000):cn .add .i64 (x:Int) (y:Int)=((x+y:Nat):Int):=by
 grind[gj]
theorem me{y:Nat}(h:y<=x)(h2:x<=1000000):cn .sub .i64 (x:Int) (y:Int)=((x-y:Nat):Int):=by
 grind[kN]
theorem DZ(h:1<=x)(h2:x<=1000000):cn .sub .i64 (x:Int) 1=((x-1:Nat):Int):=by
 grind[kN]
theorem wR(h2:x<=1000000):cn .add .i64 (x:Int) 1=((x+1:Nat):Int):=by
 grind[gj]
theorem rq{v:Val}(h:0<=v.toI):v.toI=(nt v:Int):=by grind[nt]
theorem dX8(n:Nat):nt (.vi n)=n:=rfl
theorem Mc(h:l.all okK=true){k:Nat}(hk:k<l.length):cQ (cg l k)=cg l k:=okK_at (k8.1 h _ (Ia hk))
theorem xi{q:List Val}{f:Val->Bool}(h:l.all f=true)(hp:q.Perm l):q.all f=true:=k8.2 λv hv=>k8.1 h v (hp.mem_iff.1 hv)
theorem Ey{i j:Nat}(h:l.all okK=true)(hi:i<l.length)(hj:j<l.length):(jq l i j).all okK=true:=by
 rw[k8]at h⊢;intro v hv;unfold jq at hv;grind[List.mem_or_eq_of_mem_set,Ia]
theorem NJ(h:l.all okK=true){i j:Nat}(hi:i<l.length)(hj:j<l.length):(l.set i (cQ (cg l j))).set j (cQ (cg l i))=jq l i j:=by
 rw[Mc h hi,Mc h hj];rfl
theorem Cm{l:List Val}{a b:Nat}(h:l.all okK=true): ∀n,a+n<=l.length->b+n<=l.length->(kK l a b n).all okK=true
 |0,_,_=>h
 |n+1,h1,h2=>Ey (Cm h n (by omega) (by omega)) (by rw[wo];omega) (by rw[wo];omega)
theorem di5{I:Opq}{a b n N i:Nat}(h7:(I.w 2).toI=a)(h8:(I.w 3).toI=b)(h9:(I.w 4).toI=n)(h6:(I.w 1).toI=N)(hi:i<n)(h1:a+n<=b)(h2:b+n<=N)(hN:N<=400)(hM:M.length=N)(ho:M.all okK=true):
 Z0 Kz (I.upd 2000 [.vi i,.vl M])=some (0,[.vi (i+1:Nat),.vl (jq M (a+i) (b+i))]):=by
 have e1:=se (x:=a) (y:=i) (by omega);have e2:=se (x:=b) (y:=i) (by omega);have e3:=wR (x:=i) (by omega);have p1:(i:Int)<n:=by omega
 have p2:(0:Int)<=((b+i:Nat):Int):=by omega
 have p3:((b+i:Nat):Int)<N:=by omega
 have p4:(0:Int)<=((a+i:Nat):Int):=by omega
 have p5:((a+i:Nat):Int)<N:=by omega
 rw[<-NJ ho (by omega) (by omega)];unfold Kz;simp only[Z0,ck,bZ,dB,cK,cN,Nat.reduceLeDiff,Nat.reduceSub,if_true,if_false,C6,C7,a09,a65,ak3,h7,h8,h9,h6,e1,e2,e3,a99,ad7,p1,p2,p3,p4,p5,decide_true,E5,hM,D8,pw,pD,pJ,uU,um,uP,uw,HX,Int.toNat_natCast]
theorem t_swapR{I:Opq}(hf: ∀i a,I.f i a=F i a)(hn:(F 420 [I.w 0,I.w 1,I.w 2,I.w 3,I.w 4]).toB=true):Z0 cq5 I=some (0,[F 421 [I.w 0,I.w 2,I.w 3,I.w 4]]):=by
 obtain⟨ho,hd⟩:=Z1 (show(np (I.w 0) (I.w 1)&&decide (0<=(I.w 2).toI/\0<=(I.w 4).toI/\(I.w 2).toI+(I.w 4).toI<=(I.w 3).toI/\(I.w 3).toI+(I.w 4).toI<=(I.w 1).toI))=true from hn);obtain⟨e5,oa,h6,hl⟩:=FJ ho;obtain⟨q1,q2,q3,q4⟩:=j5 hd;have h7:=rq q1;have h9:=rq q2;have h8:=rq (show 0<=(I.w 3).toI by omega);have hF2: ∀a c d:Val,F 452 [a,I.w 0,c,d,I.w 2,I.w 3,I.w 4]=cA (0,[.vi (nt (I.w 4)),.vl (kK (I.w 0).toL (nt (I.w 2)) (nt (I.w 3)) (nt (I.w 4)))]):=λ_ _ _=>rfl
 refine Z5 (r:=(0,[.vi (nt (I.w 4)),.vl (kK (I.w 0).toL (nt (I.w 2)) (nt (I.w 3)) (nt (I.w 4)))])) ?_ ?_ ?_
 .refine zO (λi=>[.vi i,.vl (kK (I.w 0).toL (nt (I.w 2)) (nt (I.w 3)) i)]) (n:=nt (I.w 4)) (by rw[show ck I [aM,aN]=[.vi 0,I.w 0]from rfl,e5];rfl) (λi hi=> ?_) ?_
  .exact di5 h7 h8 h9 h6 hi (by omega) (by omega) hl (wo ..) (Cm oa i (by omega) (by omega))
  .unfold Kz;have p1: ¬((nt (I.w 4):Nat):Int)<(I.w 4).toI:=by omega
   simp[Z0,ck,bZ,dB,cK,cN,Nat.reduceLeDiff,Nat.reduceSub,if_true,if_false,C6,C7,a09,a65,ak3,a99,p1,decide_false,s6]
 .show I.f 452 [.vi 0,I.w 0,I.w 1,I.w 0,I.w 2,I.w 3,I.w 4]=_;grind
 .show some (0,[co (I.f 452 [.vi 0,I.w 0,I.w 1,I.w 0,I.w 2,I.w 3,I.w 4]).toL 1 1])=_;rw[hf,hF2];rfl
theorem Pq(m N:Nat): ∀(n i j:Nat) (M:List Val),0<i->0<j->i<=m->m+j<=N->M.length=N->M.all okK=true->(kC m n i j M).2.all okK=true/\(kC m n i j M).2.length=N
 |0,i,j,M,_,_,_,_,hM,ho=>⟨ho,hM⟩
 |n+1,i,j,M,hi,hj,him,hjN,hM,ho=>by
  unfold kC;by_cases h1:i=j
  .grind
  .rw[b9 h1];by_cases h2:j<i
   .rw[e8 h2];exact Pq m N n (i-j) j _ (by omega) hj (by omega) hjN (by grind[wo]) (Cm ho j (by omega) (by omega))
   .rw[b9 h2];exact Pq m N n i (j-i) _ hi (by omega) him (by omega) (by grind[wo]) (Cm ho i (by omega) (by omega))
theorem Ii{n:Val}{N:Nat}(ho:l.all okK=true)(hl:l.length=N)(hn:n.toI=(N:Int))(hN:N<=400):np (.vl l) n=true:=
 and2 rfl (and2 ho (and2 (c9 (by simp_all)) (c9 (by simp_all))))
theorem Gw{v:Val}{n:Nat}(h:v.toI=(n:Int)):nt v=n:=by grind[nt]
theorem Ts{n va vb vk:Val}{N a b k:Nat}(ho:M.all okK=true)(hM:M.length=N)(hn:n.toI=(N:Int))(hN:N<=400)(ha:va.toI=(a:Int))(hb:vb.toI=(b:Int))(hk:vk.toI=(k:Int))(h1:a+k<=b)(h2:b+k<=N):(F 420 [.vl M,n,va,vb,vk]).toB=true:=by
 show(np (.vl M) n&&decide (0<=va.toI/\0<=vk.toI/\va.toI+vk.toI<=vb.toI/\vb.toI+vk.toI<=n.toI))=true;grind[and2,Ii,decide_eq_true]
theorem Pb{va vb vk:Val}{a b k:Nat}(ha:va.toI=(a:Int))(hb:vb.toI=(b:Int))(hk:vk.toI=(k:Int)):F 421 [.vl M,va,vb,vk]= .vl (kK M a b k):=by
 show Val.vl (kK M (nt va) (nt vb) (nt vk))=_;grind[Gw]
def tS:SX:= zm aU aV
def Hm:SX:= zm (za aU aR) aV
theorem Oi:RR= .ite (cZ aV aR) (.ite (fV aV aR) (.need (.app 420 [aW,aO,tS,aU,aR]) (.ret 0 [zm aV aR,aR,.app 421 [aW,tS,aU,aR]])) (.need (.app 420 [aW,aO,tS,Hm,aV]) (.ret 0 [aV,zm aR aV,.app 421 [aW,tS,Hm,aV]]))) (.ret 1 [aV,aR,aW]):=rfl
theorem Td{I:Opq}(hf: ∀i a,I.f i a=F i a){m N:Nat}(h8:(I.w 3).toI=m)(h6:(I.w 1).toI=N)(hN:N<=400): ∀(n i j:Nat) (M:List Val),i+j<=n+1->0<i->0<j->i<=m->m+j<=N->M.length=N->M.all okK=true->
 Iter (λvs=>Z0 RR (I.upd 2000 vs)) [.vi i,.vi j,.vl M] 0 [.vi (kC m n i j M).1,.vi (kC m n i j M).1,.vl (kC m n i j M).2]
 |0,i,j,M,hn,hi,hj,him,hjN,hM,ho=>by omega
 |n+1,i,j,M,hn,hi,hj,him,hjN,hM,ho=>by
  obtain⟨aa,ae⟩: ∃aa,aa=I.upd 2000 [.vi i,.vi j,.vl M]:=⟨_,rfl⟩;have v0:aa.w 2000= .vi i:=by rw[ae];rfl
  have v1:aa.w 2001= .vi j:=by rw[ae];rfl
  have v2:aa.w 2002= .vl M:=by rw[ae];rfl
  have u8:(aa.w 3).toI=m:=by rw[ae];exact h8
  have u6:(aa.w 1).toI=N:=by rw[ae];exact h6
  have hf': ∀i a,aa.f i a=F i a:=by rw[ae];exact hf
  have a1:bZ aa tS= .vi (m-i:Nat):=by
   show Val.vi (cn .sub .i64 (aa.w 3).toI (aa.w 2000).toI)=_;grind[a09,me]
  have a2:bZ aa Hm= .vi (m+j-i:Nat):=by
   show Val.vi (cn .sub .i64 (cn .add .i64 (aa.w 3).toI (aa.w 2001).toI) (aa.w 2000).toI)=_;rw[u8,v0,v1,a09,a09,se (by omega),me (by omega) (by omega)]
  unfold kC;by_cases h1:i=j
  .refine .out ?_;rw[<-ae,Oi];refine cE (by show(!decide ((aa.w 2000).toI=(aa.w 2001).toI))=false;rw[v0,v1,a09,a09,h1,c9 rfl];rfl) ?_;show some (1,[aa.w 2000,aa.w 2001,aa.w 2002])=_;grind
  .rw[b9 h1];have c1:dB aa (cZ aV aR)=true:=by
    show(!decide ((aa.w 2000).toI=(aa.w 2001).toI))=true;grind[a09,decide_eq_false]
   by_cases h2:j<i
   .rw[e8 h2];refine .more (vs':=[.vi (i-j:Nat),.vi j,.vl (kK M (m-i) m j)]) ?_ (Td hf h8 h6 hN n (i-j) j _ (by omega) (by omega) hj (by omega) hjN (by grind[wo]) (Cm ho j (by omega) (by omega)));rw[<-ae,Oi];refine cG c1 (cG (by show decide ((aa.w 2001).toI<(aa.w 2000).toI)=true;simp_all) (W8 ?_ ?_))
    .show(aa.f 420 [aa.w 2002,aa.w 1,bZ aa tS,aa.w 3,aa.w 2001]).toB=true;rw[hf',v2,a1,v1];exact Ts ho hM u6 hN rfl u8 rfl (by omega) (by omega)
    .show some (0,[Val.vi (cn .sub .i64 (aa.w 2000).toI (aa.w 2001).toI),aa.w 2001,aa.f 421 [aa.w 2002,bZ aa tS,aa.w 3,aa.w 2001]])=_;grind[a09,me,Pb]
   .rw[b9 h2];refine .more (vs':=[.vi i,.vi (j-i:Nat),.vl (kK M (m-i) (m+j-i) i)]) ?_ (Td hf h8 h6 hN n i (j-i) _ (by omega) hi (by omega) him (by omega) (by grind[wo]) (Cm ho i (by omega) (by omega)));rw[<-ae,Oi];refine cG c1 (cE (by show decide ((aa.w 2001).toI<(aa.w 2000).toI)=false;simp_all) (W8 ?_ ?_))
    .show(aa.f 420 [aa.w 2002,aa.w 1,bZ aa tS,bZ aa Hm,aa.w 2000]).toB=true;rw[hf',v2,a1,a2,v0];exact Ts ho hM u6 hN rfl rfl rfl (by omega) (by omega)
    .show some (0,[aa.w 2000,Val.vi (cn .sub .i64 (aa.w 2001).toI (aa.w 2000).toI),aa.f 421 [aa.w 2002,bZ aa tS,bZ aa Hm,aa.w 2000]])=_;grind[a09,me,Pb]
theorem t_rotC{I:Opq}(hf: ∀i a,I.f i a=F i a)(hn:(F 422 [I.w 0,I.w 1,I.w 2,I.w 3,I.w 4]).toB=true):Z0 cV2 I=some (0,[F 423 [I.w 0,I.w 2,I.w 3,I.w 4]]):=by
 obtain⟨ho,hd⟩:=Z1 (show(np (I.w 0) (I.w 1)&&decide (0<=(I.w 2).toI/\(I.w 2).toI<(I.w 3).toI/\(I.w 3).toI<(I.w 4).toI/\(I.w 4).toI<=(I.w 1).toI))=true from hn);obtain⟨e5,oa,h6,hl⟩:=FJ ho;obtain⟨q1,q2,q3,q4⟩:=j5 hd;have h7:=rq q1;have h8:=rq (show 0<=(I.w 3).toI by omega);have h9:=rq (show 0<=(I.w 4).toI by omega);have hF:F 423 [I.w 0,I.w 2,I.w 3,I.w 4]= .vl (yu (I.w 0).toL (nt (I.w 2)) (nt (I.w 3)) (nt (I.w 4))):=rfl;rw[hF];generalize nt (I.w 2)=a at h7⊢;generalize hm:nt (I.w 3)=m at h8⊢;generalize nt (I.w 4)=b at h9⊢;generalize hL:(I.w 0).toL=l at e5 oa h6 hl⊢;have r0:bZ I HK= .vi (m-a:Nat):=by
  show Val.vi (cn .sub .i64 (I.w 3).toI (I.w 2).toI)=_;grind[me]
 have r1:bZ I GF= .vi (b-m:Nat):=by
  show Val.vi (cn .sub .i64 (I.w 4).toI (I.w 3).toI)=_;grind[me]
 have hF2: ∀x y:Val,F 458 [.vi (m-a:Nat),.vi (b-m:Nat),.vl l,x,y,I.w 3]=cA (0,[.vi (kC (nt (I.w 3)) (m-a+(b-m)) (m-a) (b-m) l).1,.vi (kC (nt (I.w 3)) (m-a+(b-m)) (m-a) (b-m) l).1,.vl (kC (nt (I.w 3)) (m-a+(b-m)) (m-a) (b-m) l).2]):=λ_ _=>rfl
 rw[hm]at hF2;have sp:=Qd m (m-a+(b-m)) (m-a) (b-m) (l.take a) (cH l a m) (cH l m b) (l.drop b) (by omega) (by omega) (by omega) (md (by omega)) (md (by omega)) (by grind);rw[<-ea6 (l:=l) (by omega) (by omega)]at sp;have al:=Pq m l.length (m-a+(b-m)) (m-a) (b-m) l (by omega) (by omega) (by omega) (by omega) rfl oa;have it:=Td hf h8 h6 hl (m-a+(b-m)) (m-a) (b-m) l (by omega) (by omega) (by omega) (by omega) (by omega) rfl oa;generalize kC m (m-a+(b-m)) (m-a) (b-m) l=R at sp al it hF2;obtain⟨r,M⟩:=R;obtain⟨s1,s2,s3,s4,s5⟩:=sp;obtain⟨al1,al2⟩:=al;have d2:bZ I HT=cA (0,[.vi r,.vi r,.vl M]):=by
  show I.f 458 [bZ I HK,bZ I GF,I.w 0,I.w 1,I.w 0,I.w 3]=_;grind
 have d3:bZ I Fc= .vl M:=by show co (bZ I HT).toL 1 2=_;rw[d2];rfl
 have d4:bZ I AN= .vi r:=by show co (bZ I HT).toL 1 0=_;rw[d2];rfl
 have d5:bZ I Ge= .vi (m-r:Nat):=by
  show Val.vi (cn .sub .i64 (I.w 3).toI (bZ I AN).toI)=_;grind[a09,me]
 refine Z5 (r:=(0,[.vi r,.vi r,.vl M])) ?_ d2 (W8 ?_ ?_)
 .show cO _ [bZ I HK,bZ I GF,I.w 0]=_;grind[nJ]
 .show(I.f 420 [bZ I Fc,I.w 1,bZ I Ge,I.w 3,bZ I AN]).toB=true;rw[hf,d3,d4,d5];exact Ts al1 al2 h6 hl rfl h8 rfl (by omega) (by omega)
 .show some (0,[I.f 421 [bZ I Fc,bZ I Ge,I.w 3,bZ I AN]])=_;rw[hf,d3,d4,d5,Pb rfl h8 rfl,s5];rfl
end Go.Ev.S7
namespace Go.Ev.S7
open Go Go.Ev
theorem JG(l:List Val)(i j:Nat):decide ((F 206 [Z7 (cg l i) 0,Z7 (cg l i) 1,Z7 (cg l i) 2,Z7 (cg l j) 0,Z7 (cg l j) 1,Z7 (cg l j) 2]).toI<0)=cS false (cg l i) (cg l j):=by
 rw[C0,decide_eq_true_iff];exact cL6 _ _
theorem di7{I:Opq}(hf: ∀i a,I.f i a=F i a){a N k:Nat}(h7:(I.w 2).toI=a)(h6:(I.w 1).toI=N)(hN:N<=400){l:List Val}(hl:l.length=N)(ho:l.all okK=true)(hk:a+k+1<N):
 Z0 AF (I.upd 3000 [.vi (a+k+1:Nat),.vl l])=some (if cS false (cg l (a+k+1)) (cg l (a+k))then(0,[.vi (a+k:Nat),.vl (jq l (a+k+1) (a+k))])else(1,[.vi (a+k+1:Nat),.vl l])):=by
 have e1:=YN (K:=a+k+1) (k:=a+k) rfl (by omega);have p0:(a:Int)<((a+k+1:Nat):Int):=by omega
 have p1:(0:Int)<=((a+k+1:Nat):Int):=by omega
 have p2:((a+k+1:Nat):Int)<N:=by omega
 have p3:(0:Int)<=((a+k:Nat):Int):=by omega
 have p4:((a+k:Nat):Int)<N:=by omega
 have hc:=JG l (a+k+1) (a+k);rw[<-NJ ho (by omega) (by omega)];unfold AF;simp only[Z0,ck,bZ,dB,cK,cN,Nat.reduceLeDiff,Nat.reduceSub,if_true,if_false,C6,C7,a09,a65,ak3,h7,h6,e1,a99,ad7,ar0,p0,p1,p2,p3,p4,decide_true,E5,hl,D8,pw,pD,pJ,uU,um,uP,uw,HX,Int.toNat_natCast,eV,hf,hc];grind
theorem Yj{I:Opq}(hf: ∀i a,I.f i a=F i a){a N:Nat}(h7:(I.w 2).toI=a)(h6:(I.w 1).toI=N)(hN:N<=400): ∀(k:Nat) (l:List Val),a+k<N->l.length=N->l.all okK=true->
 Iter (λvs=>Z0 AF (I.upd 3000 vs)) [.vi (a+k:Nat),.vl l] 0 [.vi (bubA false a l k).1,.vl (bubA false a l k).2]
 |0,l,hk,hl,ho=>by
  refine .out ?_;have p0: ¬(a:Int)<((a:Nat):Int):=by omega
  show Z0 AF (I.upd 3000 [.vi (a:Nat),.vl l])=_;unfold AF;simp only[Z0,ck,bZ,dB,cK,cN,Nat.reduceLeDiff,Nat.reduceSub,if_true,if_false,C6,C7,a09,a65,ak3,h7,ar0,p0,decide_false,s6,bubA]
 |k+1,l,hk,hl,ho=>by
  have hs:=di7 hf h7 h6 hN (k:=k) hl ho (by omega);unfold bubA;cases hc:cS false (cg l (a+k+1)) (cg l (a+k))with
  |true=>
   rw[hc,e8 rfl]at hs;rw[e8 rfl];exact .more hs (Yj hf h7 h6 hN k _ (by omega) (by rw[Gm,hl]) (Ey ho (by omega) (by omega)))
  |false=>
   rw[hc,b9 (by simp)]at hs;rw[b9 (by simp)];exact .out hs
theorem di8:IJ= .ite (zs aV aU) (.loop ⟨461,[aV,aR],3000,[aO,aR,aT,aU,aV]⟩ AF [.ret 0 [zi aV,zo (.app 461 [aV,aR,aO,aR,aT,aU,aV]) 1]]) (.ret 1 [aV,aR]):=rfl
theorem di9{I:Opq}(hf: ∀i a,I.f i a=F i a){a N b i:Nat}(h7:(I.w 2).toI=a)(h8:(I.w 3).toI=b)(h6:(I.w 1).toI=N)(hN:N<=400){l:List Val}(hl:l.length=N)(ho:l.all okK=true)(hai:a<=i)(hib:i<b)(hb:b<=N):
 Z0 IJ (I.upd 2000 [.vi i,.vl (dD false l a i)])=some (0,[.vi (i+1:Nat),.vl (dD false l a (i+1))]):=by
 have hst:=cL9 (sec:=false) (l:=l) hai (by omega);have hpl:=bU9 false (l:=l) hai;have hpo:=xi ho (Hx false (l:=l) hai);generalize dD false l a i=M at hst hpl hpo⊢;obtain⟨aa,ae⟩: ∃aa,aa=I.upd 2000 [.vi i,.vl M]:=⟨_,rfl⟩;have v0:aa.w 2000= .vi i:=by rw[ae];rfl
 have v1:aa.w 2001= .vl M:=by rw[ae];rfl
 have u6:(aa.w 1).toI=N:=by rw[ae];exact h6
 have u7:(aa.w 2).toI=a:=by rw[ae];exact h7
 have u8:(aa.w 3).toI=b:=by rw[ae];exact h8
 have hf': ∀i a,aa.f i a=F i a:=by rw[ae];exact hf
 have lp:=Yj hf' u7 u6 hN (i-a) M (by omega) (by omega) hpo;have hF: ∀x y z:Val,F 461 [.vi i,.vl M,x,y,aa.w 2,z,.vi i]=cA (0,[.vi (bubA false (nt (aa.w 2)) M (i-nt (aa.w 2))).1,.vl (bubA false (nt (aa.w 2)) M (i-nt (aa.w 2))).2]):=λ_ _ _=>rfl
 rw[Gw u7]at hF;have e1:aa.f 461 [aa.w 2000,aa.w 2001,aa.w 1,aa.w 2001,aa.w 2,aa.w 3,aa.w 2000]=cA (0,[.vi (bubA false a M (i-a)).1,.vl (bubA false a M (i-a)).2]):=by
  grind
 rw[<-ae,di8];refine cG (by show decide ((aa.w 2000).toI<(aa.w 3).toI)=true;simp_all) (Z5 (r:=(0,[.vi (bubA false a M (i-a)).1,.vl (bubA false a M (i-a)).2])) ?_ e1 ?_)
 .show cO _ [aa.w 2000,aa.w 2001]=_;grind[nJ]
 .show some (0,[Val.vi (cn .add .i64 (aa.w 2000).toI 1),co (aa.f 461 [aa.w 2000,aa.w 2001,aa.w 1,aa.w 2001,aa.w 2,aa.w 3,aa.w 2000]).toL 1 1])=_;rw[e1,v0,a09,wR (by omega),<-hst];rfl
theorem t_insC{I:Opq}(hf: ∀i a,I.f i a=F i a)(hn:(F 424 [I.w 0,I.w 1,I.w 2,I.w 3]).toB=true):Z0 Xv I=some (0,[F 425 [I.w 0,I.w 2,I.w 3]]):=by
 obtain⟨ho,hd⟩:=Z1 (show(np (I.w 0) (I.w 1)&&decide (0<=(I.w 2).toI/\(I.w 2).toI<=(I.w 3).toI/\(I.w 3).toI<=(I.w 1).toI))=true from hn);obtain⟨e5,oa,h6,hl⟩:=FJ ho;obtain⟨q1,q2,q3⟩:=j5 hd;have h7:=rq q1;have h8:=rq (show 0<=(I.w 3).toI by omega);have hF:F 425 [I.w 0,I.w 2,I.w 3]= .vl (dD false (I.w 0).toL (nt (I.w 2)) (nt (I.w 3))):=rfl;have hF2: ∀x y z:Val,F 460 [x,I.w 0,y,z,I.w 2,I.w 3]=cA (0,[.vi (max (nt (I.w 2)+1) (nt (I.w 3)):Nat),.vl (dD false (I.w 0).toL (nt (I.w 2)) (nt (I.w 3)))]):=λ_ _ _=>rfl
 rw[hF];generalize nt (I.w 2)=a at h7 hF2⊢;generalize nt (I.w 3)=b at h8 hF2⊢;have r0:bZ I BI= .vi (a+1:Nat):=by
  show Val.vi (cn .add .i64 (I.w 2).toI 1)=_;grind[wR]
 have e1:I.f 460 [bZ I BI,I.w 0,I.w 1,I.w 0,I.w 2,I.w 3]=cA (0,[.vi (max (a+1) b:Nat),.vl (dD false (I.w 0).toL a b)]):=by
  grind
 refine Z5 (r:=(0,[.vi (max (a+1) b:Nat),.vl (dD false (I.w 0).toL a b)])) ?_ e1 ?_
 .show cO _ [bZ I BI,I.w 0]=_;rw[r0];have hout: ∀(i:Nat) (M:Val),b<=i->Z0 IJ (I.upd 2000 [.vi i,M])=some (1,[.vi i,M]):=λi M hi=>by
   refine cE ?_ rfl;show decide ((i:Int)<(I.w 3).toI)=false;grind
  by_cases hab:a+1<b
  .refine zO (λi=>[.vi (a+1+i:Nat),.vl (dD false (I.w 0).toL a (a+1+i))]) (n:=b-(a+1)) ?_ (λi hi=>di9 hf h7 h8 h6 hl rfl oa (by omega) (by omega) (by omega)) ?_
   .rw[ZU (by omega) (by omega) (by omega),<-e5]
   grind
  .rw[S3 (by omega),ZU (by omega) (by omega) (by omega),<-e5,nJ];exact .out (hout (a+1) _ (by omega))
 .show some (0,[co (I.f 460 [bZ I BI,I.w 0,I.w 1,I.w 0,I.w 2,I.w 3]).toL 1 1])=_;rw[e1];rfl
variable{M Y:List Val}{i j:Nat}
theorem ER(h:i+j<=1000000):IntKind.i64.wrap (cn .shr .u64 (IntKind.u64.wrap (cn .add .i64 (i:Int) (j:Int))) 1)=(((i+j)/2:Nat):Int):=by
 rw[se h];have e1:IntKind.u64.wrap ((i+j:Nat):Int)=((i+j:Nat):Int):=by
  have:IntKind.u64.wrap ((i+j:Nat):Int)=((i+j:Nat):Int) % 18446744073709551616:=rfl;omega
 have e2:cn .shr .u64 ((i+j:Nat):Int) 1=(((i+j)/2:Nat):Int):=by
  have:cn .shr .u64 ((i+j:Nat):Int) 1=((i+j:Nat):Int).fdiv 2:=rfl;rw[this,P7 _ (by omega)];omega
 grind[lu]
theorem dj0{I:Opq}(hf: ∀i a,I.f i a=F i a){a N:Nat}(h7:(I.w 2).toI=a)(h6:(I.w 1).toI=N)(hN:N<=400)(hl:(I.w 0).toL.length=N)(ho:(I.w 0).toL.all okK=true)(hij:i<j)(hj:j<=N)(ha:a<N):
 Z0 GT (I.upd 2000 [.vi i,.vi j])=some (0,if cS false (cg (I.w 0).toL ((i+j)/2)) (cg (I.w 0).toL a)then [.vi ((i+j)/2+1:Nat),.vi j]else [.vi i,.vi ((i+j)/2:Nat)]):=by
 have e0:=ER (i:=i) (j:=j) (by omega);have hlt:(i+j)/2<j:=by omega
 generalize (i+j)/2=h at e0 hlt⊢;have e1:=wR (x:=h) (by omega);have p0:(i:Int)<(j:Int):=by omega
 have p1:(0:Int)<=(h:Int):=by omega
 have p2:(h:Int)<N:=by omega
 have p3:(0:Int)<=(a:Int):=by omega
 have p4:(a:Int)<N:=by omega
 have hc:=JG (I.w 0).toL (h) (a);unfold GT;simp only[Z0,ck,bZ,dB,cK,cN,Nat.reduceLeDiff,Nat.reduceSub,if_true,if_false,C6,C7,a09,a65,ak3,h7,h6,e0,e1,a99,ad7,p0,p1,p2,p3,p4,decide_true,E5,hl,pw,pD,pJ,eV,hf,hc];grind
theorem dj1{I:Opq}(hf: ∀i a,I.f i a=F i a){m N:Nat}(h8:(I.w 3).toI=m)(h6:(I.w 1).toI=N)(hN:N<=400)(hl:(I.w 0).toL.length=N)(ho:(I.w 0).toL.all okK=true)(hij:i<j)(hj:j<=N)(ha:m<N):
 Z0 Ix (I.upd 2000 [.vi i,.vi j])=some (0,if(!cS false (cg (I.w 0).toL m) (cg (I.w 0).toL ((i+j)/2)))=true then [.vi ((i+j)/2+1:Nat),.vi j]else [.vi i,.vi ((i+j)/2:Nat)]):=by
 have e0:=ER (i:=i) (j:=j) (by omega);have hlt:(i+j)/2<j:=by omega
 generalize (i+j)/2=h at e0 hlt⊢;have e1:=wR (x:=h) (by omega);have p0:(i:Int)<(j:Int):=by omega
 have p1:(0:Int)<=(h:Int):=by omega
 have p2:(h:Int)<N:=by omega
 have p3:(0:Int)<=(m:Int):=by omega
 have p4:(m:Int)<N:=by omega
 have hc:=JG (I.w 0).toL (m) (h);unfold Ix;simp only[Z0,ck,bZ,dB,cK,cN,Nat.reduceLeDiff,Nat.reduceSub,if_true,if_false,C6,C7,a09,a65,ak3,h8,h6,e0,e1,a99,ad7,p0,p1,p2,p3,p4,decide_true,E5,hl,pw,pD,pJ,eV,hf,hc];grind
theorem dj2{I:Opq}(hf: ∀i a,I.f i a=F i a){a m b N mid:Nat}(h7:(I.w 2).toI=a)(h8:(I.w 3).toI=m)(h9:(I.w 4).toI=b)(h6:(I.w 1).toI=N)(hN:N<=400)(hl:(I.w 0).toL.length=N)(ho:(I.w 0).toL.all okK=true)(hmid:mid=(a+b)/2)(hb:b<=N)(ham:a<m)(hmb:m<b)
 (hij:i<j) (hj:j<=m) (hj2:j<=mid) (hi:mid+m<=b+i):
 Z0 AS (I.upd 2000 [.vi i,.vi j])=some (0,if(!cS false (cg (I.w 0).toL (mid+m-1-(i+j)/2)) (cg (I.w 0).toL ((i+j)/2)))=true then [.vi ((i+j)/2+1:Nat),.vi j]else [.vi i,.vi ((i+j)/2:Nat)]):=by
 have e0:=ER (i:=i) (j:=j) (by omega);have g0:=ER (i:=a) (j:=b) (by omega);rw[<-hmid]at g0;have g1:=se (x:=mid) (y:=m) (by omega);have g2:=DZ (x:=mid+m) (by omega) (by omega);have hlt:(i+j)/2<j:=by omega
 have hge:i<=(i+j)/2:=by omega
 generalize (i+j)/2=h at e0 hlt hge⊢;have g3:=me (x:=mid+m-1) (y:=h) (by omega) (by omega);have e1:=wR (x:=h) (by omega);have hq:mid+m-1-h<N:=by omega
 generalize mid+m-1-h=q at g3 hq⊢;have p0:(i:Int)<(j:Int):=by omega
 have p1:(0:Int)<=(h:Int):=by omega
 have p2:(h:Int)<N:=by omega
 have p3:(0:Int)<=(q:Int):=by omega
 have p4:(q:Int)<N:=by omega
 have hc:=JG (I.w 0).toL (q) (h);unfold AS;simp only[Z0,ck,bZ,dB,cK,cN,Nat.reduceLeDiff,Nat.reduceSub,if_true,if_false,C6,C7,a09,a65,ak3,h7,h8,h9,h6,e0,e1,g0,g1,g2,g3,a99,ad7,p0,p1,p2,p3,p4,decide_true,E5,hl,pw,pD,pJ,eV,hf,hc];grind
theorem TY{I:Opq}{x:VT}(i:Nat):Z0 (.ite (zs aV aR) x (.ret 1 [aV,aR])) (I.upd 2000 [.vi i,.vi i])=some (1,[.vi i,.vi i]):=by
 refine cE ?_ rfl;show decide ((i:Int)<(i:Int))=false;grind
theorem dj3{I:Opq}{N r:Nat}(h6:(I.w 1).toI=N)(hN:N<=400)(hr:co (I.f 462 [I.w 3,I.w 4,I.w 1,I.w 0,I.w 2]).toL 1 0= .vi r)(hM:M.length=N)(ho:M.all okK=true)(hi:i+1<r)(hrN:r<=N):
 Z0 Jh (I.upd 3000 [.vi i,.vl M])=some (0,[.vi (i+1:Nat),.vl (jq M i (i+1))]):=by
 have e0:=DZ (x:=r) (by omega) (by omega);have e1:=wR (x:=i) (by omega);have p0:(i:Int)<((r-1:Nat):Int):=by omega
 have p1:(0:Int)<=((i+1:Nat):Int):=by omega
 have p2:((i+1:Nat):Int)<N:=by omega
 have p3:(0:Int)<=(i:Int):=by omega
 have p4:(i:Int)<N:=by omega
 rw[<-NJ ho (by omega) (by omega)];unfold Jh;simp only[Z0,ck,bZ,dB,cK,cN,Nat.reduceLeDiff,Nat.reduceSub,if_true,if_false,C6,C7,eV,hr,a09,a65,ak3,h6,e0,e1,a99,ad7,p0,p1,p2,p3,p4,decide_true,E5,hM,D8,pw,pD,pJ,uU,um,uP,uw,HX,Int.toNat_natCast]
theorem dj4{I:Opq}{N r:Nat}(h6:(I.w 1).toI=N)(hN:N<=400)(hr:co (I.f 464 [I.w 2,I.w 3,I.w 1,I.w 0,I.w 3]).toL 1 0= .vi r)(hM:M.length=N)(ho:M.all okK=true)(hi:r<i)(hiN:i<N):
 Z0 Lz (I.upd 3000 [.vi i,.vl M])=some (0,[.vi (i-1:Nat),.vl (jq M (i-1) i)]):=by
 have e1:=DZ (x:=i) (by omega) (by omega);have p0:(r:Int)<(i:Int):=by omega
 have p1:(0:Int)<=((i-1:Nat):Int):=by omega
 have p2:((i-1:Nat):Int)<N:=by omega
 have p3:(0:Int)<=(i:Int):=by omega
 have p4:(i:Int)<N:=by omega
 rw[Rv (by omega),<-NJ ho (by omega) (by omega)];unfold Lz;simp only[Z0,ck,bZ,dB,cK,cN,Nat.reduceLeDiff,Nat.reduceSub,if_true,if_false,C6,C7,eV,hr,a09,a65,ak3,h6,e1,a99,ad7,ar0,p0,p1,p2,p3,p4,decide_true,E5,hM,D8,pw,pD,pJ,uU,um,uP,uw,HX,Int.toNat_natCast]
theorem cy8{l:List Val}{a:Nat}(h:l.all okK=true): ∀n,a+n<l.length->(oB l a n).all okK=true
 |0,_=>h
 |n+1,h1=>Ey (cy8 h n (by omega)) (by rw[Ll];omega) (by rw[Ll];omega)
theorem cy9{l:List Val}{m:Nat}(h:l.all okK=true)(hm:m<l.length): ∀n,(nQ l m n).all okK=true
 |0=>h
 |n+1=>Ey (cy9 h hm n) (by rw[Oc];omega) (by rw[Oc];omega)
def GG(B:Int)(e mid L:SX):VT:= .ite (zs mid e) (.ite (zs e aS) (.need (.app 426 [L,aO,mid,e,aS,.ci B]) (.ret 0 [.app 425 [L,mid,aS]])) (.ret 0 [L])) (.ret 0 [L])
def Ei(B:Int)(r e mid L:SX):VT:= .ite (zs aT r) (.ite (zs r mid) (.need (.app 426 [L,aO,aT,r,mid,.ci B]) (GG B e mid (.app 425 [L,aT,mid]))) (GG B e mid L)) (GG B e mid L)
def IY(B:Int)(r e mid:SX):VT:= .ite (zs r aU) (.ite (zs aU e) (.need (.app 422 [aN,aO,r,aU,e]) (Ei B r e mid (.app 423 [aN,r,aU,e]))) (Ei B r e mid aN)) (Ei B r e mid aN)
theorem cP6(B:Int):rM B= .ite (ze (zm aU aT) 1) (.loop ⟨462,[aU,aS],2000,[aO,aN,aT]⟩ GT [.loop ⟨463,[aT,aN],3000,[aO,aN,xf]⟩ Jh [.ret 0 [zo (.app 463 [aT,aN,aO,aN,xf]) 1]]])
 (.ite (ze (zm aS aU) 1) (.loop ⟨464,[aT,aU],2000,[aO,aN,aU]⟩ Ix [.loop ⟨465,[aU,aN],3000,[aO,aN,xT]⟩ Lz [.ret 0 [zo (.app 465 [aU,aN,aO,aN,xT]) 1]]])
 (.ite (fV aU dY) (.loop ⟨466,[xC,dY],2000,[aO,aN,aT,aU,aS,dY,ky,qO]⟩ AS [IY B qH qb dY]) (.loop ⟨466,[aT,aU],2000,[aO,aN,aT,aU,aS,dY,ky,qO]⟩ AS [IY B qG qK dY]))):=rfl
theorem IN{n:Val}{N a m b:Nat}{B:Int}(ho:M.all okK=true)(hM:M.length=N)(hn:n.toI=(N:Int))(hN:N<=400)(h1:a<m)(h2:m<b)(h3:b<=N)(h4:(b:Int)-a<=B)
 (s1:Sd false (cH M a m)) (s2:Sd false (cH M m b)):(F 426 [.vl M,n,.vi a,.vi m,.vi b,.vi B]).toB=true:=by
 refine Tq.2 ⟨Ii ho hM hn hN,?_,?_,?_,?_,h4,rfl,rfl,rfl,s1,s2⟩
 .show(0:Int)<=(a:Int);omega
 .show(a:Int)<(m:Int);omega
 .show(m:Int)<(b:Int);omega
 .show(b:Int)<=n.toI;omega
theorem xl{va vb:Val}{a b:Nat}(ha:va.toI=(a:Int))(hb:vb.toI=(b:Int)):F 425 [.vl M,va,vb]= .vl (dD false M a b):=by
 show Val.vl (dD false M (nt va) (nt vb))=_;grind[Gw]
section
variable{I:Opq}{N a m b R E MID:Nat}{B:Int}{r e mid:SX}
theorem ZE(hf: ∀i a,I.f i a=F i a)(h6:(I.w 1).toI=N)(hN:N<=400)(h9:I.w 4= .vi b)(he:bZ I e= .vi E)(hmid:bZ I mid= .vi MID)(hb:b<=N)(hB:(b:Int)-MID<=B){L:SX}(hL:bZ I L= .vl M)(ho:M.all okK=true)(hM:M.length=N)
 (s1:Sd false (cH M MID E)) (s2:Sd false (cH M E b)) (c1:MID<E->E<b->dD false M MID b=Y) (c2: ¬(MID<E/\E<b)->M=Y):Z0 (GG B e mid L) I=some (0,[.vl Y]):=by
 have hret: ¬(MID<E/\E<b)->Z0 (.ret 0 [L]) I=some (0,[.vl Y]):=λh=>by
  show some (0,[bZ I L])=_;grind
 by_cases h1:MID<E
 .refine cG (by show decide ((bZ I mid).toI<(bZ I e).toI)=true;simp_all) ?_;by_cases h2:E<b
  .refine cG (by show decide ((bZ I e).toI<(I.w 4).toI)=true;simp_all) (W8 ?_ ?_)
   .show(I.f 426 [bZ I L,I.w 1,bZ I mid,bZ I e,I.w 4,.vi B]).toB=true;grind[IN]
   .show some (0,[I.f 425 [bZ I L,bZ I mid,I.w 4]])=_;rw[hf,hL,hmid,h9,xl rfl rfl,c1 h1 h2]
  .exact cE (by show decide ((bZ I e).toI<(I.w 4).toI)=false;simp_all) (hret (by omega))
 .exact cE (by show decide ((bZ I mid).toI<(bZ I e).toI)=false;simp_all) (hret (by omega))
theorem XK(hf: ∀i a,I.f i a=F i a)(h6:(I.w 1).toI=N)(hN:N<=400)(h7:I.w 2= .vi a)(h9:I.w 4= .vi b)(hr:bZ I r= .vi R)(he:bZ I e= .vi E)(hmid:bZ I mid= .vi MID)(hb:b<=N)(hmb:MID<b)(hB:(b:Int)-MID<=B)(hB2:(MID:Int)-a<=B){L:SX}{M2:List Val}(hL:bZ I L= .vl M)(ho:M.all okK=true)(hM:M.length=N)(ho2:M2.all okK=true)(hM2:M2.length=N)
 (t1:Sd false (cH M a R)) (t2:Sd false (cH M R MID)) (d1:a<R->R<MID->dD false M a MID=M2) (d2: ¬(a<R/\R<MID)->M=M2)
 (s1:Sd false (cH M2 MID E)) (s2:Sd false (cH M2 E b)) (c1:MID<E->E<b->dD false M2 MID b=Y) (c2: ¬(MID<E/\E<b)->M2=Y):Z0 (Ei B r e mid L) I=some (0,[.vl Y]):=by
 have hid: ¬(a<R/\R<MID)->Z0 (GG B e mid L) I=some (0,[.vl Y]):=λh=>by
  have:=d2 h;subst this;exact ZE hf h6 hN h9 he hmid hb hB hL ho hM s1 s2 c1 c2
 by_cases h1:a<R
 .refine cG (by show decide ((I.w 2).toI<(bZ I r).toI)=true;simp_all) ?_;by_cases h2:R<MID
  .refine cG (by show decide ((bZ I r).toI<(bZ I mid).toI)=true;simp_all) (W8 ?_ ?_)
   .show(I.f 426 [bZ I L,I.w 1,I.w 2,bZ I r,bZ I mid,.vi B]).toB=true;grind[IN]
   .refine ZE hf h6 hN h9 he hmid hb hB ?_ ho2 hM2 s1 s2 c1 c2;show I.f 425 [bZ I L,I.w 2,bZ I mid]=_;rw[hf,hL,hmid,h7,xl rfl rfl,d1 h1 h2]
  .exact cE (by show decide ((bZ I r).toI<(bZ I mid).toI)=false;simp_all) (hid (by omega))
 .exact cE (by show decide ((I.w 2).toI<(bZ I r).toI)=false;simp_all) (hid (by omega))
theorem dj6{n va vm vb:Val}{a m b:Nat}(ho:M.all okK=true)(hM:M.length=N)(hn:n.toI=(N:Int))(hN:N<=400)(ha:va.toI=(a:Int))(hm:vm.toI=(m:Int))(hb:vb.toI=(b:Int))(h1:a<m)(h2:m<b)(h3:b<=N):(F 422 [.vl M,n,va,vm,vb]).toB=true:=by
 show(np (.vl M) n&&decide (0<=va.toI/\va.toI<vm.toI/\vm.toI<vb.toI/\vb.toI<=n.toI))=true;grind[and2,Ii,decide_eq_true]
theorem dj7(hf: ∀i a,I.f i a=F i a)(h6:(I.w 1).toI=N)(hN:N<=400)(h7:I.w 2= .vi a)(h8:(I.w 3).toI=m)(h9:I.w 4= .vi b)(hr:bZ I r= .vi R)(he:bZ I e= .vi E)(hmid:bZ I mid= .vi MID)(hb:b<=N)(hEb:E<=b)(hmb:MID<b)(hB:(b:Int)-MID<=B)(hB2:(MID:Int)-a<=B){l M2:List Val}(h5:I.w 0= .vl l)(hl:l.length=N)(hlo:l.all okK=true)
 (b1:R<m->m<E->yu l R m E=M) (b2: ¬(R<m/\m<E)->l=M) (p1:M.Perm l)
 (t1:Sd false (cH M a R)) (t2:Sd false (cH M R MID)) (d1:a<R->R<MID->dD false M a MID=M2) (d2: ¬(a<R/\R<MID)->M=M2) (p2:M2.Perm l)
 (s1:Sd false (cH M2 MID E)) (s2:Sd false (cH M2 E b)) (c1:MID<E->E<b->dD false M2 MID b=Y) (c2: ¬(MID<E/\E<b)->M2=Y):Z0 (IY B r e mid) I=some (0,[.vl Y]):=by
 have oM:=xi hlo p1;have lM:M.length=N:=p1.length_eq.trans hl;have oM2:=xi hlo p2;have lM2:M2.length=N:=p2.length_eq.trans hl;have hid: ¬(R<m/\m<E)->Z0 (Ei B r e mid aN) I=some (0,[.vl Y]):=λh=>
  XK hf h6 hN h7 h9 hr he hmid hb hmb hB hB2 (L:= aN) (by show I.w 0=_;grind) oM lM oM2 lM2 t1 t2 d1 d2 s1 s2 c1 c2
 by_cases h1:R<m
 .refine cG (by show decide ((bZ I r).toI<(I.w 3).toI)=true;simp_all) ?_;by_cases h2:m<E
  .refine cG (by show decide ((I.w 3).toI<(bZ I e).toI)=true;simp_all) (W8 ?_ ?_)
   .show(I.f 422 [I.w 0,I.w 1,bZ I r,I.w 3,bZ I e]).toB=true;rw[hf,h5,hr,he];exact dj6 hlo hl h6 hN rfl h8 rfl h1 h2 (by omega)
   .refine XK hf h6 hN h7 h9 hr he hmid hb hmb hB hB2 ?_ oM lM oM2 lM2 t1 t2 d1 d2 s1 s2 c1 c2;show I.f 423 [I.w 0,bZ I r,I.w 3,bZ I e]=_;rw[hf,h5,hr,he,<-b1 h1 h2];show Val.vl (yu l R (nt (I.w 3)) E)=_;rw[Gw h8]
  .exact cE (by show decide ((I.w 3).toI<(bZ I e).toI)=false;simp_all) (hid (by omega))
 .exact cE (by show decide ((bZ I r).toI<(I.w 3).toI)=false;simp_all) (hid (by omega))
end
end Go.Ev.S7
namespace Go.Ev.S7
open Go Go.Ev
theorem Ql{T:Nat->Bool}{lo hi:Nat}{step:List Val->Option (Nat×List Val)}{va vb:Val}(hle:lo<=hi)(h1: ∀i j:Nat,lo<=i->i<j->j<=hi->step [.vi i,.vi j]=some (0,if T ((i+j)/2)=true then [.vi ((i+j)/2+1:Nat),.vi j]else [.vi i,.vi ((i+j)/2:Nat)]))(h2: ∀i:Nat,step [.vi i,.vi i]=some (1,[.vi i,.vi i])):
 cO step [.vi lo,.vi hi]=some (0,[.vi (bs T (hi-lo) lo hi),.vi (bs T (hi-lo) lo hi)]):=by
 rw[nJ];exact Vf h1 h2 (hi-lo) lo hi (e9 _) hle (e9 _) (e9 _)
theorem t_sym{I:Opq}{B:Int}(hf: ∀i a,I.f i a=F i a)(hn:(F 426 [I.w 0,I.w 1,I.w 2,I.w 3,I.w 4,.vi (2*B)]).toB=true):Z0 (rM B) I=some (0,[F 425 [I.w 0,I.w 2,I.w 4]]):=by
 have hn':Ig [I.w 0,I.w 1,I.w 2,I.w 3,I.w 4,.vi (2*B)]=true:=hn;obtain⟨ho,q1,q2,q3,q4,q5,i7,i8,i9,s1,s2⟩:=Tq.1 hn';have ho:np (I.w 0) (I.w 1)=true:=ho;have q1:0<=(I.w 2).toI:=q1;have q2:(I.w 2).toI<(I.w 3).toI:=q2;have q3:(I.w 3).toI<(I.w 4).toI:=q3;have q4:(I.w 4).toI<=(I.w 1).toI:=q4;have q5:(I.w 4).toI-(I.w 2).toI<=2*B:=q5;have s1:Sd false (cH (I.w 0).toL (nt (I.w 2)) (nt (I.w 3))):=s1;have s2:Sd false (cH (I.w 0).toL (nt (I.w 3)) (nt (I.w 4))):=s2;obtain⟨e5,oa,h6,hl⟩:=FJ ho;have h7:=rq q1;have h8:=rq (show 0<=(I.w 3).toI by omega);have h9:=rq (show 0<=(I.w 4).toI by omega);have w7:I.w 2= .vi (nt (I.w 2)):=(IS (show tO (I.w 2)=true from i7)).trans (congrArg Val.vi h7);have w8:I.w 3= .vi (nt (I.w 3)):=(IS (show tO (I.w 3)=true from i8)).trans (congrArg Val.vi h8);have w9:I.w 4= .vi (nt (I.w 4)):=(IS (show tO (I.w 4)=true from i9)).trans (congrArg Val.vi h9);have hF:F 425 [I.w 0,I.w 2,I.w 4]= .vl (dD false (I.w 0).toL (nt (I.w 2)) (nt (I.w 4))):=rfl;rw[hF];generalize nt (I.w 2)=a at h7 w7 s1⊢;generalize nt (I.w 3)=m at h8 w8 s1 s2⊢;generalize nt (I.w 4)=b at h9 w9 s2⊢;obtain⟨l,hL⟩: ∃l,(I.w 0).toL=l:=⟨_,rfl⟩;obtain⟨N,hNN⟩: ∃N,l.length=N:=⟨_,rfl⟩;have hlN:(I.w 0).toL.length=N:=by grind
 rw[hlN]at h6 hl;have ham:a<m:=by omega
 have hmb:m<b:=by omega
 have hbN:b<=N:=by omega
 rw[cP6];by_cases c1:m=a+1
 .
  refine cG (by show decide (cn .sub .i64 (I.w 3).toI (I.w 2).toI=1)=true;grind[me,decide_eq_true]) ?_;subst c1;have so:=dc7 (sec:=false) (l:=(I.w 0).toL) (a:=a) (b:=b) hmb (by omega) s2;have hlp:cO (λvs=>Z0 GT (I.upd 2000 vs)) [.vi (a+1:Nat),.vi b]=_:=Ql (T:=λh=>cS false (cg (I.w 0).toL h) (cg (I.w 0).toL a)) (va:= .vi 0) (vb:= .vi 0) (by omega) (λi j h1 h2 h3=>dj0 hf h7 h6 hl hlN oa h2 (by omega) (by omega)) (λi=>TY i);have hF2:F 462 [.vi (a+1:Nat),.vi b,I.w 1,I.w 0,.vi a]=cA (0,[.vi (bs (λh=>cS false (cg (I.w 0).toL h) (cg (I.w 0).toL a)) (b-(a+1)) (a+1) b),.vi (bs (λh=>cS false (cg (I.w 0).toL h) (cg (I.w 0).toL a)) (b-(a+1)) (a+1) b)]):=rfl;generalize bs (λh=>cS false (cg (I.w 0).toL h) (cg (I.w 0).toL a)) (b-(a+1)) (a+1) b=r at so hlp hF2;obtain⟨r1,r2,r3⟩:=so;have e462:I.f 462 [I.w 3,I.w 4,I.w 1,I.w 0,I.w 2]=cA (0,[.vi r,.vi r]):=by
   grind
  have er:co (I.f 462 [I.w 3,I.w 4,I.w 1,I.w 0,I.w 2]).toL 1 0= .vi r:=by rw[e462];rfl
  have hF3: ∀x y:Val,F 463 [.vi a,I.w 0,x,y,.vi r]=cA (0,[.vi (r-1:Nat),.vl (oB (I.w 0).toL a (r-1-a))]):=λ_ _=>rfl
  have e463:I.f 463 [I.w 2,I.w 0,I.w 1,I.w 0,bZ I xf]=cA (0,[.vi (r-1:Nat),.vl (oB (I.w 0).toL a (r-1-a))]):=by
   rw[show bZ I xf= .vi r from er,hf,w7,hF3]
  refine Z5 (r:=(0,[.vi r,.vi r])) ?_ e462 (Z5 (r:=(0,[.vi (r-1:Nat),.vl (oB (I.w 0).toL a (r-1-a))])) ?_ e463 ?_)
  .show cO _ [I.w 3,I.w 4]=_;grind
  .show cO _ [I.w 2,I.w 0]=_;rw[w7];refine zO (λi=>[.vi (a+i:Nat),.vl (oB (I.w 0).toL a i)]) (n:=r-1-a) (by rw[show oB (I.w 0).toL a 0=(I.w 0).toL from rfl,<-e5];rfl) (λi hi=> ?_) ?_
   .exact dj3 h6 hl er (by grind[Ll]) (cy8 oa i (by omega)) (by omega) (by omega)
   .rw[show a+(r-1-a)=r-1 by omega];refine cE ?_ rfl;show decide (((r-1:Nat):Int)<cn .sub .i64 (co (I.f 462 [I.w 3,I.w 4,I.w 1,I.w 0,I.w 2]).toL 1 0).toI 1)=false;grind[a09,DZ,decide_eq_false]
  .show some (0,[co (I.f 463 [I.w 2,I.w 0,I.w 1,I.w 0,bZ I xf]).toL 1 1])=_;rw[e463,<-r3];rfl
 .refine cE (by show decide (cn .sub .i64 (I.w 3).toI (I.w 2).toI=1)=false;grind[me,decide_eq_false]) ?_;by_cases c2:b=m+1
  .
   refine cG (by show decide (cn .sub .i64 (I.w 4).toI (I.w 3).toI=1)=true;grind[me,decide_eq_true]) ?_;subst c2;have so:=dc8 (sec:=false) (l:=(I.w 0).toL) (a:=a) (m:=m) ham (by omega) s1;have hlp:cO (λvs=>Z0 Ix (I.upd 2000 vs)) [.vi a,.vi m]=_:=Ql (T:=λh=> !cS false (cg (I.w 0).toL m) (cg (I.w 0).toL h)) (va:= .vi 0) (vb:= .vi 0) (by omega) (λi j h1 h2 h3=>dj1 hf h8 h6 hl hlN oa h2 (by omega) (by omega)) (λi=>TY i);have hF2:F 464 [.vi a,.vi m,I.w 1,I.w 0,.vi m]=cA (0,[.vi (bs (λh=> !cS false (cg (I.w 0).toL m) (cg (I.w 0).toL h)) (m-a) a m),.vi (bs (λh=> !cS false (cg (I.w 0).toL m) (cg (I.w 0).toL h)) (m-a) a m)]):=rfl;generalize bs (λh=> !cS false (cg (I.w 0).toL m) (cg (I.w 0).toL h)) (m-a) a m=r at so hlp hF2;obtain⟨r1,r2,r3⟩:=so;have e464:I.f 464 [I.w 2,I.w 3,I.w 1,I.w 0,I.w 3]=cA (0,[.vi r,.vi r]):=by
    grind
   have er:co (I.f 464 [I.w 2,I.w 3,I.w 1,I.w 0,I.w 3]).toL 1 0= .vi r:=by rw[e464];rfl
   have hF3: ∀x y:Val,F 465 [.vi m,I.w 0,x,y,.vi r]=cA (0,[.vi r,.vl (nQ (I.w 0).toL m (m-r))]):=λ_ _=>rfl
   have e465:I.f 465 [I.w 3,I.w 0,I.w 1,I.w 0,bZ I xT]=cA (0,[.vi r,.vl (nQ (I.w 0).toL m (m-r))]):=by
    rw[show bZ I xT= .vi r from er,hf,w8,hF3]
   refine Z5 (r:=(0,[.vi r,.vi r])) ?_ e464 (Z5 (r:=(0,[.vi r,.vl (nQ (I.w 0).toL m (m-r))])) ?_ e465 ?_)
   .show cO _ [I.w 2,I.w 3]=_;grind
   .show cO _ [I.w 3,I.w 0]=_;rw[w8];refine zO (λi=>[.vi (m-i:Nat),.vl (nQ (I.w 0).toL m i)]) (n:=m-r) (by rw[show nQ (I.w 0).toL m 0=(I.w 0).toL from rfl,<-e5];rfl) (λi hi=> ?_) ?_
    .grind[dj4,nQ,Oc,cy9,jq]
    .rw[show m-(m-r)=r by omega];refine cE ?_ rfl;show decide ((co (I.f 464 [I.w 2,I.w 3,I.w 1,I.w 0,I.w 3]).toL 1 0).toI<(r:Int))=false;grind[a09,decide_eq_false]
   .show some (0,[co (I.f 465 [I.w 3,I.w 0,I.w 1,I.w 0,bZ I xT]).toL 1 1])=_;rw[e465,<-r3];rfl
  .refine cE (by show decide (cn .sub .i64 (I.w 4).toI (I.w 3).toI=1)=false;grind[me,decide_eq_false]) ?_;obtain⟨mid,hmid⟩: ∃mid,mid=(a+b)/2:=⟨_,rfl⟩;have d2:bZ I dY= .vi mid:=by
    show Val.vi (IntKind.i64.wrap (cn .shr .u64 (IntKind.u64.wrap (cn .add .i64 (I.w 2).toI (I.w 4).toI)) 1))=_;grind[ER]
   have d3:bZ I ky= .vi (mid+m:Nat):=by
    show Val.vi (cn .add .i64 (bZ I dY).toI (I.w 3).toI)=_;rw[d2,h8,a09,se (by omega)]
   have d5:bZ I qO= .vi (mid+m-1:Nat):=by
    show Val.vi (cn .sub .i64 (bZ I ky).toI 1)=_;rw[d3,a09,DZ (by omega) (by omega)]
   have key: ∀(lo hi r:Nat) (va vb:Val) (er ee:SX),(mid<m/\lo=mid+m-b/\hi=mid\/m<=mid/\lo=a/\hi=m)->r=bs (λc=> !cS false (cg (I.w 0).toL (mid+m-1-c)) (cg (I.w 0).toL c)) (hi-lo) lo hi->bZ I er= .vi r->(∀n:Nat,bZ I er= .vi n->n<=mid+m->bZ I ee= .vi (mid+m-n:Nat))->Z0 (IY B er ee dY) I=some (0,[.vl (dD false (I.w 0).toL a b)]):=λlo hi r va vb er ee hlh hr h1 h2=>by
    obtain⟨g1,g2,g3,g4,M,M2,b1,b2,p1,t1,t2,k1,k2,p2,u1,u2,x1,x2⟩:=dc9 (sec:=false) (l:=(I.w 0).toL) ham hmb (by omega) s1 s2 hmid hlh hr;exact dj7 hf h6 hl w7 h8 w9 h1 (h2 r h1 (by omega)) d2 hbN g4 (by omega) (by omega) (by omega) e5 hlN oa b1 b2 p1 t1 t2 k1 k2 p2 u1 u2 x1 x2
   have hlp: ∀lo hi:Nat,(mid<m/\lo=mid+m-b/\hi=mid\/m<=mid/\lo=a/\hi=m)->cO (λvs=>Z0 AS (I.upd 2000 vs)) [.vi lo,.vi hi]=some (0,[.vi (bs (λc=> !cS false (cg (I.w 0).toL (mid+m-1-c)) (cg (I.w 0).toL c)) (hi-lo) lo hi),.vi (bs (λc=> !cS false (cg (I.w 0).toL (mid+m-1-c)) (cg (I.w 0).toL c)) (hi-lo) lo hi)]):=λlo hi hlh=>Ql (T:=λc=> !cS false (cg (I.w 0).toL (mid+m-1-c)) (cg (I.w 0).toL c)) (va:= .vi 0) (vb:= .vi 0) (by omega) (λi j h1 h2 h3=>dj2 hf h7 h8 h9 h6 hl hlN oa hmid hbN ham hmb h2 (by omega) (by omega) (by omega)) (λi=>TY i)
   have hF2: ∀(lo hi:Nat) (va vb x y:Val),nt va=lo->nt vb=hi->F 466 [va,vb,I.w 1,I.w 0,I.w 2,I.w 3,I.w 4,x,y,.vi (mid+m-1:Nat)]=cA (0,[.vi (bs (λc=> !cS false (cg (I.w 0).toL (mid+m-1-c)) (cg (I.w 0).toL c)) (hi-lo) lo hi),.vi (bs (λc=> !cS false (cg (I.w 0).toL (mid+m-1-c)) (cg (I.w 0).toL c)) (hi-lo) lo hi)]):=λlo hi va vb x y h1 h2=>by subst h1;subst h2;rfl
   by_cases c3:mid<m
   .refine cG (by show decide ((bZ I dY).toI<(I.w 3).toI)=true;grind[a09,decide_eq_true]) ?_;have hlh:mid<m/\mid+m-b=mid+m-b/\mid=mid\/m<=mid/\mid+m-b=a/\mid=m:= .inl ⟨c3,rfl,rfl⟩;have d4:bZ I xC= .vi (mid+m-b:Nat):=by
     show Val.vi (cn .sub .i64 (bZ I ky).toI (I.w 4).toI)=_;rw[d3,h9,a09,me (by omega) (by omega)]
    have e466:I.f 466 [bZ I xC,bZ I dY,I.w 1,I.w 0,I.w 2,I.w 3,I.w 4,bZ I dY,bZ I ky,bZ I qO]=cA (0,[.vi (bs (λc=> !cS false (cg (I.w 0).toL (mid+m-1-c)) (cg (I.w 0).toL c)) (mid-(mid+m-b)) (mid+m-b) mid),.vi (bs (λc=> !cS false (cg (I.w 0).toL (mid+m-1-c)) (cg (I.w 0).toL c)) (mid-(mid+m-b)) (mid+m-b) mid)]):=by
     rw[hf,d5];exact hF2 (mid+m-b) mid _ _ _ _ (by rw[d4];rfl) (by rw[d2];rfl)
    refine Z5 (r:=(0,_)) ?_ e466 ?_
    .show cO _ [bZ I xC,bZ I dY]=_;grind
    .refine key _ _ _ (.vi 0) (.vi 0) qH qb hlh rfl ?_ (λn h1 h2=> ?_)
     .show co (I.f 466 [bZ I xC,bZ I dY,I.w 1,I.w 0,I.w 2,I.w 3,I.w 4,bZ I dY,bZ I ky,bZ I qO]).toL 1 0=_;rw[e466];rfl
     .show Val.vi (cn .sub .i64 (bZ I ky).toI (bZ I qH).toI)=_;rw[d3,h1,a09,a09,me h2 (by omega)]
   .refine cE (by show decide ((bZ I dY).toI<(I.w 3).toI)=false;grind[a09,decide_eq_false]) ?_;have hlh:mid<m/\a=mid+m-b/\m=mid\/m<=mid/\a=a/\m=m:= .inr ⟨by omega,rfl,rfl⟩;have e466:I.f 466 [I.w 2,I.w 3,I.w 1,I.w 0,I.w 2,I.w 3,I.w 4,bZ I dY,bZ I ky,bZ I qO]=cA (0,[.vi (bs (λc=> !cS false (cg (I.w 0).toL (mid+m-1-c)) (cg (I.w 0).toL c)) (m-a) a m),.vi (bs (λc=> !cS false (cg (I.w 0).toL (mid+m-1-c)) (cg (I.w 0).toL c)) (m-a) a m)]):=by
     grind[Gw]
    refine Z5 (r:=(0,_)) ?_ e466 ?_
    .show cO _ [I.w 2,I.w 3]=_;grind
    .refine key _ _ _ (.vi 0) (.vi 0) qG qK hlh rfl ?_ (λn h1 h2=> ?_)
     .show co (I.f 466 [I.w 2,I.w 3,I.w 1,I.w 0,I.w 2,I.w 3,I.w 4,bZ I dY,bZ I ky,bZ I qO]).toL 1 0=_;rw[e466];rfl
     .show Val.vi (cn .sub .i64 (bZ I ky).toI (bZ I qG).toI)=_;rw[d3,h1,a09,a09,me h2 (by omega)]
theorem sym_vac{a b c d e:Val}(hn:(F 426 [a,b,c,d,e,.vi 1]).toB=true):False:=by
 obtain⟨_,_,q2,q3,_,q5,_⟩:=Tq.1 (show Ig [a,b,c,d,e,.vi 1]=true from hn);have q2:c.toI<d.toI:=q2;have q3:d.toI<e.toI:=q3;have q5:e.toI-c.toI<=1:=q5;omega
variable{l:List Val}
theorem QA{a b c d:Nat}(ha:a<=l.length)(hd:d<=a):cH (dD false l a b) c d=cH l c d:=by
 unfold cH dD;rw[W5 (by rw[l5];omega),P9,B1 hd]
theorem dj8{a b c:Nat}(h:a<=b)(hb:b<=l.length)(hc:b<=c):(dD false l a b).drop c=l.drop c:=by
 unfold dD;rw[<-A5,M9,N8 (by rw[k5,l5,srt_len,md hb];omega),List.nil_append,k5,l5,srt_len,md hb,Q1];grind
theorem dE1{a b c d:Nat}(h:a<=b)(hb:b<=l.length)(hc:b<=c):cH (dD false l a b) c d=cH l c d:=by
 grind[cH,List.drop_take,dj8]
theorem pA(B:Nat)(l:List Val): ∀k,(eC B l k).length=l.length
 |0=>rfl
 |k+1=>by rw[eC,bU9 false (by omega),pA B l k]
theorem FM(B:Nat)(l:List Val): ∀k,(eC B l k).Perm l
 |0=> .refl _
 |k+1=>(Hx false (by omega)).trans (FM B l k)
theorem Je(B:Nat)(l:List Val): ∀k,Cl false (eC B l k) l
 |0=>Cl.refl _ _
 |k+1=>(SR false (by omega)).trans (Je B l k)
theorem zZ{B:Nat}{l:List Val}: ∀{k c d:Nat},B*k<=l.length->B*k<=c->cH (eC B l k) c d=cH l c d
 |0,c,d,_,_=>rfl
 |k+1,c,d,hl,hc=>by
  rw[Nat.mul_succ]at hl hc;rw[eC,dE1 (by omega) (by grind[pA]) hc,zZ (by omega) (by omega)]
theorem TW{B:Nat}{l:List Val}: ∀{k j:Nat},j<k->B*k<=l.length->cH (eC B l k) (B*j) (B*j+B)=srt false (cH l (B*j) (B*j+B))
 |k+1,j,hj,hl=>by
  rw[Nat.mul_succ]at hl;rw[eC];by_cases h:j=k
  .subst h;rw[OO (by omega) (by grind[pA]),zZ (by omega) (e9 _)]
  .have hjk:j<k:=by omega
   have:B*j+B<=B*k:=by exact M3 _ hjk
   rw[QA (by rw[pA];omega) this,TW hjk (by omega)]
def Bk(B n:Nat)(l:List Val):Prop:= ∀k,Sd false (cH l (B*k) (min (B*k+B) n))
theorem Rh:Sd false []:=List.Pairwise.nil
theorem cz4{n:Nat}(hl:l.length=n):Bk 20 n (dD false (eC 20 l (n/20)) (20*(n/20)) n):=by
 have hq:20*(n/20)<=n:=M4 n 20;intro k;rcases G9 k (n/20)with h|h|h
 .have h1:20*k+20<=20*(n/20):=by omega
  rw[B1 (by omega),QA (by rw[pA];omega) h1,TW h (by omega)];exact srt_sorted _ _
 .subst h;rw[K7 (by omega),OO hq (by rw[pA];omega)];exact srt_sorted _ _
 grind[Qo,Rh]
theorem YS{bs n:Nat}(h0:0<bs)(hl:l.length=n)(hb:Bk bs n l):Bk (2*bs) n (pass bs n l)/\Cl false (pass bs n l) l/\(pass bs n l).Perm l:=by
 have hq:2*bs*(n/(2*bs))<=n:=M4 n (2*bs);have hq2:n<2*bs*(n/(2*bs))+2*bs:=by
  have:=T8 n (show 0<2*bs by omega);omega
 have ev: ∀k,bs*(2*k)=2*bs*k:=λk=>by grind
 have hp:pass bs n l=if 2*bs*(n/(2*bs))+bs<n then dD false (eC (2*bs) l (n/(2*bs))) (2*bs*(n/(2*bs))) n else eC (2*bs) l (n/(2*bs)):=rfl
 generalize n/(2*bs)=q at hq hq2 hp;have hM: ∀k,k<q->Sd false (cH (eC (2*bs) l q) (2*bs*k) (min (2*bs*k+2*bs) n)):=λk hk=>by
  have:2*bs*k+2*bs<=2*bs*q:=by exact M3 _ hk
  rw[B1 (by omega),TW hk (by omega)];exact srt_sorted _ _
 have hgt: ∀k,q<k->n<=2*bs*k:=λk hk=>by
  have:2*bs*(q+1)<=2*bs*k:=M3 _ hk;grind
 by_cases hc:2*bs*q+bs<n
 .have e:(if 2*bs*q+bs<n then dD false (eC (2*bs) l q) (2*bs*q) n else eC (2*bs) l q)=dD false (eC (2*bs) l q) (2*bs*q) n:=e8 hc;refine⟨λk=> ?_,?_,?_⟩
  .rw[hp,e];rcases G9 k q with h|h|h
   .have:2*bs*k+2*bs<=2*bs*q:=by exact M3 _ h
    rw[QA (by rw[pA];omega) (by rw[B1 (by omega)];exact this)];exact hM k h
   .subst h;rw[K7 (by omega),OO hq (by rw[pA];omega)];exact srt_sorted _ _
   grind[Qo,Rh]
  .rw[hp,e];exact(SR false hq).trans (Je _ _ _)
  .rw[hp,e];exact(Hx false hq).trans (FM _ _ _)
 .have e:(if 2*bs*q+bs<n then dD false (eC (2*bs) l q) (2*bs*q) n else eC (2*bs) l q)=eC (2*bs) l q:=b9 hc;refine⟨λk=> ?_,?_,?_⟩
  .rw[hp,e];rcases G9 k q with h|h|h
   .exact hM k h
   .subst h;rw[K7 (by omega),zZ (by omega) (e9 _)];have:=hb (2*k);rw[ev,K7 (by omega)]at this;exact this
   .rw[Qo (by have:=hgt k h;omega)];exact Rh
  .rw[hp,e];exact Je _ _ _
  grind[FM]
theorem c00{n:Nat}: ∀(f bs:Nat) (l:List Val),0<bs->n<=bs*2^f->l.length=n->Bk bs n l->(oq n f bs l).2=srt false l
 |0,bs,l,h0,hn,hl,hb=>by
  rw[oq,Aq];have:=hb 0;grind[cH]
 |f+1,bs,l,h0,hn,hl,hb=>by
  rw[oq];by_cases h:bs<n
  .rw[e8 h];obtain⟨p1,p2,p3⟩:=YS h0 hl hb;rw[c00 f (2*bs) _ (by omega) (by grind) (by rw[p3.length_eq];exact hl) p1];exact srt_cl p2
  .rw[b9 h,Aq];have:=hb 0;grind[cH]
end Go.Ev.S7
namespace Go.Ev.S7
open Go Go.Ev
variable{I:Opq}{l:List Val}{n:Nat}
theorem QZ{x y:Nat}(h:x*y<=1000000):cn .mul .i64 (x:Int) (y:Int)=((x*y:Nat):Int):=by
 have:cn .mul .i64 (x:Int) (y:Int)=IntKind.i64.wrap ((x:Int)*(y:Int)):=rfl;grind[Int.natCast_mul,lu]
theorem cz6{M:List Val}{n va vb:Val}{N a b:Nat}(ho:M.all okK=true)(hM:M.length=N)(hn:n.toI=(N:Int))(hN:N<=400)(ha:va.toI=(a:Int))(hb:vb.toI=(b:Int))(h1:a<=b)(h2:b<=N):(F 424 [.vl M,n,va,vb]).toB=true:=by
 show(np (.vl M) n&&decide (0<=va.toI/\va.toI<=vb.toI/\vb.toI<=n.toI))=true;grind[and2,Ii,decide_eq_true]
theorem Mi{B:Nat}(h:l.all okK=true)(k:Nat):(eC B l k).all okK=true:=xi h (FM B l k)
theorem dY1(hf: ∀i a,I.f i a=F i a)(h1:(I.w 1).toI=n)(h2:(I.w 2).toI=n)(hl:l.length=n)(ho:l.all okK=true)(hn:n<=400):
 cO (λvs=>Z0 Yf (I.upd 2000 vs)) [.vi 0,.vi 20,.vl l]=some (0,[.vi (20*(n/20):Nat),.vi (20*(n/20)+20:Nat),.vl (eC 20 l (n/20))]):=by
 refine zO (λk=>[.vi (20*k:Nat),.vi (20*k+20:Nat),.vl (eC 20 l k)]) (n:=n/20) rfl (λk hk=> ?_) ?_
 .have hk2:20*k+20<=n:=by omega
  obtain⟨aa,ae⟩: ∃aa,aa=I.upd 2000 [.vi (20*k:Nat),.vi (20*k+20:Nat),.vl (eC 20 l k)]:=⟨_,rfl⟩;have v0:aa.w 2000= .vi (20*k:Nat):=by rw[ae];rfl
  have v1:aa.w 2001= .vi (20*k+20:Nat):=by rw[ae];rfl
  have v2:aa.w 2002= .vl (eC 20 l k):=by rw[ae];rfl
  have u1:(aa.w 1).toI=n:=by rw[ae];exact h1
  have u2:(aa.w 2).toI=n:=by rw[ae];exact h2
  have hf': ∀i a,aa.f i a=F i a:=by rw[ae];exact hf
  rw[<-ae];refine cG (by show decide ((aa.w 2001).toI<=(aa.w 2).toI)=true;rw[v1,u2];exact c9 (by show((20*k+20:Nat):Int)<=(n:Int);omega)) (W8 ?_ ?_)
  .show(aa.f 424 [aa.w 2002,aa.w 1,aa.w 2000,aa.w 2001]).toB=true;rw[hf',v0,v1,v2];exact cz6 (Mi ho k) (by grind[pA]) u1 hn rfl rfl (by omega) hk2
  .show some (0,[aa.w 2001,Val.vi (cn .add .i64 (aa.w 2001).toI 20),aa.f 425 [aa.w 2002,aa.w 2000,aa.w 2001]])=_;rw[hf',v0,v1,v2,xl rfl rfl,a09,show(20:Int)=((20:Nat):Int)from rfl,se (by omega)];rfl
 .refine cE ?_ rfl;show decide (((20*(n/20)+20:Nat):Int)<=(I.w 2).toI)=false;grind
theorem dY2(hf: ∀i a,I.f i a=F i a){bs:Nat}(h1:(I.w 1).toI=n)(h2:I.w 2= .vi n)(h3:I.w 3000= .vi bs)(h0:0<bs)(hl:l.length=n)(ho:l.all okK=true)(hn:n<=400)(hbs:bs<=1000)(hb:Bk bs n l):
 cO (λvs=>Z0 QW (I.upd 4000 vs)) [.vi 0,.vi (2*bs:Nat),.vl l]=some (0,[.vi (2*bs*(n/(2*bs)):Nat),.vi (2*bs*(n/(2*bs))+2*bs:Nat),.vl (eC (2*bs) l (n/(2*bs)))]):=by
 have hq:2*bs*(n/(2*bs))<=n:=M4 n (2*bs);have hq2:n<2*bs*(n/(2*bs))+2*bs:=by
  have:=T8 n (show 0<2*bs by omega);omega
 have ev: ∀k,bs*(2*k)=2*bs*k:=λk=>by grind
 have od: ∀k,bs*(2*k+1)=2*bs*k+bs:=λk=>by grind
 generalize n/(2*bs)=q at hq hq2⊢;refine zO (λk=>[.vi (2*bs*k:Nat),.vi (2*bs*k+2*bs:Nat),.vl (eC (2*bs) l k)]) (n:=q) (by rw[Nat.mul_zero,m9];rfl) (λk hk=> ?_) ?_
 .have hk2:2*bs*k+2*bs<=n:=by
   have:2*bs*(k+1)<=2*bs*q:=M3 _ hk;grind
  obtain⟨aa,ae⟩: ∃aa,aa=I.upd 4000 [.vi (2*bs*k:Nat),.vi (2*bs*k+2*bs:Nat),.vl (eC (2*bs) l k)]:=⟨_,rfl⟩;have v0:aa.w 4000= .vi (2*bs*k:Nat):=by rw[ae];rfl
  have v1:aa.w 4001= .vi (2*bs*k+2*bs:Nat):=by rw[ae];rfl
  have v2:aa.w 4002= .vl (eC (2*bs) l k):=by rw[ae];rfl
  have u1:(aa.w 1).toI=n:=by rw[ae];exact h1
  have u2:aa.w 2= .vi n:=by rw[ae];exact h2
  have u3:aa.w 3000= .vi bs:=by rw[ae];exact h3
  have hf': ∀i a,aa.f i a=F i a:=by rw[ae];exact hf
  have a1:cn .add .i64 ((2*bs*k:Nat):Int) (bs:Int)=((2*bs*k+bs:Nat):Int):=se (by omega);have a2:cn .mul .i64 2 (bs:Int)=((2*bs:Nat):Int):=QZ (x:=2) (by omega);have a3:cn .add .i64 ((2*bs*k+2*bs:Nat):Int) ((2*bs:Nat):Int)=((2*bs*k+2*bs+2*bs:Nat):Int):=se (by omega);have s1:=hb (2*k);rw[ev,B1 (by omega)]at s1;have s2:=hb (2*k+1);rw[<-ae];refine cG (by show decide ((aa.w 4001).toI<=(aa.w 2).toI)=true;rw[v1,u2];exact c9 (by show((2*bs*k+2*bs:Nat):Int)<=(n:Int);omega)) (W8 ?_ ?_)
  .show(aa.f 426 [aa.w 4002,aa.w 1,aa.w 4000,Val.vi (cn .add .i64 (aa.w 4000).toI (aa.w 3000).toI),aa.w 4001,.vi 512]).toB=true;rw[hf',v0,v1,v2,u3,a09,a09,a1];exact IN (Mi ho k) (by grind[pA]) u1 hn (by omega) (by omega) hk2 (by omega) (by rw[zZ (by omega) (e9 _)];exact s1) (by grind[zZ])
  .show some (0,[aa.w 4001,Val.vi (cn .add .i64 (aa.w 4001).toI (cn .mul .i64 2 (aa.w 3000).toI)),aa.f 425 [aa.w 4002,aa.w 4000,aa.w 4001]])=_;rw[hf',v0,v1,v2,u3,xl rfl rfl,a09,a09,a2,a3,Nat.mul_succ];rfl
 .refine cE ?_ rfl;show decide (((2*bs*q+2*bs:Nat):Int)<=(I.w 2).toI)=false;rw[h2];exact i6 (by show¬((2*bs*q+2*bs:Nat):Int)<=(n:Int);omega)
def EV:SX:= .app 469 [aM,.op (.ar .mul .i64) [bm,aY],bc,aO,bc,aT,aY]
def oZ:SX:= zo EV 0
def zP:SX:= zo EV 2
theorem dj9:Gg= .ite (zs aY aT) (.loop ⟨469,[aM,.op (.ar .mul .i64) [bm,aY],bc],4000,[aO,bc,aT,aY]⟩ QW [.ite (zs (za oZ aY) aT) (.need (.app 426 [zP,aO,oZ,za oZ aY,aT,.ci 512]) (.ret 0 [.op (.ar .mul .i64) [aY,bm],.app 425 [zP,oZ,aT]])) (.ret 0 [.op (.ar .mul .i64) [aY,bm],zP])]) (.ret 1 [aY,bc]):=rfl
theorem dk0(hf: ∀i a,I.f i a=F i a){bs:Nat}(h1:(I.w 1).toI=n)(h2:I.w 2= .vi n)(h0:0<bs)(hlt:bs<n)(hl:l.length=n)(ho:l.all okK=true)(hn:n<=400)(hb:Bk bs n l):
 Z0 Gg (I.upd 3000 [.vi bs,.vl l])=some (0,[.vi (2*bs:Nat),.vl (pass bs n l)]):=by
 obtain⟨aa,ae⟩: ∃aa,aa=I.upd 3000 [.vi bs,.vl l]:=⟨_,rfl⟩;have v0:aa.w 3000= .vi bs:=by rw[ae];rfl
 have v1:aa.w 3001= .vl l:=by rw[ae];rfl
 have u1:(aa.w 1).toI=n:=by rw[ae];exact h1
 have u2:aa.w 2= .vi n:=by rw[ae];exact h2
 have hf': ∀i a,aa.f i a=F i a:=by rw[ae];exact hf
 have a2:cn .mul .i64 2 (bs:Int)=((2*bs:Nat):Int):=QZ (x:=2) (by omega);have a2':cn .mul .i64 (bs:Int) 2=((2*bs:Nat):Int):=by grind[Nat.mul_comm,QZ]
 have it:=dY2 hf' (l:=l) u1 u2 v0 h0 hl ho hn (by omega) hb;have hp:pass bs n l=if 2*bs*(n/(2*bs))+bs<n then dD false (eC (2*bs) l (n/(2*bs))) (2*bs*(n/(2*bs))) n else eC (2*bs) l (n/(2*bs)):=rfl
 have hF: ∀x y:Val,F 469 [.vi 0,.vi (2*bs:Nat),.vl l,x,y,.vi n,.vi bs]=cA (0,[.vi (2*bs*(n/(2*bs)):Nat),.vi (2*bs*(n/(2*bs))+2*bs:Nat),.vl (eC (2*bs) l (n/(2*bs)))]):=λ_ _=>rfl
 have hq:2*bs*(n/(2*bs))<=n:=M4 n (2*bs);have hq2:n<2*bs*(n/(2*bs))+2*bs:=by
  have:=T8 n (show 0<2*bs by omega);omega
 generalize n/(2*bs)=q at it hp hF hq hq2;have e469:bZ aa EV=cA (0,[.vi (2*bs*q:Nat),.vi (2*bs*q+2*bs:Nat),.vl (eC (2*bs) l q)]):=by
  show aa.f 469 [.vi 0,.vi (cn .mul .i64 2 (aa.w 3000).toI),aa.w 3001,aa.w 1,aa.w 3001,aa.w 2,aa.w 3000]=_;simp_all
 have ea:bZ aa oZ= .vi (2*bs*q:Nat):=by show co (bZ aa EV).toL 1 0=_;rw[e469];rfl
 have el:bZ aa zP= .vl (eC (2*bs) l q):=by show co (bZ aa EV).toL 1 2=_;rw[e469];rfl
 have eb:bZ aa (za oZ aY)= .vi (2*bs*q+bs:Nat):=by
  show Val.vi (cn .add .i64 (bZ aa oZ).toI (aa.w 3000).toI)=_;rw[ea,v0,a09,a09,se (by omega)]
 rw[<-ae,dj9];refine cG (by show decide ((aa.w 3000).toI<(aa.w 2).toI)=true;simp_all) (Z5 (r:=(0,[.vi (2*bs*q:Nat),.vi (2*bs*q+2*bs:Nat),.vl (eC (2*bs) l q)])) ?_ e469 ?_)
 .show cO _ [.vi 0,.vi (cn .mul .i64 2 (aa.w 3000).toI),aa.w 3001]=_;simp_all
 .by_cases hc:2*bs*q+bs<n
  .refine cG (by show decide ((bZ aa (za oZ aY)).toI<(aa.w 2).toI)=true;rw[eb,u2];exact c9 (by show((2*bs*q+bs:Nat):Int)<(n:Int);omega)) (W8 ?_ ?_)
   .show(aa.f 426 [bZ aa zP,aa.w 1,bZ aa oZ,bZ aa (za oZ aY),aa.w 2,.vi 512]).toB=true;rw[hf',el,ea,eb,u2];have s1:=hb (2*q);rw[<-Nat.mul_assoc,K4 bs 2,B1 (by omega)]at s1;have s2:=hb (2*q+1);exact IN (Mi ho q) (by grind[pA]) u1 hn (by omega) hc (e9 _) (by omega) (by simp_all[zZ,e9]) (by grind[zZ])
   .show some (0,[Val.vi (cn .mul .i64 (aa.w 3000).toI 2),aa.f 425 [bZ aa zP,bZ aa oZ,aa.w 2]])=_;grind[a09,xl]
  .refine cE (by show decide ((bZ aa (za oZ aY)).toI<(aa.w 2).toI)=false;rw[eb,u2];exact i6 (by show¬((2*bs*q+bs:Nat):Int)<(n:Int);omega)) ?_;show some (0,[Val.vi (cn .mul .i64 (aa.w 3000).toI 2),bZ aa zP])=_;simp_all
theorem dY3(hf: ∀i a,I.f i a=F i a)(h1:(I.w 1).toI=n)(h2:I.w 2= .vi n)(hn:n<=400): ∀(f bs:Nat) (l:List Val),0<bs->n<=bs*2^f->l.length=n->l.all okK=true->Bk bs n l->
 Iter (λvs=>Z0 Gg (I.upd 3000 vs)) [.vi bs,.vl l] 0 [.vi (oq n f bs l).1,.vl (oq n f bs l).2]:=by
 have out: ∀(bs:Nat) (l:List Val),n<=bs->Z0 Gg (I.upd 3000 [.vi bs,.vl l])=some (1,[.vi bs,.vl l]):=λbs l h=>by
  refine cE ?_ rfl;show decide ((bs:Int)<(I.w 2).toI)=false;simp_all
 intro f;induction f with
 |zero=>
  intro bs l h0 hb hl ho hbk;exact .out (out bs l (by omega))
 |succ f ih=>
  intro bs l h0 hb hl ho hbk;rw[oq];by_cases h:bs<n
  .rw[e8 h];obtain⟨p1,p2,p3⟩:=YS h0 hl hbk;exact .more (dk0 hf h1 h2 h0 h hl ho hn hbk) (ih (2*bs) _ (by omega) (by grind) (by rw[p3.length_eq];exact hl) (xi ho p3) p1)
  .rw[b9 h];exact .out (out bs l (by omega))
theorem t_stab(hf: ∀i a,I.f i a=F i a)(hn:(F 428 [I.w 0,I.w 1,I.w 2]).toB=true):Z0 cW2 I=some (0,[F 425 [I.w 0,.vi 0,I.w 2]]):=by
 obtain⟨ho,hd⟩:=Z1 (show(np (I.w 0) (I.w 1)&&(tO (I.w 2)&&decide ((I.w 2).toI=(I.w 1).toI)))=true from hn);obtain⟨i2,hd⟩:=Z1 hd;obtain⟨e0,oa,h1,hl⟩:=FJ ho;have q1:=j5 hd;generalize hL:(I.w 0).toL=l at e0 oa h1 hl;obtain⟨n,hnn⟩: ∃n,l.length=n:=⟨_,rfl⟩;rw[hnn]at h1 hl;have w2:I.w 2= .vi n:=(IS i2).trans (congrArg Val.vi (q1.trans h1));have h2:(I.w 2).toI=n:=q1.trans h1;have hq:=M4 n 20;have e467:bZ I HG=cA (0,[.vi (20*(n/20):Nat),.vi (20*(n/20)+20:Nat),.vl (eC 20 l (n/20))]):=by
  show I.f 467 [.vi 0,.vi 20,I.w 0,I.w 1,I.w 0,I.w 2]=_;rw[hf,e0,w2];rfl
 have d1:bZ I Eg= .vl (eC 20 l (n/20)):=by show co (bZ I HG).toL 1 2=_;rw[e467];rfl
 have d2:bZ I Gp= .vi (20*(n/20):Nat):=by show co (bZ I HG).toL 1 0=_;rw[e467];rfl
 have d3:bZ I sr= .vl (dD false (eC 20 l (n/20)) (20*(n/20)) n):=by
  show I.f 425 [bZ I Eg,bZ I Gp,I.w 2]=_;rw[hf,d1,d2,w2,xl rfl rfl]
 have bk:=cz4 hnn;have pm:(dD false (eC 20 l (n/20)) (20*(n/20)) n).Perm l:=(Hx false hq).trans (FM _ _ _);have cl:Cl false (dD false (eC 20 l (n/20)) (20*(n/20)) n) l:=(SR false hq).trans (Je _ _ _);have bl:=pA 20 l (n/20);have ba:=Mi (B:=20) oa (n/20);generalize dD false (eC 20 l (n/20)) (20*(n/20)) n=L at d3 bk pm cl;have hres:=c00 9 20 L (by omega) (by omega) (by rw[pm.length_eq];exact hnn) bk;rw[srt_cl cl]at hres;have e468:I.f 468 [.vi 20,bZ I sr,I.w 1,bZ I sr,I.w 2]=cA (0,[.vi (oq n 9 20 L).1,.vl (oq n 9 20 L).2]):=by
  rw[hf,d3,w2];rfl
 have hF:F 425 [I.w 0,.vi 0,I.w 2]= .vl (srt false l):=by
  rw[e0,w2,show Val.vi 0= .vi ((0:Nat):Int)from rfl,xl rfl rfl,<-hnn,bV2]
 rw[hF];refine Z5 (r:=(0,[.vi (20*(n/20):Nat),.vi (20*(n/20)+20:Nat),.vl (eC 20 l (n/20))])) ?_ e467 (W8 ?_ ?_)
 .show cO _ [.vi 0,.vi 20,I.w 0]=_;grind[dY1]
 .show(I.f 424 [bZ I Eg,I.w 1,bZ I Gp,I.w 2]).toB=true;rw[hf,d1,d2];exact cz6 ba (bl.trans hnn) h1 hl rfl h2 hq (e9 _)
 .refine Z5 (r:=(0,[.vi (oq n 9 20 L).1,.vl (oq n 9 20 L).2])) ?_ e468 ?_
  .show cO _ [.vi 20,bZ I sr]=_;rw[d3,nJ];exact dY3 hf h1 w2 hl 9 20 L (by omega) (by omega) (by rw[pm.length_eq];exact hnn) (xi oa pm) bk
  .show some (0,[co (I.f 468 [.vi 20,bZ I sr,I.w 1,bZ I sr,I.w 2]).toL 1 1])=_;rw[e468,hres];rfl
end Go.Ev.S7
namespace Go.Ev.S7
open Go Go.Ev
variable{I:Opq}
theorem t_cmpR:Z0 Kn I=some (0,[F 206 [I.w 0,I.w 1,I.w 2,I.w 7,I.w 8,I.w 9]]):=by
 show Z0 Kn I=some (0,[Val.vi (Gv ⟨(I.w 0).toS,(I.w 1).toI,(I.w 2).toI⟩ ⟨(I.w 7).toS,(I.w 8).toI,(I.w 9).toI⟩)]);simp[Kn,Mv,sL,tj,MW,Z0,ck,bZ,dB,cK,xB,yH,Tp,ak3,a99,ar0,show∀a b,qE .lss a b=kO a b fromλ_ _=>rfl,show∀a b,qE .gtr a b=kO b a fromλ_ _=>rfl,Gv,decide_eq_true_eq,a09];grind
theorem f431{v:Val}(h:(F 431 [v]).toB=true):v= .vl v.toL/\v.toL.all okK=true:=by
 obtain⟨h1,h2⟩:=Z1 (show(isL v&&v.toL.all okK)=true from h);grind[isL_at]
theorem t_sstab(hf: ∀i a,I.f i a=F i a)(hn:(I.w 0).toL.length<=400)(h:(F 431 [I.w 0]).toB=true):Z0 YT I=some (0,[F 425 [I.w 0,.vi 0,.vi (I.w 0).toL.length]]):=by
 obtain⟨e,ho⟩:=f431 h;refine W8 ?_ ?_
 .show(I.f 428 [I.w 0,.vi (I.w 0).toL.length,.vi (I.w 0).toL.length]).toB=true;rw[hf];refine and2 ?_ (and2 rfl (c9 rfl));rw[e];exact Ii ho rfl rfl hn
 .show some (0,[I.f 425 [I.w 0,.vi 0,.vi (I.w 0).toL.length]])=_;rw[hf]
theorem cP7(v:Val):F 425 [v,.vi 0,.vi v.toL.length]= .vl (srt false v.toL):=by
 show Val.vl (dD false v.toL 0 (nt (.vi v.toL.length)))=_;grind[nt,dX8,bV2]
theorem t_aggSort(hf: ∀i a,I.f i a=F i a)(hn:(I.w 0).toL.length<=400)(h:(F 431 [I.w 0]).toB=true):Z0 Wv I=some (0,[F 490 [I.w 0]]):=by
 have e1:bZ I (.app 425 [aN,aM,zl 0])= .vl (srt false (I.w 0).toL):=by
  show I.f 425 [I.w 0,.vi 0,.vi (I.w 0).toL.length]=_;rw[hf,cP7]
 refine W8 ?_ (W8 ?_ ?_)
 .show(decide (((I.w 0).toL.length:Int)<=400)&&(I.f 431 [I.w 0]).toB)=true;grind
 .show decide (((I.w 0).toL.length:Int)=((bZ I (.app 425 [aN,aM,zl 0])).toL.length:Int))=true;rw[e1];exact c9 (by show((I.w 0).toL.length:Int)=((srt false (I.w 0).toL).length:Int);rw[srt_len])
 .show some (0,[bZ I (.app 425 [aN,aM,zl 0])])=_;rw[e1];rfl
theorem t_cloneR(hf: ∀i a,I.f i a=F i a)(hn:(I.w 0).toL.length<=400)(h:(F 431 [I.w 0]).toB=true):Z0 LY I=some (0,[I.w 0]):=by
 obtain⟨e,ho⟩:=f431 h;have hb:decide (((I.w 0).toL.length:Int)<=1000000)=true:=c9 (by omega);by_cases h0:0<(I.w 0).toL.length
 .have h1:decide ((0:Int)<((I.w 0).toL.length:Int))=true:=c9 (by omega);simp[LY,Lf,Z0,ck,bZ,dB,cK,h1,hb,h0,ak3,a99,ad7,show(I.w 0).toL.length<=1000000 by omega]
 .have h2:(I.w 0).toL=[]:=B4.1 (by omega);have h3:I.w 0= .vl []:=by rw[e,h2]
  simp[LY,Lf,Z0,ck,bZ,dB,cK,h3,ak3,a99,ad7]
end Go.Ev.S7
namespace Go.Ev
open Go
def FO:VT:= .ite (zt aY 0) (.need (zn (zp (zm aY aZ)) (zs (zm aY aZ) (zL (zc aW (.op .row [zv 0 2001]))))) (.need (zs (zm aY aZ) (zl 3001)) (.need (zn (zp aY) (zs aY (zL (zc aW (.op .row [zv 0 2001]))))) (.need (zs aY (zl 3001)) (.ite (.op (.scmp .neq) [cj bc (zm aY aZ) 0,zg 3001 3000 0]) (.ite (.op (.scmp .lss) [cj bc (zm aY aZ) 0,zg 3001 3000 0]) (.ret 1 [aY,bc]) (.need (zs aY (zL (.op .lset [bc,zm aY aZ,zv 3001 3000]))) (.ret 0 [zm aY aZ,.op .lset [.op .lset [bc,zm aY aZ,zv 3001 3000],aY,.op .row [cj bc (zm aY aZ) 0,cj bc (zm aY aZ) 1,cj bc (zm aY aZ) 2,cj bc (zm aY aZ) 3,cj bc (zm aY aZ) 4,cj bc (zm aY aZ) 5,cj bc (zm aY aZ) 6]]]))) (.ite (cZ (cj bc (zm aY aZ) 2) (zg 3001 3000 2)) (.ite (zs (cj bc (zm aY aZ) 2) (zg 3001 3000 2)) (.ret 1 [aY,bc]) (.need (zs aY (zL (.op .lset [bc,zm aY aZ,zv 3001 3000]))) (.ret 0 [zm aY aZ,.op .lset [.op .lset [bc,zm aY aZ,zv 3001 3000],aY,.op .row [cj bc (zm aY aZ) 0,cj bc (zm aY aZ) 1,cj bc (zm aY aZ) 2,cj bc (zm aY aZ) 3,cj bc (zm aY aZ) 4,cj bc (zm aY aZ) 5,cj bc (zm aY aZ) 6]]]))) (.ite (zs (cj bc (zm aY aZ) 1) (zg 3001 3000 1)) (.ret 1 [aY,bc]) (.ite (fV (cj bc (zm aY aZ) 1) (zg 3001 3000 1)) (.need (zs aY (zL (.op .lset [bc,zm aY aZ,zv 3001 3000]))) (.ret 0 [zm aY aZ,.op .lset [.op .lset [bc,zm aY aZ,zv 3001 3000],aY,.op .row [cj bc (zm aY aZ) 0,cj bc (zm aY aZ) 1,cj bc (zm aY aZ) 2,cj bc (zm aY aZ) 3,cj bc (zm aY aZ) 4,cj bc (zm aY aZ) 5,cj bc (zm aY aZ) 6]]])) (.ret 1 [aY,bc]))))))))) (.ret 1 [aY,bc])
def e85:VT:= .ite (zs aR (zl 0)) (.need (zp aR) (.need (zn (cJ aV (zl 2002)) (zb (zL (zc aW (.op .row [zv 0 2001]))) 1000000)) (.loop ⟨481,[aR,zc aW (.op .row [zv 0 2001])],3000,[aM,zl 0,aN,zL (zc aW (.op .row [zv 0 2001])),zc aW (.op .row [zv 0 2001]),aR]⟩ FO [.need (cJ (zL (zc aW (.op .row [zv 0 2001]))) (zL (zo (.app 481 [aR,zc aW (.op .row [zv 0 2001]),aM,zl 0,aN,zL (zc aW (.op .row [zv 0 2001])),zc aW (.op .row [zv 0 2001]),aR]) 1))) (.ret 0 [zL (zo (.app 481 [aR,zc aW (.op .row [zv 0 2001]),aM,zl 0,aN,zL (zc aW (.op .row [zv 0 2001])),zc aW (.op .row [zv 0 2001]),aR]) 1),zi aR,zo (.app 481 [aR,zc aW (.op .row [zv 0 2001]),aM,zl 0,aN,zL (zc aW (.op .row [zv 0 2001])),zc aW (.op .row [zv 0 2001]),aR]) 1])]))) (.ret 1 [aV,aR,aW])
def AL:SX:= .app 480 [zL cu,aM,cu,aM,zl 0,aN]
def EK:SX:= zo AL 2
def cz7:VT:= .loop ⟨480,[zL cu,aM,cu],2000,[aM,zl 0,aN]⟩ e85 [.need (cJ (zo AL 0) (zL EK)) (.ret 0 [EK])]
end Go.Ev
namespace Go.Ev.S7
open Go Go.Ev
def ng:SX:= zc aW (.op .row [zv 0 2001])
def RN:SX:= .app 481 [aR,ng,aM,zl 0,aN,zL ng,ng,aR]
def xw:SX:= zo RN 1
theorem cz8:e85= .ite (zs aR (zl 0)) (.need (zp aR) (.need (zn (cJ aV (zl 2002)) (zb (zL ng) 1000000)) (.loop ⟨481,[aR,ng],3000,[aM,zl 0,aN,zL ng,ng,aR]⟩ FO [.need (cJ (zL ng) (zL xw)) (.ret 0 [zL xw,zi aR,xw])]))) (.ret 1 [aV,aR,aW]):=rfl
theorem cP8(B A:Val):cS false B A=if(Z7 A 0).toS=(Z7 B 0).toS then decide ((Z7 B 2).toI<(Z7 A 2).toI)||decide ((Z7 B 2).toI=(Z7 A 2).toI)&&decide ((Z7 B 1).toI<(Z7 A 1).toI)else !kO (Z7 A 0).toS (Z7 B 0).toS:=by
 have h0:cS false B A=(kO (Z7 B 0).toS (Z7 A 0).toS||decide ((Z7 B 0).toS=(Z7 A 0).toS)&&(decide ((Z7 B 2).toI<(Z7 A 2).toI)||decide ((Z7 B 2).toI=(Z7 A 2).toI)&&decide ((Z7 B 1).toI<(Z7 A 1).toI))):=rfl;rw[h0];generalize (Z7 A 0).toS=ka;generalize (Z7 B 0).toS=kb;by_cases h:ka=kb
 .subst h;rw[e8 rfl,show kO ka ka=false from Kx ka,c9 rfl];simp
 .rw[b9 h,i6 (λe=>h e.symm),G2,R7];cases h1:kO ka kb with
  |true=>
   rw[E9,<-B6];intro h2;have:=UB (show ij ka kb=true from h1) (show ij kb ka=true from h2);rw[Kx]at this;cases this
  |false=>
   cases h2:kO kb ka with
   |true=>rfl
   |false=>exact absurd (Lv (show ij ka kb=false from h1) (show ij kb ka=false from h2)) h
theorem dk2{I:Opq}{N k:Nat}{M:List Val}(hc:(I.w 2002).toL.length+1=N)(hM:M.length=N)(ho:M.all okK=true)(hk:k+1<N)(hN:N<=1000):
 Z0 FO (I.upd 3000 [.vi (k+1:Nat),.vl M])=some (if cS false (cg M (k+1)) (cg M k)then(0,[.vi k,.vl (jq M (k+1) k)])else(1,[.vi (k+1:Nat),.vl M])):=by
 have e1:=YN (K:=k+1) (k:=k) rfl (by omega);have p0:(0:Int)<((k+1:Nat):Int):=by omega
 have p1:(0:Int)<=(k:Int):=by omega
 have p2:(k:Int)<N:=by omega
 have p3:(0:Int)<=((k+1:Nat):Int):=by omega
 have p4:((k+1:Nat):Int)<N:=by omega
 have hsw:(M.set k (cQ (cg M (k+1)))).set (k+1) (cQ (cg M k))=jq M (k+1) k:=by
  rw[Mc ho (by omega),Mc ho (by omega),Rv (by omega)];rfl
 rw[cP8];unfold FO;simp only[Z0,ck,bZ,dB,cK,cN,Nat.reduceLeDiff,Nat.reduceSub,if_true,if_false,C6,C7,a09,a65,ak3,e1,a99,ad7,ar0,bW0,bW1,show∀a b,qE .lss a b=kO a b fromλ_ _=>rfl,p0,p1,p2,p3,p4,decide_true,E5,k5,List.length_cons,List.length_nil,m9,hc,hM,D8,pw,pD,pJ,uU,um,uP,uw,HX,Int.toNat_natCast,hsw];grind
theorem dE4{I:Opq}{N:Nat}(hc:(I.w 2002).toL.length+1=N)(hN:N<=1000): ∀(k:Nat) (M:List Val),k<N->M.length=N->M.all okK=true->
 Iter (λvs=>Z0 FO (I.upd 3000 vs)) [.vi k,.vl M] 0 [.vi (bubA false 0 M k).1,.vl (bubA false 0 M k).2]
 |0,M,hk,hM,ho=>by
  refine .out ?_;rfl
 |k+1,M,hk,hM,ho=>by
  have hs:=dk2 (I:=I) hc hM ho hk hN;unfold bubA;rw[m9];cases h:cS false (cg M (k+1)) (cg M k)with
  |true=>
   rw[h,e8 rfl]at hs;exact .more hs (dE4 hc hN k _ (by omega) (by grind[Gm]) (Ey ho (by omega) (by omega)))
  |false=>
   rw[h,b9 (by simp)]at hs;exact .out hs
theorem cP9{l:List Val}(h:l.all okK=true):l.map cQ=l:=by
 have: ∀x∈l,cQ x=id x:=λx hx=>okK_at (k8.1 h x hx)
 rw[s9 this,G5]
theorem dk3(l:List Val){i:Nat}(hi:i<l.length):(bubA false 0 (srt false (l.take i)++[cg l i]) i).2=srt false (l.take (i+1)):=by
 have hl:(nK false (l.take i)).length=i:=by
  have:=srt_len false (l.take i);unfold srt at this;rw[V5,l5]at this;omega
 have:=OM false (cg l i) (P:=[]) (a:=0) rfl (nK false (l.take i)) [];rw[hl,List.nil_append,List.nil_append,s8]at this;unfold srt;rw[this,show l.take (i+1)=l.take i++[cg l i] by rw[O7,show l[i]?.toList=[cg l i] by simp[cg,j8,hi]],Yu]
theorem t_sort5{I:Opq}(hf: ∀i a,I.f i a=F i a)(hn:(I.w 0).toL.length<=400)(h:(F 431 [I.w 0]).toB=true):Z0 cz7 I=some (0,[F 490 [I.w 0]]):=by
 obtain⟨e,ho⟩:=f431 h;generalize hL:(I.w 0).toL=l at e ho hn;have e480:bZ I AL=cA (0,[.vi l.length,.vi l.length,.vl (srt false l)]):=by
  show I.f 480 [.vi (0:Nat),.vi 0,.vl [],.vi 0,.vi (I.w 0).toL.length,I.w 0]=_;rw[hf];show cA (0,[.vi (I.w 0).toL.length,.vi (I.w 0).toL.length,.vl (srt false ((I.w 0).toL.map cQ))])=_;rw[hL,cP9 ho]
 have d0:bZ I (zo AL 0)= .vi l.length:=by show co (bZ I AL).toL 1 0=_;rw[e480];rfl
 have d1:bZ I EK= .vl (srt false l):=by show co (bZ I AL).toL 1 2=_;rw[e480];rfl
 have hF:F 490 [I.w 0]= .vl (srt false l):=by show Val.vl (srt false (I.w 0).toL)=_;rw[hL]
 rw[hF];refine Z5 (r:=(0,[.vi l.length,.vi l.length,.vl (srt false l)])) ?_ e480 (W8 ?_ ?_)
 .refine zO (λi=>[.vi i,.vi i,.vl (srt false (l.take i))]) (n:=l.length) rfl (λi hi=> ?_) ?_
  .have tl:(srt false (l.take i)).length=i:=by grind[srt_len,List.length_take]
   have ta:(srt false (l.take i)).all okK=true:=xi (k8.2 λv hv=>k8.1 ho v (I0 hv)) (srt_perm false _);have hb:=dk3 l hi;have hbl:(srt false (l.take (i+1))).length=i+1:=by grind[srt_len,List.length_take]
   generalize srt false (l.take i)=M0 at tl ta hb⊢;obtain⟨aa,ae⟩: ∃aa,aa=I.upd 2000 [.vi i,.vi i,.vl M0]:=⟨_,rfl⟩;have v0:aa.w 2000= .vi i:=by rw[ae];rfl
   have v1:aa.w 2001= .vi i:=by rw[ae];rfl
   have v2:aa.w 2002= .vl M0:=by rw[ae];rfl
   have u0:aa.w 0= .vl l:=by rw[ae];exact e
   have hf': ∀i a,aa.f i a=F i a:=by rw[ae];exact hf
   have xa:okK (cg l i)=true:=k8.1 ho _ (Ia hi);have dc:bZ aa ng= .vl (M0++[cg l i]):=by
    show Val.vl ((aa.w 2002).toL++[cQ (cg (aa.w 0).toL (aa.w 2001).toI.toNat)])=_;rw[v2,u0,v1];show Val.vl (M0++[cQ (cg l i)])=_;rw[okK_at xa]
   have ml:(M0++[cg l i]).length=i+1:=by grind
   have ma:(M0++[cg l i]).all okK=true:=by grind
   have de:bZ aa RN=cA (0,[.vi (bubA false 0 (M0++[cg l i]) i).1,.vl (srt false (l.take (i+1)))]):=by
    show aa.f 481 [aa.w 2001,bZ aa ng,.vi 0,.vi (aa.w 0).toL.length,aa.w 0,.vi (bZ aa ng).toL.length,bZ aa ng,aa.w 2001]=_;rw[hf',dc,v1];show cA (0,[.vi (bubA false 0 (M0++[cg l i]) i).1,.vl (bubA false 0 (M0++[cg l i]) i).2])=_;rw[hb]
   have df:bZ aa xw= .vl (srt false (l.take (i+1))):=by show co (bZ aa RN).toL 1 1=_;rw[de];rfl
   rw[<-ae,cz8];refine cG (by show decide ((aa.w 2001).toI<((aa.w 0).toL.length:Int))=true;simp_all) (W8 (by show decide ((0:Int)<=(aa.w 2001).toI)=true;simp_all) (W8 ?_ (Z5 (r:=(0,[.vi (bubA false 0 (M0++[cg l i]) i).1,.vl (srt false (l.take (i+1)))])) ?_ de (W8 ?_ ?_))))
   .show(decide ((aa.w 2000).toI=((aa.w 2002).toL.length:Int))&&decide (((bZ aa ng).toL.length:Int)<=1000000))=true;rw[v0,v2,dc];exact and2 (c9 (by simp_all)) (c9 (by show((M0++[cg l i]).length:Int)<=1000000;omega))
   .show cO _ [aa.w 2001,bZ aa ng]=_;rw[v1,dc,nJ,<-hb];exact dE4 (N:=i+1) (by simp_all) (by omega) i _ (by omega) ml ma
   .show decide (((bZ aa ng).toL.length:Int)=((bZ aa xw).toL.length:Int))=true;simp_all
   .show some (0,[Val.vi ((bZ aa xw).toL.length:Int),Val.vi (cn .add .i64 (aa.w 2001).toI 1),bZ aa xw])=_;rw[df,v1,a09,wR (by omega)];simp_all
  .rw[cz8,A8];refine cE ?_ rfl;show decide ((l.length:Int)<((I.w 0).toL.length:Int))=false;grind
 .show decide ((bZ I (zo AL 0)).toI=((bZ I EK).toL.length:Int))=true;rw[d0,d1];exact c9 (by show(l.length:Int)=((srt false l).length:Int);rw[srt_len])
 .show some (0,[bZ I EK])=_;rw[d1]
end Go.Ev.S7
