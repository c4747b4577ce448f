import Derived.Test.YtpmabjilbokleaaGreatEG1
import Derived.Test.YtpmabjilbokleaaGreatEM1
import Derived.Test.YtpmabjilbokleaaGreatEP21
set_option linter.unusedSimpArgs false
set_option linter.unusedVariables false
namespace Go.Ev
open Go
@[simp]theorem S6(n:Int):(Val.vi n).toI=n:=rfl
@[simp]theorem dt5(n:List UInt8):(Val.vs n).toS=n:=rfl
@[simp]theorem ad7(n:Bool):(Val.vb n).toB=n:=rfl
@[simp]theorem af3(n:List Val):(Val.vl n).toL=n:=rfl
structure ChgM where
 key:List UInt8
 a:Int
 b:Int
 dead:Bool
 c:Int
 d:Int
 e:Int
 f:Int
 deriving DecidableEq
def Pw(a:List Val)(i:Nat):PaneM:=⟨(aN a i).toS,(aN a (i+1)).toI,(aN a (i+2)).toI⟩
noncomputable def F0(id:Nat)(a:List Val):Val:=match id with
 |3=> .vb (CA (Hs (aN a 0)) (Hs (aN a 1)))
 |206=> .vi (Bw (Pw a 0) (Pw a 3))
 |107=>Ey jP (aN a 4).toL (aN a 7).toL
 |491=> .vb (decide (((aN a 0).toL.map R8).Nodup))
 |480=>V0 (0,[.vi (aN a 5).toL.length,.vi (aN a 5).toL.length,.vl (S7.srt false ((aN a 5).toL.map W3))])
 |481=>V0 (0,[.vi (S7.bubA false 0 (aN a 1).toL (aN a 0).toI.toNat).1,.vl (S7.bubA false 0 (aN a 1).toL (aN a 0).toI.toNat).2])
 |i=>S7.GX i a
noncomputable def F:Nat->List Val->Val:=S9.FT (S9.FE F0)
theorem GY(x:Val)(l:List Val):aN (x::l) 0=x:=rfl
theorem EK(x:Val)(l:List Val)(n:Nat):aN (x::l) (n+1)=aN l n:=rfl
theorem cp(I:Opq)(v0:Nat)(l:List Val):(I.upd v0 l).f=I.f:=rfl
theorem T1(I:Opq)(v0:Nat)(l:List Val)(n:Nat):(I.upd v0 l).w n=if v0<=n then l.getD (n-v0) (.vb false)else I.w n:=rfl
@[simp]theorem cM3{i:Nat}(h:i<=10000000):aS .add .i64 (i:Int) 1=((i+1:Nat):Int):=bZ7 h
@[simp]theorem a21(a b:Int):dA .lss a b=decide (a<b):=rfl
@[simp]theorem a60(a b:Int):dA .leq a b=decide (a<=b):=rfl
@[simp]theorem aj4(a b:Int):dA .gtr a b=decide (b<a):=rfl
@[simp]theorem cI0(a b:Int):dA .geq a b=decide (b<=a):=rfl
@[simp]theorem cI1(a b:Int):dA .eql a b=decide (a=b):=rfl
@[simp]theorem bP7(a b:Int):dA .neq a b= !decide (a=b):=rfl
@[simp]theorem cI2(a b:List UInt8):np .eql a b=decide (a=b):=rfl
@[simp]theorem bP8(a b:List UInt8):np .neq a b= !decide (a=b):=rfl
theorem cu0{α:Type} [DecidableEq α](m:Val->α)(l r:List Val)(h:l.length=r.length):((List.range l.length).any λi=> !decide (m (aO l i)=m (aO r i)))= !decide (l.map m=r.map m):=WO m (.vl []) l r h
theorem bs2{α:Type} [DecidableEq α](m:Val->α)(l r:List Val)(h:l.length=r.length)(px:Nat->List Val)(x:Val):fA x px (λi=> !decide (m (aO l i)=m (aO r i))) l.length=if l.map m=r.map m then(0,[x,.vi l.length])else(1,px (((List.range l.length).find? (λi=> !decide (m (aO l i)=m (aO r i)))).getD 0)):=by
 grind[GU,cu0]
theorem bT1{α:Type} [DecidableEq α](m:Val->α)(l r:List Val)(h:l.length=r.length):Ey m l r=V0 (if l.map m=r.map m then(0,[.vb false,.vi l.length])else(1,[.vb false,.vi (((List.range l.length).find? (λi=> !decide (m (aO l i)=m (aO r i)))).getD 0)])):=by
 grind[Ey,bs2]
theorem dz1{α:Type}(m:Val->α){l r:List Val}(h:l.length≠r.length): ¬l.map m=r.map m:=λe=>h (by simpa using congrArg List.length e)
theorem UX(a b:Val):jP a=jP b↔((S1 a 0).toS=(S1 b 0).toS/\(S1 a 1).toI=(S1 b 1).toI/\(S1 a 2).toI=(S1 b 2).toI)/\(S1 a 3).toI=(S1 b 3).toI/\(S1 a 4).toI=(S1 b 4).toI/\(S1 a 5).toI=(S1 b 5).toI/\(S1 a 6).toI=(S1 b 6).toI:=by
 grind[jP,RowM.mk.injEq]
theorem oi(l:List Val)(i:Nat):S0 l (i:Int) 0=S1 (aO l i) 0:=rfl
theorem oq(l:List Val)(i:Nat):S0 l (i:Int) 1=S1 (aO l i) 1:=rfl
theorem oO(l:List Val)(i:Nat):S0 l (i:Int) 2=S1 (aO l i) 2:=rfl
theorem uM(l:List Val)(i:Nat):S0 l (i:Int) 3=S1 (aO l i) 3:=rfl
theorem we(l:List Val)(i:Nat):S0 l (i:Int) 4=S1 (aO l i) 4:=rfl
theorem sY(l:List Val)(i:Nat):S0 l (i:Int) 5=S1 (aO l i) 5:=rfl
theorem uK(l:List Val)(i:Nat):S0 l (i:Int) 6=S1 (aO l i) 6:=rfl
end Go.Ev
namespace Go.Ev.S7
open Go Go.Ev
theorem iF{x:Int}(h: -9223372036854775808<=x)(h2:x<9223372036854775808):IntKind.i64.wrap x=x:=by
 grind[IntKind.wrap,IntKind.bits,IntKind.signed]
theorem cV{x y:Int}(h: -9223372036854775808<=x+y)(h2:x+y<9223372036854775808):aS .add .i64 x y=x+y:=iF h h2
theorem gv{x y:Int}(h: -9223372036854775808<=x-y)(h2:x-y<9223372036854775808):aS .sub .i64 x y=x-y:=iF h h2
theorem R3{I:Opq}{e:SX}{x:VT}{r:Option (Nat×List Val)}(h:dB I e=true)(h2:R0 x I=r):R0 (.need e x) I=r:=by rw[R0.eq_3,e8 h,h2]
theorem S3{I:Opq}{e:SX}{x y:VT}{r:Option (Nat×List Val)}(h:dB I e=true)(h2:R0 x I=r):R0 (.ite e x y) I=r:=by rw[R0.eq_2,e8 h,h2]
theorem S4{I:Opq}{e:SX}{x y:VT}{r:Option (Nat×List Val)}(h:dB I e=false)(h2:R0 y I=r):R0 (.ite e x y) I=r:=by simp_all[R0.eq_2,b9]
theorem and2{a b:Bool}(h:a=true)(h2:b=true):(a&&b)=true:=by grind
theorem Yi{K k:Nat}(h:K=k+1)(h2:K<=10000000):aS .sub .i64 (K:Int) 1=(k:Int):=by
 grind[gv]
theorem R4{hd:LHd}{body:VT}{ks:List VT}{I:Opq}{r:Nat×List Val}{out:Option (Nat×List Val)}(h1:S5 (λvs=>R0 body (I.upd hd.v0 vs)) (R7 I hd.s0)=some r)(h2:I.f hd.id (R7 I (hd.s0++hd.fv))=V0 r)(h3:mF ks r.1 I=out):R0 (.loop hd body ks) I=out:=by
 simp_all[R0.eq_5,e8]
theorem Aw(r:Val):Val.vl [S1 r 0,S1 r 1,S1 r 2,S1 r 3,S1 r 4,S1 r 5,S1 r 6]=W3 r:=rfl
theorem sk{step:List Val->Option (Nat×List Val)}{n j:Nat}(st:Nat->List Val){s0 p:List Val}(h0:s0=st 0)(h1: ∀i,i<n->step (st i)=some (0,st (i+1)))(h2:step (st n)=some (j+1,p)):S5 step s0=some (j,p):=by
 rw[h0];exact V9 h1 h2
end Go.Ev.S7
namespace Go.Ev.S7
open Go Go.Ev
theorem nN{x y:Nat}(h:x+y<=1000000):aS .add .i64 (x:Int) (y:Int)=((x+y:Nat):Int):=by
 grind[cV]
theorem iU{x y:Nat}(h:y<=x)(h2:x<=1000000):aS .sub .i64 (x:Int) (y:Int)=((x-y:Nat):Int):=by
 grind[gv]
theorem AL{x:Nat}(h:1<=x)(h2:x<=1000000):aS .sub .i64 (x:Int) 1=((x-1:Nat):Int):=by
 grind[gv]
theorem qD{x:Nat}(h2:x<=1000000):aS .add .i64 (x:Int) 1=((x+1:Nat):Int):=by
 grind[cV]
theorem nr{v:Val}(h:0<=v.toI):v.toI=(nt v:Int):=by grind[nt]
theorem dR2(n:Nat):nt (.vi n)=n:=rfl
theorem GK{l:List Val}(h:l.all okK=true){k:Nat}(hk:k<l.length):W3 (aO l k)=aO l k:=okK_at (k6.1 h _ (Co hk))
theorem tY{l q:List Val}{f:Val->Bool}(h:l.all f=true)(hp:q.Perm l):q.all f=true:=k6.2 λv hv=>k6.1 h v (hp.mem_iff.1 hv)
theorem DC{l:List Val}{i j:Nat}(h:l.all okK=true)(hi:i<l.length)(hj:j<l.length):(eX l i j).all okK=true:=by
 rw[k6]at h⊢;intro v hv;unfold eX at hv;grind[List.mem_or_eq_of_mem_set,Co]
theorem EJ{l:List Val}(h:l.all okK=true){i j:Nat}(hi:i<l.length)(hj:j<l.length):(l.set i (W3 (aO l j))).set j (W3 (aO l i))=eX l i j:=by
 rw[GK h hi,GK h hj];rfl
theorem yG{l:List Val}{a b:Nat}(h:l.all okK=true): ∀n,a+n<=l.length->b+n<=l.length->(gj l a b n).all okK=true
 |0,_,_=>h
 |n+1,h1,h2=>DC (yG h n (by omega) (by omega)) (by rw[qX];omega) (by rw[qX];omega)
theorem dc9{I:Opq}{a b n N i:Nat}(h7:(I.w 2).toI=a)(h8:(I.w 3).toI=b)(h9:(I.w 4).toI=n)(h6:(I.w 1).toI=N)(hi:i<n)(h1:a+n<=b)(h2:b+n<=N)(hN:N<=400){M:List Val}(hM:M.length=N)(ho:M.all okK=true):
 R0 EI (I.upd 2000 [.vi i,.vl M])=some (0,[.vi (i+1:Nat),.vl (eX M (a+i) (b+i))]):=by
 have e1:=nN (x:=a) (y:=i) (by omega);have e2:=nN (x:=b) (y:=i) (by omega);have e3:=qD (x:=i) (by omega);have p1:(i:Int)<n:=by omega
 have p2:(0:Int)<=((b+i:Nat):Int):=by omega
 have p3:((b+i:Nat):Int)<N:=by omega
 have p4:(0:Int)<=((a+i:Nat):Int):=by omega
 have p5:((a+i:Nat):Int)<N:=by omega
 rw[<-EJ ho (by omega) (by omega)];unfold EI;simp only[R0,R7,aM,dB,W7,T1,Nat.reduceLeDiff,Nat.reduceSub,if_true,if_false,B7,B8,S6,af3,ad7,h7,h8,h9,h6,e1,e2,e3,a21,a60,p1,p2,p3,p4,p5,decide_true,C3,hM,C1,oi,oq,oO,uM,we,sY,uK,Aw,Int.toNat_natCast]
theorem t_swapR{I:Opq}(hf: ∀i a,I.f i a=F i a)(hn:(F 420 [I.w 0,I.w 1,I.w 2,I.w 3,I.w 4]).toB=true):R0 RN I=some (0,[F 421 [I.w 0,I.w 2,I.w 3,I.w 4]]):=by
 obtain⟨ho,hd⟩:=Q8 (show(ir (I.w 0) (I.w 1)&&decide (0<=(I.w 2).toI/\0<=(I.w 4).toI/\(I.w 2).toI+(I.w 4).toI<=(I.w 3).toI/\(I.w 3).toI+(I.w 4).toI<=(I.w 1).toI))=true from hn);obtain⟨e5,oa,h6,hl⟩:=zI ho;obtain⟨q1,q2,q3,q4⟩:=j6 hd;have h7:=nr q1;have h9:=nr q2;have h8:=nr (show 0<=(I.w 3).toI by omega);have hF2: ∀a c d:Val,F 452 [a,I.w 0,c,d,I.w 2,I.w 3,I.w 4]=V0 (0,[.vi (nt (I.w 4)),.vl (gj (I.w 0).toL (nt (I.w 2)) (nt (I.w 3)) (nt (I.w 4)))]):=λ_ _ _=>rfl
 refine R4 (r:=(0,[.vi (nt (I.w 4)),.vl (gj (I.w 0).toL (nt (I.w 2)) (nt (I.w 3)) (nt (I.w 4)))])) ?_ ?_ ?_
 .refine sk (λi=>[.vi i,.vl (gj (I.w 0).toL (nt (I.w 2)) (nt (I.w 3)) i)]) (n:=nt (I.w 4)) (by rw[show R7 I [.ci 0,.va 0]=[.vi 0,I.w 0]from rfl,e5];rfl) (λi hi=> ?_) ?_
  .exact dc9 h7 h8 h9 h6 hi (by omega) (by omega) hl (qX ..) (yG oa i (by omega) (by omega))
  .unfold EI;have p1: ¬((nt (I.w 4):Nat):Int)<(I.w 4).toI:=by omega
   simp[R0,R7,aM,dB,W7,T1,Nat.reduceLeDiff,Nat.reduceSub,if_true,if_false,B7,B8,S6,af3,ad7,a21,p1,decide_false,n5]
 .show I.f 452 [.vi 0,I.w 0,I.w 1,I.w 0,I.w 2,I.w 3,I.w 4]=_;grind
 .show some (0,[S0 (I.f 452 [.vi 0,I.w 0,I.w 1,I.w 0,I.w 2,I.w 3,I.w 4]).toL 1 1])=_;rw[hf,hF2];rfl
theorem Ks(m N:Nat): ∀(n i j:Nat) (M:List Val),0<i->0<j->i<=m->m+j<=N->M.length=N->M.all okK=true->(fV m n i j M).2.all okK=true/\(fV m n i j M).2.length=N
 |0,i,j,M,_,_,_,_,hM,ho=>⟨ho,hM⟩
 |n+1,i,j,M,hi,hj,him,hjN,hM,ho=>by
  unfold fV;by_cases h1:i=j
  .grind
  .rw[b9 h1];by_cases h2:j<i
   .rw[e8 h2];exact Ks m N n (i-j) j _ (by omega) hj (by omega) hjN (by grind[qX]) (yG ho j (by omega) (by omega))
   .rw[b9 h2];exact Ks m N n i (j-i) _ hi (by omega) him (by omega) (by grind[qX]) (yG ho i (by omega) (by omega))
theorem BH{l:List Val}{n:Val}{N:Nat}(ho:l.all okK=true)(hl:l.length=N)(hn:n.toI=(N:Int))(hN:N<=400):ir (.vl l) n=true:=
 and2 rfl (and2 ho (and2 (e9 (by simp_all)) (e9 (by simp_all))))
theorem Bq{v:Val}{n:Nat}(h:v.toI=(n:Int)):nt v=n:=by grind[nt]
theorem LU{M:List Val}{n va vb vk:Val}{N a b k:Nat}(ho:M.all okK=true)(hM:M.length=N)(hn:n.toI=(N:Int))(hN:N<=400)(ha:va.toI=(a:Int))(hb:vb.toI=(b:Int))(hk:vk.toI=(k:Int))(h1:a+k<=b)(h2:b+k<=N):(F 420 [.vl M,n,va,vb,vk]).toB=true:=by
 show(ir (.vl M) n&&decide (0<=va.toI/\0<=vk.toI/\va.toI+vk.toI<=vb.toI/\vb.toI+vk.toI<=n.toI))=true;grind[and2,BH,decide_eq_true]
theorem QZ{M:List Val}{va vb vk:Val}{a b k:Nat}(ha:va.toI=(a:Int))(hb:vb.toI=(b:Int))(hk:vk.toI=(k:Int)):F 421 [.vl M,va,vb,vk]= .vl (gj M a b k):=by
 show Val.vl (gj M (nt va) (nt vb) (nt vk))=_;grind[Bq]
def pM:SX:= zm (.va 3) (.va 2000)
def zY:SX:= zm (za (.va 3) (.va 2001)) (.va 2000)
theorem Qy:LF= .ite (.op (.cmp .neq) [.va 2000,.va 2001]) (.ite (.op (.cmp .gtr) [.va 2000,.va 2001]) (.need (.app 420 [.va 2002,.va 1,pM,.va 3,.va 2001]) (.ret 0 [zm (.va 2000) (.va 2001),.va 2001,.app 421 [.va 2002,pM,.va 3,.va 2001]])) (.need (.app 420 [.va 2002,.va 1,pM,zY,.va 2000]) (.ret 0 [.va 2000,zm (.va 2001) (.va 2000),.app 421 [.va 2002,pM,zY,.va 2000]]))) (.ret 1 [.va 2000,.va 2001,.va 2002]):=rfl
theorem NP{I:Opq}(hf: ∀i a,I.f i a=F i a){m N:Nat}(h8:(I.w 3).toI=m)(h6:(I.w 1).toI=N)(hN:N<=400): ∀(n i j:Nat) (M:List Val),i+j<=n+1->0<i->0<j->i<=m->m+j<=N->M.length=N->M.all okK=true->
 Iter (λvs=>R0 LF (I.upd 2000 vs)) [.vi i,.vi j,.vl M] 0 [.vi (fV m n i j M).1,.vi (fV m n i j M).1,.vl (fV m n i j M).2]
 |0,i,j,M,hn,hi,hj,him,hjN,hM,ho=>by omega
 |n+1,i,j,M,hn,hi,hj,him,hjN,hM,ho=>by
  obtain⟨aa,ae⟩: ∃aa,aa=I.upd 2000 [.vi i,.vi j,.vl M]:=⟨_,rfl⟩;have v0:aa.w 2000= .vi i:=by rw[ae];rfl
  have v1:aa.w 2001= .vi j:=by rw[ae];rfl
  have v2:aa.w 2002= .vl M:=by rw[ae];rfl
  have u8:(aa.w 3).toI=m:=by rw[ae];exact h8
  have u6:(aa.w 1).toI=N:=by rw[ae];exact h6
  have hf': ∀i a,aa.f i a=F i a:=by rw[ae];exact hf
  have a1:aM aa pM= .vi (m-i:Nat):=by
   show Val.vi (aS .sub .i64 (aa.w 3).toI (aa.w 2000).toI)=_;grind[S6,iU]
  have a2:aM aa zY= .vi (m+j-i:Nat):=by
   show Val.vi (aS .sub .i64 (aS .add .i64 (aa.w 3).toI (aa.w 2001).toI) (aa.w 2000).toI)=_;rw[u8,v0,v1,S6,S6,nN (by omega),iU (by omega) (by omega)]
  unfold fV;by_cases h1:i=j
  .refine .out ?_;rw[<-ae,Qy];refine S4 (by show(!decide ((aa.w 2000).toI=(aa.w 2001).toI))=false;rw[v0,v1,S6,S6,h1,e9 rfl];rfl) ?_;show some (1,[aa.w 2000,aa.w 2001,aa.w 2002])=_;grind
  .rw[b9 h1];have c1:dB aa (.op (.cmp .neq) [.va 2000,.va 2001])=true:=by
    show(!decide ((aa.w 2000).toI=(aa.w 2001).toI))=true;grind[S6,decide_eq_false]
   by_cases h2:j<i
   .rw[e8 h2];refine .more (vs':=[.vi (i-j:Nat),.vi j,.vl (gj M (m-i) m j)]) ?_ (NP hf h8 h6 hN n (i-j) j _ (by omega) (by omega) hj (by omega) hjN (by grind[qX]) (yG ho j (by omega) (by omega)));rw[<-ae,Qy];refine S3 c1 (S3 (by show decide ((aa.w 2001).toI<(aa.w 2000).toI)=true;simp_all) (R3 ?_ ?_))
    .show(aa.f 420 [aa.w 2002,aa.w 1,aM aa pM,aa.w 3,aa.w 2001]).toB=true;rw[hf',v2,a1,v1];exact LU ho hM u6 hN rfl u8 rfl (by omega) (by omega)
    .show some (0,[Val.vi (aS .sub .i64 (aa.w 2000).toI (aa.w 2001).toI),aa.w 2001,aa.f 421 [aa.w 2002,aM aa pM,aa.w 3,aa.w 2001]])=_;grind[S6,iU,QZ]
   .rw[b9 h2];refine .more (vs':=[.vi i,.vi (j-i:Nat),.vl (gj M (m-i) (m+j-i) i)]) ?_ (NP hf h8 h6 hN n i (j-i) _ (by omega) hi (by omega) him (by omega) (by grind[qX]) (yG ho i (by omega) (by omega)));rw[<-ae,Qy];refine S3 c1 (S4 (by show decide ((aa.w 2001).toI<(aa.w 2000).toI)=false;simp_all) (R3 ?_ ?_))
    .show(aa.f 420 [aa.w 2002,aa.w 1,aM aa pM,aM aa zY,aa.w 2000]).toB=true;rw[hf',v2,a1,a2,v0];exact LU ho hM u6 hN rfl rfl rfl (by omega) (by omega)
    .show some (0,[aa.w 2000,Val.vi (aS .sub .i64 (aa.w 2001).toI (aa.w 2000).toI),aa.f 421 [aa.w 2002,aM aa pM,aM aa zY,aa.w 2000]])=_;grind[S6,iU,QZ]
theorem t_rotC{I:Opq}(hf: ∀i a,I.f i a=F i a)(hn:(F 422 [I.w 0,I.w 1,I.w 2,I.w 3,I.w 4]).toB=true):R0 Sx I=some (0,[F 423 [I.w 0,I.w 2,I.w 3,I.w 4]]):=by
 obtain⟨ho,hd⟩:=Q8 (show(ir (I.w 0) (I.w 1)&&decide (0<=(I.w 2).toI/\(I.w 2).toI<(I.w 3).toI/\(I.w 3).toI<(I.w 4).toI/\(I.w 4).toI<=(I.w 1).toI))=true from hn);obtain⟨e5,oa,h6,hl⟩:=zI ho;obtain⟨q1,q2,q3,q4⟩:=j6 hd;have h7:=nr q1;have h8:=nr (show 0<=(I.w 3).toI by omega);have h9:=nr (show 0<=(I.w 4).toI by omega);have hF:F 423 [I.w 0,I.w 2,I.w 3,I.w 4]= .vl (tJ (I.w 0).toL (nt (I.w 2)) (nt (I.w 3)) (nt (I.w 4))):=rfl;rw[hF];generalize nt (I.w 2)=a at h7⊢;generalize hm:nt (I.w 3)=m at h8⊢;generalize nt (I.w 4)=b at h9⊢;generalize hL:(I.w 0).toL=l at e5 oa h6 hl⊢;have r0:aM I zA= .vi (m-a:Nat):=by
  show Val.vi (aS .sub .i64 (I.w 3).toI (I.w 2).toI)=_;grind[iU]
 have r1:aM I Cq= .vi (b-m:Nat):=by
  show Val.vi (aS .sub .i64 (I.w 4).toI (I.w 3).toI)=_;grind[iU]
 have hF2: ∀x y:Val,F 458 [.vi (m-a:Nat),.vi (b-m:Nat),.vl l,x,y,I.w 3]=V0 (0,[.vi (fV (nt (I.w 3)) (m-a+(b-m)) (m-a) (b-m) l).1,.vi (fV (nt (I.w 3)) (m-a+(b-m)) (m-a) (b-m) l).1,.vl (fV (nt (I.w 3)) (m-a+(b-m)) (m-a) (b-m) l).2]):=λ_ _=>rfl
 rw[hm]at hF2;have sp:=PD m (m-a+(b-m)) (m-a) (b-m) (l.take a) (aU l a m) (aU l m b) (l.drop b) (by omega) (by omega) (by omega) (ic (by omega)) (ic (by omega)) (by grind);rw[<-e03 (l:=l) (by omega) (by omega)]at sp;have al:=Ks m l.length (m-a+(b-m)) (m-a) (b-m) l (by omega) (by omega) (by omega) (by omega) rfl oa;have it:=NP hf h8 h6 hl (m-a+(b-m)) (m-a) (b-m) l (by omega) (by omega) (by omega) (by omega) (by omega) rfl oa;generalize fV m (m-a+(b-m)) (m-a) (b-m) l=R at sp al it hF2;obtain⟨r,M⟩:=R;obtain⟨s1,s2,s3,s4,s5⟩:=sp;obtain⟨al1,al2⟩:=al;have d2:aM I DE=V0 (0,[.vi r,.vi r,.vl M]):=by
  show I.f 458 [aM I zA,aM I Cq,I.w 0,I.w 1,I.w 0,I.w 3]=_;grind
 have d3:aM I AM= .vl M:=by show S0 (aM I DE).toL 1 2=_;rw[d2];rfl
 have d4:aM I sD= .vi r:=by show S0 (aM I DE).toL 1 0=_;rw[d2];rfl
 have d5:aM I Dx= .vi (m-r:Nat):=by
  show Val.vi (aS .sub .i64 (I.w 3).toI (aM I sD).toI)=_;grind[S6,iU]
 refine R4 (r:=(0,[.vi r,.vi r,.vl M])) ?_ d2 (R3 ?_ ?_)
 .show S5 _ [aM I zA,aM I Cq,I.w 0]=_;grind[W2]
 .show(I.f 420 [aM I AM,I.w 1,aM I Dx,I.w 3,aM I sD]).toB=true;rw[hf,d3,d4,d5];exact LU al1 al2 h6 hl rfl h8 rfl (by omega) (by omega)
 .show some (0,[I.f 421 [aM I AM,aM I Dx,I.w 3,aM I sD]])=_;rw[hf,d3,d4,d5,QZ rfl h8 rfl,s5];rfl
end Go.Ev.S7
namespace Go.Ev.S7
open Go Go.Ev
theorem Jg(l:List Val)(i j:Nat):decide ((F 206 [S1 (aO l i) 0,S1 (aO l i) 1,S1 (aO l i) 2,S1 (aO l j) 0,S1 (aO l j) 1,S1 (aO l j) 2]).toI<0)=U3 false (aO l i) (aO l j):=by
 rw[B9,decide_eq_true_iff];exact cH5 _ _
theorem dd1{I:Opq}(hf: ∀i a,I.f i a=F i a){a N k:Nat}(h7:(I.w 2).toI=a)(h6:(I.w 1).toI=N)(hN:N<=400){l:List Val}(hl:l.length=N)(ho:l.all okK=true)(hk:a+k+1<N):
 R0 sy (I.upd 3000 [.vi (a+k+1:Nat),.vl l])=some (if U3 false (aO l (a+k+1)) (aO l (a+k))then(0,[.vi (a+k:Nat),.vl (eX l (a+k+1) (a+k))])else(1,[.vi (a+k+1:Nat),.vl l])):=by
 have e1:=Yi (K:=a+k+1) (k:=a+k) rfl (by omega);have p0:(a:Int)<((a+k+1:Nat):Int):=by omega
 have p1:(0:Int)<=((a+k+1:Nat):Int):=by omega
 have p2:((a+k+1:Nat):Int)<N:=by omega
 have p3:(0:Int)<=((a+k:Nat):Int):=by omega
 have p4:((a+k:Nat):Int)<N:=by omega
 have hc:=Jg l (a+k+1) (a+k);rw[<-EJ ho (by omega) (by omega)];unfold sy;simp only[R0,R7,aM,dB,W7,T1,Nat.reduceLeDiff,Nat.reduceSub,if_true,if_false,B7,B8,S6,af3,ad7,h7,h6,e1,a21,a60,aj4,p0,p1,p2,p3,p4,decide_true,C3,hl,C1,oi,oq,oO,uM,we,sY,uK,Aw,Int.toNat_natCast,cp,hf,hc];grind
theorem dz2{I:Opq}(hf: ∀i a,I.f i a=F i a){a N:Nat}(h7:(I.w 2).toI=a)(h6:(I.w 1).toI=N)(hN:N<=400): ∀(k:Nat) (l:List Val),a+k<N->l.length=N->l.all okK=true->
 Iter (λvs=>R0 sy (I.upd 3000 vs)) [.vi (a+k:Nat),.vl l] 0 [.vi (bubA false a l k).1,.vl (bubA false a l k).2]
 |0,l,hk,hl,ho=>by
  refine .out ?_;have p0: ¬(a:Int)<((a:Nat):Int):=by omega
  show R0 sy (I.upd 3000 [.vi (a:Nat),.vl l])=_;unfold sy;simp only[R0,R7,aM,dB,W7,T1,Nat.reduceLeDiff,Nat.reduceSub,if_true,if_false,B7,B8,S6,af3,ad7,h7,aj4,p0,decide_false,n5,bubA]
 |k+1,l,hk,hl,ho=>by
  have hs:=dd1 hf h7 h6 hN (k:=k) hl ho (by omega);unfold bubA;cases hc:U3 false (aO l (a+k+1)) (aO l (a+k))with
  |true=>
   rw[hc,e8 rfl]at hs;rw[e8 rfl];exact .more hs (dz2 hf h7 h6 hN k _ (by omega) (by rw[Ch,hl]) (DC ho (by omega) (by omega)))
  |false=>
   rw[hc,b9 (by simp)]at hs;rw[b9 (by simp)];exact .out hs
theorem dd2:Jd= .ite (zs (.va 2000) (.va 3)) (.loop ⟨461,[.va 2000,.va 2001],3000,[.va 1,.va 2001,.va 2,.va 3,.va 2000]⟩ sy [.ret 0 [zi (.va 2000),zo (.app 461 [.va 2000,.va 2001,.va 1,.va 2001,.va 2,.va 3,.va 2000]) 1]]) (.ret 1 [.va 2000,.va 2001]):=rfl
theorem dd3{I:Opq}(hf: ∀i a,I.f i a=F i a){a N b i:Nat}(h7:(I.w 2).toI=a)(h8:(I.w 3).toI=b)(h6:(I.w 1).toI=N)(hN:N<=400){l:List Val}(hl:l.length=N)(ho:l.all okK=true)(hai:a<=i)(hib:i<b)(hb:b<=N):
 R0 Jd (I.upd 2000 [.vi i,.vl (bg false l a i)])=some (0,[.vi (i+1:Nat),.vl (bg false l a (i+1))]):=by
 have hst:=cH8 (sec:=false) (l:=l) hai (by omega);have hpl:=RO false (l:=l) hai;have hpo:=tY ho (Bp false (l:=l) hai);generalize bg false l a i=M at hst hpl hpo⊢;obtain⟨aa,ae⟩: ∃aa,aa=I.upd 2000 [.vi i,.vl M]:=⟨_,rfl⟩;have v0:aa.w 2000= .vi i:=by rw[ae];rfl
 have v1:aa.w 2001= .vl M:=by rw[ae];rfl
 have u6:(aa.w 1).toI=N:=by rw[ae];exact h6
 have u7:(aa.w 2).toI=a:=by rw[ae];exact h7
 have u8:(aa.w 3).toI=b:=by rw[ae];exact h8
 have hf': ∀i a,aa.f i a=F i a:=by rw[ae];exact hf
 have lp:=dz2 hf' u7 u6 hN (i-a) M (by omega) (by omega) hpo;have hF: ∀x y z:Val,F 461 [.vi i,.vl M,x,y,aa.w 2,z,.vi i]=V0 (0,[.vi (bubA false (nt (aa.w 2)) M (i-nt (aa.w 2))).1,.vl (bubA false (nt (aa.w 2)) M (i-nt (aa.w 2))).2]):=λ_ _ _=>rfl
 rw[Bq u7]at hF;have e1:aa.f 461 [aa.w 2000,aa.w 2001,aa.w 1,aa.w 2001,aa.w 2,aa.w 3,aa.w 2000]=V0 (0,[.vi (bubA false a M (i-a)).1,.vl (bubA false a M (i-a)).2]):=by
  grind
 rw[<-ae,dd2];refine S3 (by show decide ((aa.w 2000).toI<(aa.w 3).toI)=true;simp_all) (R4 (r:=(0,[.vi (bubA false a M (i-a)).1,.vl (bubA false a M (i-a)).2])) ?_ e1 ?_)
 .show S5 _ [aa.w 2000,aa.w 2001]=_;grind[W2]
 .show some (0,[Val.vi (aS .add .i64 (aa.w 2000).toI 1),S0 (aa.f 461 [aa.w 2000,aa.w 2001,aa.w 1,aa.w 2001,aa.w 2,aa.w 3,aa.w 2000]).toL 1 1])=_;rw[e1,v0,S6,qD (by omega),<-hst];rfl
theorem t_insC{I:Opq}(hf: ∀i a,I.f i a=F i a)(hn:(F 424 [I.w 0,I.w 1,I.w 2,I.w 3]).toB=true):R0 ZE I=some (0,[F 425 [I.w 0,I.w 2,I.w 3]]):=by
 obtain⟨ho,hd⟩:=Q8 (show(ir (I.w 0) (I.w 1)&&decide (0<=(I.w 2).toI/\(I.w 2).toI<=(I.w 3).toI/\(I.w 3).toI<=(I.w 1).toI))=true from hn);obtain⟨e5,oa,h6,hl⟩:=zI ho;obtain⟨q1,q2,q3⟩:=j6 hd;have h7:=nr q1;have h8:=nr (show 0<=(I.w 3).toI by omega);have hF:F 425 [I.w 0,I.w 2,I.w 3]= .vl (bg false (I.w 0).toL (nt (I.w 2)) (nt (I.w 3))):=rfl;have hF2: ∀x y z:Val,F 460 [x,I.w 0,y,z,I.w 2,I.w 3]=V0 (0,[.vi (max (nt (I.w 2)+1) (nt (I.w 3)):Nat),.vl (bg false (I.w 0).toL (nt (I.w 2)) (nt (I.w 3)))]):=λ_ _ _=>rfl
 rw[hF];generalize nt (I.w 2)=a at h7 hF2⊢;generalize nt (I.w 3)=b at h8 hF2⊢;have r0:aM I yD= .vi (a+1:Nat):=by
  show Val.vi (aS .add .i64 (I.w 2).toI 1)=_;grind[qD]
 have e1:I.f 460 [aM I yD,I.w 0,I.w 1,I.w 0,I.w 2,I.w 3]=V0 (0,[.vi (max (a+1) b:Nat),.vl (bg false (I.w 0).toL a b)]):=by
  grind
 refine R4 (r:=(0,[.vi (max (a+1) b:Nat),.vl (bg false (I.w 0).toL a b)])) ?_ e1 ?_
 .show S5 _ [aM I yD,I.w 0]=_;rw[r0];have hout: ∀(i:Nat) (M:Val),b<=i->R0 Jd (I.upd 2000 [.vi i,M])=some (1,[.vi i,M]):=λi M hi=>by
   refine S4 ?_ rfl;show decide ((i:Int)<(I.w 3).toI)=false;grind
  by_cases hab:a+1<b
  .refine sk (λi=>[.vi (a+1+i:Nat),.vl (bg false (I.w 0).toL a (a+1+i))]) (n:=b-(a+1)) ?_ (λi hi=>dd3 hf h7 h8 h6 hl rfl oa (by omega) (by omega) (by omega)) ?_
   .rw[Yz (by omega) (by omega) (by omega),<-e5]
   grind
  .rw[P6 (by omega),Yz (by omega) (by omega) (by omega),<-e5,W2];exact .out (hout (a+1) _ (by omega))
 .show some (0,[S0 (I.f 460 [aM I yD,I.w 0,I.w 1,I.w 0,I.w 2,I.w 3]).toL 1 1])=_;rw[e1];rfl
end Go.Ev.S7
namespace Go.Ev.S7
open Go Go.Ev
theorem zX{i j:Nat}(h:i+j<=1000000):IntKind.i64.wrap (aS .shr .u64 (IntKind.u64.wrap (aS .add .i64 (i:Int) (j:Int))) 1)=(((i+j)/2:Nat):Int):=by
 rw[nN h];have e1:IntKind.u64.wrap ((i+j:Nat):Int)=((i+j:Nat):Int):=by
  have:IntKind.u64.wrap ((i+j:Nat):Int)=((i+j:Nat):Int) % 18446744073709551616:=rfl;omega
 have e2:aS .shr .u64 ((i+j:Nat):Int) 1=(((i+j)/2:Nat):Int):=by
  have:aS .shr .u64 ((i+j:Nat):Int) 1=((i+j:Nat):Int).fdiv 2:=rfl;rw[this,N6 _ (by omega)];omega
 grind[iF]
theorem dd4{I:Opq}(hf: ∀i a,I.f i a=F i a){a N i j:Nat}(h7:(I.w 2).toI=a)(h6:(I.w 1).toI=N)(hN:N<=400)(hl:(I.w 0).toL.length=N)(ho:(I.w 0).toL.all okK=true)(hij:i<j)(hj:j<=N)(ha:a<N):
 R0 DJ (I.upd 2000 [.vi i,.vi j])=some (0,if U3 false (aO (I.w 0).toL ((i+j)/2)) (aO (I.w 0).toL a)then [.vi ((i+j)/2+1:Nat),.vi j]else [.vi i,.vi ((i+j)/2:Nat)]):=by
 have e0:=zX (i:=i) (j:=j) (by omega);have hlt:(i+j)/2<j:=by omega
 generalize (i+j)/2=h at e0 hlt⊢;have e1:=qD (x:=h) (by omega);have p0:(i:Int)<(j:Int):=by omega
 have p1:(0:Int)<=(h:Int):=by omega
 have p2:(h:Int)<N:=by omega
 have p3:(0:Int)<=(a:Int):=by omega
 have p4:(a:Int)<N:=by omega
 have hc:=Jg (I.w 0).toL (h) (a);unfold DJ;simp only[R0,R7,aM,dB,W7,T1,Nat.reduceLeDiff,Nat.reduceSub,if_true,if_false,B7,B8,S6,af3,ad7,h7,h6,e0,e1,a21,a60,p0,p1,p2,p3,p4,decide_true,C3,hl,oi,oq,oO,cp,hf,hc];grind
theorem dd5{I:Opq}(hf: ∀i a,I.f i a=F i a){m N i j:Nat}(h8:(I.w 3).toI=m)(h6:(I.w 1).toI=N)(hN:N<=400)(hl:(I.w 0).toL.length=N)(ho:(I.w 0).toL.all okK=true)(hij:i<j)(hj:j<=N)(ha:m<N):
 R0 zN (I.upd 2000 [.vi i,.vi j])=some (0,if(!U3 false (aO (I.w 0).toL m) (aO (I.w 0).toL ((i+j)/2)))=true then [.vi ((i+j)/2+1:Nat),.vi j]else [.vi i,.vi ((i+j)/2:Nat)]):=by
 have e0:=zX (i:=i) (j:=j) (by omega);have hlt:(i+j)/2<j:=by omega
 generalize (i+j)/2=h at e0 hlt⊢;have e1:=qD (x:=h) (by omega);have p0:(i:Int)<(j:Int):=by omega
 have p1:(0:Int)<=(h:Int):=by omega
 have p2:(h:Int)<N:=by omega
 have p3:(0:Int)<=(m:Int):=by omega
 have p4:(m:Int)<N:=by omega
 have hc:=Jg (I.w 0).toL (m) (h);unfold zN;simp only[R0,R7,aM,dB,W7,T1,Nat.reduceLeDiff,Nat.reduceSub,if_true,if_false,B7,B8,S6,af3,ad7,h8,h6,e0,e1,a21,a60,p0,p1,p2,p3,p4,decide_true,C3,hl,oi,oq,oO,cp,hf,hc];grind
theorem dd6{I:Opq}(hf: ∀i a,I.f i a=F i a){a m b N i j mid:Nat}(h7:(I.w 2).toI=a)(h8:(I.w 3).toI=m)(h9:(I.w 4).toI=b)(h6:(I.w 1).toI=N)(hN:N<=400)(hl:(I.w 0).toL.length=N)(ho:(I.w 0).toL.all okK=true)(hmid:mid=(a+b)/2)(hb:b<=N)(ham:a<m)(hmb:m<b)
 (hij:i<j) (hj:j<=m) (hj2:j<=mid) (hi:mid+m<=b+i):
 R0 to (I.upd 2000 [.vi i,.vi j])=some (0,if(!U3 false (aO (I.w 0).toL (mid+m-1-(i+j)/2)) (aO (I.w 0).toL ((i+j)/2)))=true then [.vi ((i+j)/2+1:Nat),.vi j]else [.vi i,.vi ((i+j)/2:Nat)]):=by
 have e0:=zX (i:=i) (j:=j) (by omega);have g0:=zX (i:=a) (j:=b) (by omega);rw[<-hmid]at g0;have g1:=nN (x:=mid) (y:=m) (by omega);have g2:=AL (x:=mid+m) (by omega) (by omega);have hlt:(i+j)/2<j:=by omega
 have hge:i<=(i+j)/2:=by omega
 generalize (i+j)/2=h at e0 hlt hge⊢;have g3:=iU (x:=mid+m-1) (y:=h) (by omega) (by omega);have e1:=qD (x:=h) (by omega);have hq:mid+m-1-h<N:=by omega
 generalize mid+m-1-h=q at g3 hq⊢;have p0:(i:Int)<(j:Int):=by omega
 have p1:(0:Int)<=(h:Int):=by omega
 have p2:(h:Int)<N:=by omega
 have p3:(0:Int)<=(q:Int):=by omega
 have p4:(q:Int)<N:=by omega
 have hc:=Jg (I.w 0).toL (q) (h);unfold to;simp only[R0,R7,aM,dB,W7,T1,Nat.reduceLeDiff,Nat.reduceSub,if_true,if_false,B7,B8,S6,af3,ad7,h7,h8,h9,h6,e0,e1,g0,g1,g2,g3,a21,a60,p0,p1,p2,p3,p4,decide_true,C3,hl,oi,oq,oO,cp,hf,hc];grind
theorem Ky{I:Opq}{x:VT}(i:Nat):R0 (.ite (zs (.va 2000) (.va 2001)) x (.ret 1 [.va 2000,.va 2001])) (I.upd 2000 [.vi i,.vi i])=some (1,[.vi i,.vi i]):=by
 refine S4 ?_ rfl;show decide ((i:Int)<(i:Int))=false;grind
theorem dd7{I:Opq}{N r i:Nat}(h6:(I.w 1).toI=N)(hN:N<=400)(hr:S0 (I.f 462 [I.w 3,I.w 4,I.w 1,I.w 0,I.w 2]).toL 1 0= .vi r){M:List Val}(hM:M.length=N)(ho:M.all okK=true)(hi:i+1<r)(hrN:r<=N):
 R0 IQ (I.upd 3000 [.vi i,.vl M])=some (0,[.vi (i+1:Nat),.vl (eX M i (i+1))]):=by
 have e0:=AL (x:=r) (by omega) (by omega);have e1:=qD (x:=i) (by omega);have p0:(i:Int)<((r-1:Nat):Int):=by omega
 have p1:(0:Int)<=((i+1:Nat):Int):=by omega
 have p2:((i+1:Nat):Int)<N:=by omega
 have p3:(0:Int)<=(i:Int):=by omega
 have p4:(i:Int)<N:=by omega
 rw[<-EJ ho (by omega) (by omega)];unfold IQ;simp only[R0,R7,aM,dB,W7,T1,Nat.reduceLeDiff,Nat.reduceSub,if_true,if_false,B7,B8,cp,hr,S6,af3,ad7,h6,e0,e1,a21,a60,p0,p1,p2,p3,p4,decide_true,C3,hM,C1,oi,oq,oO,uM,we,sY,uK,Aw,Int.toNat_natCast]
theorem dd8{I:Opq}{N r i:Nat}(h6:(I.w 1).toI=N)(hN:N<=400)(hr:S0 (I.f 464 [I.w 2,I.w 3,I.w 1,I.w 0,I.w 3]).toL 1 0= .vi r){M:List Val}(hM:M.length=N)(ho:M.all okK=true)(hi:r<i)(hiN:i<N):
 R0 FZ (I.upd 3000 [.vi i,.vl M])=some (0,[.vi (i-1:Nat),.vl (eX M (i-1) i)]):=by
 have e1:=AL (x:=i) (by omega) (by omega);have p0:(r:Int)<(i:Int):=by omega
 have p1:(0:Int)<=((i-1:Nat):Int):=by omega
 have p2:((i-1:Nat):Int)<N:=by omega
 have p3:(0:Int)<=(i:Int):=by omega
 have p4:(i:Int)<N:=by omega
 rw[OY (by omega),<-EJ ho (by omega) (by omega)];unfold FZ;simp only[R0,R7,aM,dB,W7,T1,Nat.reduceLeDiff,Nat.reduceSub,if_true,if_false,B7,B8,cp,hr,S6,af3,ad7,h6,e1,a21,a60,aj4,p0,p1,p2,p3,p4,decide_true,C3,hM,C1,oi,oq,oO,uM,we,sY,uK,Aw,Int.toNat_natCast]
theorem Zc{l:List Val}{a:Nat}(h:l.all okK=true): ∀n,a+n<l.length->(jK l a n).all okK=true
 |0,_=>h
 |n+1,h1=>DC (Zc h n (by omega)) (by rw[GC];omega) (by rw[GC];omega)
theorem cu6{l:List Val}{m:Nat}(h:l.all okK=true)(hm:m<l.length): ∀n,(jn l m n).all okK=true
 |0=>h
 |n+1=>DC (cu6 h hm n) (by rw[Ee];omega) (by rw[Ee];omega)
def Ca(B:Int)(e mid L:SX):VT:= .ite (zs mid e) (.ite (zs e (.va 4)) (.need (.app 426 [L,.va 1,mid,e,.va 4,.ci B]) (.ret 0 [.app 425 [L,mid,.va 4]])) (.ret 0 [L])) (.ret 0 [L])
def Bv(B:Int)(r e mid L:SX):VT:= .ite (zs (.va 2) r) (.ite (zs r mid) (.need (.app 426 [L,.va 1,.va 2,r,mid,.ci B]) (Ca B e mid (.app 425 [L,.va 2,mid]))) (Ca B e mid L)) (Ca B e mid L)
def Im(B:Int)(r e mid:SX):VT:= .ite (zs r (.va 3)) (.ite (zs (.va 3) e) (.need (.app 422 [.va 0,.va 1,r,.va 3,e]) (Bv B r e mid (.app 423 [.va 0,r,.va 3,e]))) (Bv B r e mid (.va 0))) (Bv B r e mid (.va 0))
theorem cM4(B:Int):lJ B= .ite (ze (zm (.va 3) (.va 2)) 1) (.loop ⟨462,[.va 3,.va 4],2000,[.va 1,.va 0,.va 2]⟩ DJ [.loop ⟨463,[.va 2,.va 0],3000,[.va 1,.va 0,si]⟩ IQ [.ret 0 [zo (.app 463 [.va 2,.va 0,.va 1,.va 0,si]) 1]]])
 (.ite (ze (zm (.va 4) (.va 3)) 1) (.loop ⟨464,[.va 2,.va 3],2000,[.va 1,.va 0,.va 3]⟩ zN [.loop ⟨465,[.va 3,.va 0],3000,[.va 1,.va 0,uL]⟩ FZ [.ret 0 [zo (.app 465 [.va 3,.va 0,.va 1,.va 0,uL]) 1]]])
 (.ite (.op (.cmp .gtr) [.va 3,Y3]) (.loop ⟨466,[wo,Y3],2000,[.va 1,.va 0,.va 2,.va 3,.va 4,Y3,fC,lU]⟩ to [Im B mn lH Y3]) (.loop ⟨466,[.va 2,.va 3],2000,[.va 1,.va 0,.va 2,.va 3,.va 4,Y3,fC,lU]⟩ to [Im B mg mh Y3]))):=rfl
theorem IJ{M:List Val}{n:Val}{N a m b:Nat}{B:Int}(ho:M.all okK=true)(hM:M.length=N)(hn:n.toI=(N:Int))(hN:N<=400)(h1:a<m)(h2:m<b)(h3:b<=N)(h4:(b:Int)-a<=B)
 (s1:Sd false (aU M a m)) (s2:Sd false (aU M m b)):(F 426 [.vl M,n,.vi a,.vi m,.vi b,.vi B]).toB=true:=by
 refine Kv.2 ⟨BH ho hM hn hN,?_,?_,?_,?_,h4,rfl,rfl,rfl,s1,s2⟩
 .show(0:Int)<=(a:Int);omega
 .show(a:Int)<(m:Int);omega
 .show(m:Int)<(b:Int);omega
 .show(b:Int)<=n.toI;omega
theorem vK{M:List Val}{va vb:Val}{a b:Nat}(ha:va.toI=(a:Int))(hb:vb.toI=(b:Int)):F 425 [.vl M,va,vb]= .vl (bg false M a b):=by
 show Val.vl (bg false M (nt va) (nt vb))=_;grind[Bq]
section
variable{I:Opq}{N a m b R E MID:Nat}{B:Int}{r e mid:SX}
theorem Zw(hf: ∀i a,I.f i a=F i a)(h6:(I.w 1).toI=N)(hN:N<=400)(h9:I.w 4= .vi b)(he:aM I e= .vi E)(hmid:aM I mid= .vi MID)(hb:b<=N)(hB:(b:Int)-MID<=B){L:SX}{M Y:List Val}(hL:aM I L= .vl M)(ho:M.all okK=true)(hM:M.length=N)
 (s1:Sd false (aU M MID E)) (s2:Sd false (aU M E b)) (c1:MID<E->E<b->bg false M MID b=Y) (c2: ¬(MID<E/\E<b)->M=Y):R0 (Ca B e mid L) I=some (0,[.vl Y]):=by
 have hret: ¬(MID<E/\E<b)->R0 (.ret 0 [L]) I=some (0,[.vl Y]):=λh=>by
  show some (0,[aM I L])=_;grind
 by_cases h1:MID<E
 .refine S3 (by show decide ((aM I mid).toI<(aM I e).toI)=true;simp_all) ?_;by_cases h2:E<b
  .refine S3 (by show decide ((aM I e).toI<(I.w 4).toI)=true;simp_all) (R3 ?_ ?_)
   .show(I.f 426 [aM I L,I.w 1,aM I mid,aM I e,I.w 4,.vi B]).toB=true;grind[IJ]
   .show some (0,[I.f 425 [aM I L,aM I mid,I.w 4]])=_;rw[hf,hL,hmid,h9,vK rfl rfl,c1 h1 h2]
  .exact S4 (by show decide ((aM I e).toI<(I.w 4).toI)=false;simp_all) (hret (by omega))
 .exact S4 (by show decide ((aM I mid).toI<(aM I e).toI)=false;simp_all) (hret (by omega))
theorem cu8(hf: ∀i a,I.f i a=F i a)(h6:(I.w 1).toI=N)(hN:N<=400)(h7:I.w 2= .vi a)(h9:I.w 4= .vi b)(hr:aM I r= .vi R)(he:aM I e= .vi E)(hmid:aM I mid= .vi MID)(hb:b<=N)(hmb:MID<b)(hB:(b:Int)-MID<=B)(hB2:(MID:Int)-a<=B){L:SX}{M M2 Y:List Val}(hL:aM I L= .vl M)(ho:M.all okK=true)(hM:M.length=N)(ho2:M2.all okK=true)(hM2:M2.length=N)
 (t1:Sd false (aU M a R)) (t2:Sd false (aU M R MID)) (d1:a<R->R<MID->bg false M a MID=M2) (d2: ¬(a<R/\R<MID)->M=M2)
 (s1:Sd false (aU M2 MID E)) (s2:Sd false (aU M2 E b)) (c1:MID<E->E<b->bg false M2 MID b=Y) (c2: ¬(MID<E/\E<b)->M2=Y):R0 (Bv B r e mid L) I=some (0,[.vl Y]):=by
 have hid: ¬(a<R/\R<MID)->R0 (Ca B e mid L) I=some (0,[.vl Y]):=λh=>by
  have:=d2 h;subst this;exact Zw hf h6 hN h9 he hmid hb hB hL ho hM s1 s2 c1 c2
 by_cases h1:a<R
 .refine S3 (by show decide ((I.w 2).toI<(aM I r).toI)=true;simp_all) ?_;by_cases h2:R<MID
  .refine S3 (by show decide ((aM I r).toI<(aM I mid).toI)=true;simp_all) (R3 ?_ ?_)
   .show(I.f 426 [aM I L,I.w 1,I.w 2,aM I r,aM I mid,.vi B]).toB=true;grind[IJ]
   .refine Zw hf h6 hN h9 he hmid hb hB ?_ ho2 hM2 s1 s2 c1 c2;show I.f 425 [aM I L,I.w 2,aM I mid]=_;rw[hf,hL,hmid,h7,vK rfl rfl,d1 h1 h2]
  .exact S4 (by show decide ((aM I r).toI<(aM I mid).toI)=false;simp_all) (hid (by omega))
 .exact S4 (by show decide ((I.w 2).toI<(aM I r).toI)=false;simp_all) (hid (by omega))
theorem de0{M:List Val}{n va vm vb:Val}{a m b:Nat}(ho:M.all okK=true)(hM:M.length=N)(hn:n.toI=(N:Int))(hN:N<=400)(ha:va.toI=(a:Int))(hm:vm.toI=(m:Int))(hb:vb.toI=(b:Int))(h1:a<m)(h2:m<b)(h3:b<=N):(F 422 [.vl M,n,va,vm,vb]).toB=true:=by
 show(ir (.vl M) n&&decide (0<=va.toI/\va.toI<vm.toI/\vm.toI<vb.toI/\vb.toI<=n.toI))=true;grind[and2,BH,decide_eq_true]
theorem de1(hf: ∀i a,I.f i a=F i a)(h6:(I.w 1).toI=N)(hN:N<=400)(h7:I.w 2= .vi a)(h8:(I.w 3).toI=m)(h9:I.w 4= .vi b)(hr:aM I r= .vi R)(he:aM I e= .vi E)(hmid:aM I mid= .vi MID)(hb:b<=N)(hEb:E<=b)(hmb:MID<b)(hB:(b:Int)-MID<=B)(hB2:(MID:Int)-a<=B){l M M2 Y:List Val}(h5:I.w 0= .vl l)(hl:l.length=N)(hlo:l.all okK=true)
 (b1:R<m->m<E->tJ l R m E=M) (b2: ¬(R<m/\m<E)->l=M) (p1:M.Perm l)
 (t1:Sd false (aU M a R)) (t2:Sd false (aU M R MID)) (d1:a<R->R<MID->bg false M a MID=M2) (d2: ¬(a<R/\R<MID)->M=M2) (p2:M2.Perm l)
 (s1:Sd false (aU M2 MID E)) (s2:Sd false (aU M2 E b)) (c1:MID<E->E<b->bg false M2 MID b=Y) (c2: ¬(MID<E/\E<b)->M2=Y):R0 (Im B r e mid) I=some (0,[.vl Y]):=by
 have oM:=tY hlo p1;have lM:M.length=N:=p1.length_eq.trans hl;have oM2:=tY hlo p2;have lM2:M2.length=N:=p2.length_eq.trans hl;have hid: ¬(R<m/\m<E)->R0 (Bv B r e mid (.va 0)) I=some (0,[.vl Y]):=λh=>
  cu8 hf h6 hN h7 h9 hr he hmid hb hmb hB hB2 (L:= .va 0) (by show I.w 0=_;grind) oM lM oM2 lM2 t1 t2 d1 d2 s1 s2 c1 c2
 by_cases h1:R<m
 .refine S3 (by show decide ((aM I r).toI<(I.w 3).toI)=true;simp_all) ?_;by_cases h2:m<E
  .refine S3 (by show decide ((I.w 3).toI<(aM I e).toI)=true;simp_all) (R3 ?_ ?_)
   .show(I.f 422 [I.w 0,I.w 1,aM I r,I.w 3,aM I e]).toB=true;rw[hf,h5,hr,he];exact de0 hlo hl h6 hN rfl h8 rfl h1 h2 (by omega)
   .refine cu8 hf h6 hN h7 h9 hr he hmid hb hmb hB hB2 ?_ oM lM oM2 lM2 t1 t2 d1 d2 s1 s2 c1 c2;show I.f 423 [I.w 0,aM I r,I.w 3,aM I e]=_;rw[hf,h5,hr,he,<-b1 h1 h2];show Val.vl (tJ l R (nt (I.w 3)) E)=_;rw[Bq h8]
  .exact S4 (by show decide ((I.w 3).toI<(aM I e).toI)=false;simp_all) (hid (by omega))
 .exact S4 (by show decide ((aM I r).toI<(I.w 3).toI)=false;simp_all) (hid (by omega))
end
end Go.Ev.S7
namespace Go.Ev.S7
open Go Go.Ev
theorem QS{T:Nat->Bool}{lo hi:Nat}{step:List Val->Option (Nat×List Val)}{va vb:Val}(hle:lo<=hi)(h1: ∀i j:Nat,lo<=i->i<j->j<=hi->step [.vi i,.vi j]=some (0,if T ((i+j)/2)=true then [.vi ((i+j)/2+1:Nat),.vi j]else [.vi i,.vi ((i+j)/2:Nat)]))(h2: ∀i:Nat,step [.vi i,.vi i]=some (1,[.vi i,.vi i])):
 S5 step [.vi lo,.vi hi]=some (0,[.vi (bs T (hi-lo) lo hi),.vi (bs T (hi-lo) lo hi)]):=by
 rw[W2];exact Nl h1 h2 (hi-lo) lo hi (i6 _) hle (i6 _) (i6 _)
theorem t_sym{I:Opq}{B:Int}(hf: ∀i a,I.f i a=F i a)(hn:(F 426 [I.w 0,I.w 1,I.w 2,I.w 3,I.w 4,.vi (2*B)]).toB=true):R0 (lJ B) I=some (0,[F 425 [I.w 0,I.w 2,I.w 4]]):=by
 have hn':Da [I.w 0,I.w 1,I.w 2,I.w 3,I.w 4,.vi (2*B)]=true:=hn;obtain⟨ho,q1,q2,q3,q4,q5,i7,i8,i9,s1,s2⟩:=Kv.1 hn';have ho:ir (I.w 0) (I.w 1)=true:=ho;have q1:0<=(I.w 2).toI:=q1;have q2:(I.w 2).toI<(I.w 3).toI:=q2;have q3:(I.w 3).toI<(I.w 4).toI:=q3;have q4:(I.w 4).toI<=(I.w 1).toI:=q4;have q5:(I.w 4).toI-(I.w 2).toI<=2*B:=q5;have s1:Sd false (aU (I.w 0).toL (nt (I.w 2)) (nt (I.w 3))):=s1;have s2:Sd false (aU (I.w 0).toL (nt (I.w 3)) (nt (I.w 4))):=s2;obtain⟨e5,oa,h6,hl⟩:=zI ho;have h7:=nr q1;have h8:=nr (show 0<=(I.w 3).toI by omega);have h9:=nr (show 0<=(I.w 4).toI by omega);have w7:I.w 2= .vi (nt (I.w 2)):=(GG (show pL (I.w 2)=true from i7)).trans (congrArg Val.vi h7);have w8:I.w 3= .vi (nt (I.w 3)):=(GG (show pL (I.w 3)=true from i8)).trans (congrArg Val.vi h8);have w9:I.w 4= .vi (nt (I.w 4)):=(GG (show pL (I.w 4)=true from i9)).trans (congrArg Val.vi h9);have hF:F 425 [I.w 0,I.w 2,I.w 4]= .vl (bg false (I.w 0).toL (nt (I.w 2)) (nt (I.w 4))):=rfl;rw[hF];generalize nt (I.w 2)=a at h7 w7 s1⊢;generalize nt (I.w 3)=m at h8 w8 s1 s2⊢;generalize nt (I.w 4)=b at h9 w9 s2⊢;obtain⟨l,hL⟩: ∃l,(I.w 0).toL=l:=⟨_,rfl⟩;obtain⟨N,hNN⟩: ∃N,l.length=N:=⟨_,rfl⟩;have hlN:(I.w 0).toL.length=N:=by grind
 rw[hlN]at h6 hl;have ham:a<m:=by omega
 have hmb:m<b:=by omega
 have hbN:b<=N:=by omega
 rw[cM4];by_cases c1:m=a+1
 .
  refine S3 (by show decide (aS .sub .i64 (I.w 3).toI (I.w 2).toI=1)=true;grind[iU,decide_eq_true]) ?_;subst c1;have so:=d75 (sec:=false) (l:=(I.w 0).toL) (a:=a) (b:=b) hmb (by omega) s2;have hlp:S5 (λvs=>R0 DJ (I.upd 2000 vs)) [.vi (a+1:Nat),.vi b]=_:=QS (T:=λh=>U3 false (aO (I.w 0).toL h) (aO (I.w 0).toL a)) (va:= .vi 0) (vb:= .vi 0) (by omega) (λi j h1 h2 h3=>dd4 hf h7 h6 hl hlN oa h2 (by omega) (by omega)) (λi=>Ky i);have hF2:F 462 [.vi (a+1:Nat),.vi b,I.w 1,I.w 0,.vi a]=V0 (0,[.vi (bs (λh=>U3 false (aO (I.w 0).toL h) (aO (I.w 0).toL a)) (b-(a+1)) (a+1) b),.vi (bs (λh=>U3 false (aO (I.w 0).toL h) (aO (I.w 0).toL a)) (b-(a+1)) (a+1) b)]):=rfl;generalize bs (λh=>U3 false (aO (I.w 0).toL h) (aO (I.w 0).toL a)) (b-(a+1)) (a+1) b=r at so hlp hF2;obtain⟨r1,r2,r3⟩:=so;have e462:I.f 462 [I.w 3,I.w 4,I.w 1,I.w 0,I.w 2]=V0 (0,[.vi r,.vi r]):=by
   grind
  have er:S0 (I.f 462 [I.w 3,I.w 4,I.w 1,I.w 0,I.w 2]).toL 1 0= .vi r:=by rw[e462];rfl
  have hF3: ∀x y:Val,F 463 [.vi a,I.w 0,x,y,.vi r]=V0 (0,[.vi (r-1:Nat),.vl (jK (I.w 0).toL a (r-1-a))]):=λ_ _=>rfl
  have e463:I.f 463 [I.w 2,I.w 0,I.w 1,I.w 0,aM I si]=V0 (0,[.vi (r-1:Nat),.vl (jK (I.w 0).toL a (r-1-a))]):=by
   rw[show aM I si= .vi r from er,hf,w7,hF3]
  refine R4 (r:=(0,[.vi r,.vi r])) ?_ e462 (R4 (r:=(0,[.vi (r-1:Nat),.vl (jK (I.w 0).toL a (r-1-a))])) ?_ e463 ?_)
  .show S5 _ [I.w 3,I.w 4]=_;grind
  .show S5 _ [I.w 2,I.w 0]=_;rw[w7];refine sk (λi=>[.vi (a+i:Nat),.vl (jK (I.w 0).toL a i)]) (n:=r-1-a) (by rw[show jK (I.w 0).toL a 0=(I.w 0).toL from rfl,<-e5];rfl) (λi hi=> ?_) ?_
   .exact dd7 h6 hl er (by grind[GC]) (Zc oa i (by omega)) (by omega) (by omega)
   .rw[show a+(r-1-a)=r-1 by omega];refine S4 ?_ rfl;show decide (((r-1:Nat):Int)<aS .sub .i64 (S0 (I.f 462 [I.w 3,I.w 4,I.w 1,I.w 0,I.w 2]).toL 1 0).toI 1)=false;grind[S6,AL,decide_eq_false]
  .show some (0,[S0 (I.f 463 [I.w 2,I.w 0,I.w 1,I.w 0,aM I si]).toL 1 1])=_;rw[e463,<-r3];rfl
 .refine S4 (by show decide (aS .sub .i64 (I.w 3).toI (I.w 2).toI=1)=false;grind[iU,decide_eq_false]) ?_;by_cases c2:b=m+1
  .
   refine S3 (by show decide (aS .sub .i64 (I.w 4).toI (I.w 3).toI=1)=true;grind[iU,decide_eq_true]) ?_;subst c2;have so:=d76 (sec:=false) (l:=(I.w 0).toL) (a:=a) (m:=m) ham (by omega) s1;have hlp:S5 (λvs=>R0 zN (I.upd 2000 vs)) [.vi a,.vi m]=_:=QS (T:=λh=> !U3 false (aO (I.w 0).toL m) (aO (I.w 0).toL h)) (va:= .vi 0) (vb:= .vi 0) (by omega) (λi j h1 h2 h3=>dd5 hf h8 h6 hl hlN oa h2 (by omega) (by omega)) (λi=>Ky i);have hF2:F 464 [.vi a,.vi m,I.w 1,I.w 0,.vi m]=V0 (0,[.vi (bs (λh=> !U3 false (aO (I.w 0).toL m) (aO (I.w 0).toL h)) (m-a) a m),.vi (bs (λh=> !U3 false (aO (I.w 0).toL m) (aO (I.w 0).toL h)) (m-a) a m)]):=rfl;generalize bs (λh=> !U3 false (aO (I.w 0).toL m) (aO (I.w 0).toL h)) (m-a) a m=r at so hlp hF2;obtain⟨r1,r2,r3⟩:=so;have e464:I.f 464 [I.w 2,I.w 3,I.w 1,I.w 0,I.w 3]=V0 (0,[.vi r,.vi r]):=by
    grind
   have er:S0 (I.f 464 [I.w 2,I.w 3,I.w 1,I.w 0,I.w 3]).toL 1 0= .vi r:=by rw[e464];rfl
   have hF3: ∀x y:Val,F 465 [.vi m,I.w 0,x,y,.vi r]=V0 (0,[.vi r,.vl (jn (I.w 0).toL m (m-r))]):=λ_ _=>rfl
   have e465:I.f 465 [I.w 3,I.w 0,I.w 1,I.w 0,aM I uL]=V0 (0,[.vi r,.vl (jn (I.w 0).toL m (m-r))]):=by
    rw[show aM I uL= .vi r from er,hf,w8,hF3]
   refine R4 (r:=(0,[.vi r,.vi r])) ?_ e464 (R4 (r:=(0,[.vi r,.vl (jn (I.w 0).toL m (m-r))])) ?_ e465 ?_)
   .show S5 _ [I.w 2,I.w 3]=_;grind
   .show S5 _ [I.w 3,I.w 0]=_;rw[w8];refine sk (λi=>[.vi (m-i:Nat),.vl (jn (I.w 0).toL m i)]) (n:=m-r) (by rw[show jn (I.w 0).toL m 0=(I.w 0).toL from rfl,<-e5];rfl) (λi hi=> ?_) ?_
    .grind[dd8,jn,Ee,cu6,eX]
    .rw[show m-(m-r)=r by omega];refine S4 ?_ rfl;show decide ((S0 (I.f 464 [I.w 2,I.w 3,I.w 1,I.w 0,I.w 3]).toL 1 0).toI<(r:Int))=false;grind[S6,decide_eq_false]
   .show some (0,[S0 (I.f 465 [I.w 3,I.w 0,I.w 1,I.w 0,aM I uL]).toL 1 1])=_;rw[e465,<-r3];rfl
  .refine S4 (by show decide (aS .sub .i64 (I.w 4).toI (I.w 3).toI=1)=false;grind[iU,decide_eq_false]) ?_;obtain⟨mid,hmid⟩: ∃mid,mid=(a+b)/2:=⟨_,rfl⟩;have d2:aM I Y3= .vi mid:=by
    show Val.vi (IntKind.i64.wrap (aS .shr .u64 (IntKind.u64.wrap (aS .add .i64 (I.w 2).toI (I.w 4).toI)) 1))=_;grind[zX]
   have d3:aM I fC= .vi (mid+m:Nat):=by
    show Val.vi (aS .add .i64 (aM I Y3).toI (I.w 3).toI)=_;rw[d2,h8,S6,nN (by omega)]
   have d5:aM I lU= .vi (mid+m-1:Nat):=by
    show Val.vi (aS .sub .i64 (aM I fC).toI 1)=_;rw[d3,S6,AL (by omega) (by omega)]
   have key: ∀(lo hi r:Nat) (va vb:Val) (er ee:SX),(mid<m/\lo=mid+m-b/\hi=mid\/m<=mid/\lo=a/\hi=m)->r=bs (λc=> !U3 false (aO (I.w 0).toL (mid+m-1-c)) (aO (I.w 0).toL c)) (hi-lo) lo hi->aM I er= .vi r->(∀n:Nat,aM I er= .vi n->n<=mid+m->aM I ee= .vi (mid+m-n:Nat))->R0 (Im B er ee Y3) I=some (0,[.vl (bg false (I.w 0).toL a b)]):=λlo hi r va vb er ee hlh hr h1 h2=>by
    obtain⟨g1,g2,g3,g4,M,M2,b1,b2,p1,t1,t2,k1,k2,p2,u1,u2,x1,x2⟩:=d77 (sec:=false) (l:=(I.w 0).toL) ham hmb (by omega) s1 s2 hmid hlh hr;exact de1 hf h6 hl w7 h8 w9 h1 (h2 r h1 (by omega)) d2 hbN g4 (by omega) (by omega) (by omega) e5 hlN oa b1 b2 p1 t1 t2 k1 k2 p2 u1 u2 x1 x2
   have hlp: ∀lo hi:Nat,(mid<m/\lo=mid+m-b/\hi=mid\/m<=mid/\lo=a/\hi=m)->S5 (λvs=>R0 to (I.upd 2000 vs)) [.vi lo,.vi hi]=some (0,[.vi (bs (λc=> !U3 false (aO (I.w 0).toL (mid+m-1-c)) (aO (I.w 0).toL c)) (hi-lo) lo hi),.vi (bs (λc=> !U3 false (aO (I.w 0).toL (mid+m-1-c)) (aO (I.w 0).toL c)) (hi-lo) lo hi)]):=λlo hi hlh=>QS (T:=λc=> !U3 false (aO (I.w 0).toL (mid+m-1-c)) (aO (I.w 0).toL c)) (va:= .vi 0) (vb:= .vi 0) (by omega) (λi j h1 h2 h3=>dd6 hf h7 h8 h9 h6 hl hlN oa hmid hbN ham hmb h2 (by omega) (by omega) (by omega)) (λi=>Ky i)
   have hF2: ∀(lo hi:Nat) (va vb x y:Val),nt va=lo->nt vb=hi->F 466 [va,vb,I.w 1,I.w 0,I.w 2,I.w 3,I.w 4,x,y,.vi (mid+m-1:Nat)]=V0 (0,[.vi (bs (λc=> !U3 false (aO (I.w 0).toL (mid+m-1-c)) (aO (I.w 0).toL c)) (hi-lo) lo hi),.vi (bs (λc=> !U3 false (aO (I.w 0).toL (mid+m-1-c)) (aO (I.w 0).toL c)) (hi-lo) lo hi)]):=λlo hi va vb x y h1 h2=>by subst h1;subst h2;rfl
   by_cases c3:mid<m
   .refine S3 (by show decide ((aM I Y3).toI<(I.w 3).toI)=true;grind[S6,decide_eq_true]) ?_;have hlh:mid<m/\mid+m-b=mid+m-b/\mid=mid\/m<=mid/\mid+m-b=a/\mid=m:= .inl ⟨c3,rfl,rfl⟩;have d4:aM I wo= .vi (mid+m-b:Nat):=by
     show Val.vi (aS .sub .i64 (aM I fC).toI (I.w 4).toI)=_;rw[d3,h9,S6,iU (by omega) (by omega)]
    have e466:I.f 466 [aM I wo,aM I Y3,I.w 1,I.w 0,I.w 2,I.w 3,I.w 4,aM I Y3,aM I fC,aM I lU]=V0 (0,[.vi (bs (λc=> !U3 false (aO (I.w 0).toL (mid+m-1-c)) (aO (I.w 0).toL c)) (mid-(mid+m-b)) (mid+m-b) mid),.vi (bs (λc=> !U3 false (aO (I.w 0).toL (mid+m-1-c)) (aO (I.w 0).toL c)) (mid-(mid+m-b)) (mid+m-b) mid)]):=by
     rw[hf,d5];exact hF2 (mid+m-b) mid _ _ _ _ (by rw[d4];rfl) (by rw[d2];rfl)
    refine R4 (r:=(0,_)) ?_ e466 ?_
    .show S5 _ [aM I wo,aM I Y3]=_;grind
    .refine key _ _ _ (.vi 0) (.vi 0) mn lH hlh rfl ?_ (λn h1 h2=> ?_)
     .show S0 (I.f 466 [aM I wo,aM I Y3,I.w 1,I.w 0,I.w 2,I.w 3,I.w 4,aM I Y3,aM I fC,aM I lU]).toL 1 0=_;rw[e466];rfl
     .show Val.vi (aS .sub .i64 (aM I fC).toI (aM I mn).toI)=_;rw[d3,h1,S6,S6,iU h2 (by omega)]
   .refine S4 (by show decide ((aM I Y3).toI<(I.w 3).toI)=false;grind[S6,decide_eq_false]) ?_;have hlh:mid<m/\a=mid+m-b/\m=mid\/m<=mid/\a=a/\m=m:= .inr ⟨by omega,rfl,rfl⟩;have e466:I.f 466 [I.w 2,I.w 3,I.w 1,I.w 0,I.w 2,I.w 3,I.w 4,aM I Y3,aM I fC,aM I lU]=V0 (0,[.vi (bs (λc=> !U3 false (aO (I.w 0).toL (mid+m-1-c)) (aO (I.w 0).toL c)) (m-a) a m),.vi (bs (λc=> !U3 false (aO (I.w 0).toL (mid+m-1-c)) (aO (I.w 0).toL c)) (m-a) a m)]):=by
     grind[Bq]
    refine R4 (r:=(0,_)) ?_ e466 ?_
    .show S5 _ [I.w 2,I.w 3]=_;grind
    .refine key _ _ _ (.vi 0) (.vi 0) mg mh hlh rfl ?_ (λn h1 h2=> ?_)
     .show S0 (I.f 466 [I.w 2,I.w 3,I.w 1,I.w 0,I.w 2,I.w 3,I.w 4,aM I Y3,aM I fC,aM I lU]).toL 1 0=_;rw[e466];rfl
     .show Val.vi (aS .sub .i64 (aM I fC).toI (aM I mg).toI)=_;rw[d3,h1,S6,S6,iU h2 (by omega)]
theorem sym_vac{a b c d e:Val}(hn:(F 426 [a,b,c,d,e,.vi 1]).toB=true):False:=by
 obtain⟨_,_,q2,q3,_,q5,_⟩:=Kv.1 (show Da [a,b,c,d,e,.vi 1]=true from hn);have q2:c.toI<d.toI:=q2;have q3:d.toI<e.toI:=q3;have q5:e.toI-c.toI<=1:=q5;omega
end Go.Ev.S7
namespace Go.Ev.S7
open Go Go.Ev
theorem LV{l:List Val}{a b c d:Nat}(ha:a<=l.length)(hd:d<=a):aU (bg false l a b) c d=aU l c d:=by
 unfold aU bg;rw[O6 (by rw[k7];omega),List.take_take,A0 hd]
theorem de2{l:List Val}{a b c:Nat}(h:a<=b)(hb:b<=l.length)(hc:b<=c):(bg false l a b).drop c=l.drop c:=by
 unfold bg;rw[<-y8,J8,K7 (by rw[l5,k7,srt_len,ic hb];omega),List.nil_append,l5,k7,srt_len,ic hb,J9];grind
theorem dz5{l:List Val}{a b c d:Nat}(h:a<=b)(hb:b<=l.length)(hc:b<=c):aU (bg false l a b) c d=aU l c d:=by
 grind[aU,List.drop_take,de2]
theorem kU(B:Nat)(l:List Val): ∀k,(bF B l k).length=l.length
 |0=>rfl
 |k+1=>by rw[bF,RO false (by omega),kU B l k]
theorem CC(B:Nat)(l:List Val): ∀k,(bF B l k).Perm l
 |0=> .refl _
 |k+1=>(Bp false (by omega)).trans (CC B l k)
theorem Jq(B:Nat)(l:List Val): ∀k,Cl false (bF B l k) l
 |0=>Cl.refl _ _
 |k+1=>(QM false (by omega)).trans (Jq B l k)
theorem tQ{B:Nat}{l:List Val}: ∀{k c d:Nat},B*k<=l.length->B*k<=c->aU (bF B l k) c d=aU l c d
 |0,c,d,_,_=>rfl
 |k+1,c,d,hl,hc=>by
  rw[Nat.mul_succ]at hl hc;rw[bF,dz5 (by omega) (by grind[kU]) hc,tQ (by omega) (by omega)]
theorem PK{B:Nat}{l:List Val}: ∀{k j:Nat},j<k->B*k<=l.length->aU (bF B l k) (B*j) (B*j+B)=srt false (aU l (B*j) (B*j+B))
 |k+1,j,hj,hl=>by
  rw[Nat.mul_succ]at hl;rw[bF];by_cases h:j=k
  .subst h;rw[Pm (by omega) (by grind[kU]),tQ (by omega) (i6 _)]
  .have hjk:j<k:=by omega
   have:B*j+B<=B*k:=by exact J4 _ hjk
   rw[LV (by rw[kU];omega) this,PK hjk (by omega)]
def Bk(B n:Nat)(l:List Val):Prop:= ∀k,Sd false (aU l (B*k) (min (B*k+B) n))
theorem Qc:Sd false []:=List.Pairwise.nil
theorem cv1{l:List Val}{n:Nat}(hl:l.length=n):Bk 20 n (bg false (bF 20 l (n/20)) (20*(n/20)) n):=by
 have hq:20*(n/20)<=n:=J5 n 20;intro k;rcases F5 k (n/20)with h|h|h
 .have h1:20*k+20<=20*(n/20):=by omega
  rw[A0 (by omega),LV (by rw[kU];omega) h1,PK h (by omega)];exact rI _ _
 .subst h;rw[N4 (by omega),Pm hq (by rw[kU];omega)];exact rI _ _
 grind[OV,Qc]
theorem XH{bs n:Nat}{l:List Val}(h0:0<bs)(hl:l.length=n)(hb:Bk bs n l):Bk (2*bs) n (pass bs n l)/\Cl false (pass bs n l) l/\(pass bs n l).Perm l:=by
 have hq:2*bs*(n/(2*bs))<=n:=J5 n (2*bs);have hq2:n<2*bs*(n/(2*bs))+2*bs:=by
  have:=Q7 n (show 0<2*bs by omega);omega
 have ev: ∀k,bs*(2*k)=2*bs*k:=λk=>by grind
 have hp:pass bs n l=if 2*bs*(n/(2*bs))+bs<n then bg false (bF (2*bs) l (n/(2*bs))) (2*bs*(n/(2*bs))) n else bF (2*bs) l (n/(2*bs)):=rfl
 generalize n/(2*bs)=q at hq hq2 hp;have hM: ∀k,k<q->Sd false (aU (bF (2*bs) l q) (2*bs*k) (min (2*bs*k+2*bs) n)):=λk hk=>by
  have:2*bs*k+2*bs<=2*bs*q:=by exact J4 _ hk
  rw[A0 (by omega),PK hk (by omega)];exact rI _ _
 have hgt: ∀k,q<k->n<=2*bs*k:=λk hk=>by
  have:2*bs*(q+1)<=2*bs*k:=J4 _ hk;grind
 by_cases hc:2*bs*q+bs<n
 .have e:(if 2*bs*q+bs<n then bg false (bF (2*bs) l q) (2*bs*q) n else bF (2*bs) l q)=bg false (bF (2*bs) l q) (2*bs*q) n:=e8 hc;refine⟨λk=> ?_,?_,?_⟩
  .rw[hp,e];rcases F5 k q with h|h|h
   .have:2*bs*k+2*bs<=2*bs*q:=by exact J4 _ h
    rw[LV (by rw[kU];omega) (by rw[A0 (by omega)];exact this)];exact hM k h
   .subst h;rw[N4 (by omega),Pm hq (by rw[kU];omega)];exact rI _ _
   grind[OV,Qc]
  .rw[hp,e];exact(QM false hq).trans (Jq _ _ _)
  .rw[hp,e];exact(Bp false hq).trans (CC _ _ _)
 .have e:(if 2*bs*q+bs<n then bg false (bF (2*bs) l q) (2*bs*q) n else bF (2*bs) l q)=bF (2*bs) l q:=b9 hc;refine⟨λk=> ?_,?_,?_⟩
  .rw[hp,e];rcases F5 k q with h|h|h
   .exact hM k h
   .subst h;rw[N4 (by omega),tQ (by omega) (i6 _)];have:=hb (2*k);rw[ev,N4 (by omega)]at this;exact this
   .rw[OV (by have:=hgt k h;omega)];exact Qc
  .rw[hp,e];exact Jq _ _ _
  grind[CC]
theorem Zu{n:Nat}: ∀(f bs:Nat) (l:List Val),0<bs->n<=bs*2^f->l.length=n->Bk bs n l->(jN n f bs l).2=srt false l
 |0,bs,l,h0,hn,hl,hb=>by
  rw[jN,vA];have:=hb 0;grind[aU]
 |f+1,bs,l,h0,hn,hl,hb=>by
  rw[jN];by_cases h:bs<n
  .rw[e8 h];obtain⟨p1,p2,p3⟩:=XH h0 hl hb;rw[Zu f (2*bs) _ (by omega) (by grind) (by rw[p3.length_eq];exact hl) p1];exact srt_cl p2
  .rw[b9 h,vA];have:=hb 0;grind[aU]
end Go.Ev.S7
namespace Go.Ev.S7
open Go Go.Ev
theorem Qx{x y:Nat}(h:x*y<=1000000):aS .mul .i64 (x:Int) (y:Int)=((x*y:Nat):Int):=by
 have:aS .mul .i64 (x:Int) (y:Int)=IntKind.i64.wrap ((x:Int)*(y:Int)):=rfl;grind[Int.natCast_mul,iF]
theorem cv3{M:List Val}{n va vb:Val}{N a b:Nat}(ho:M.all okK=true)(hM:M.length=N)(hn:n.toI=(N:Int))(hN:N<=400)(ha:va.toI=(a:Int))(hb:vb.toI=(b:Int))(h1:a<=b)(h2:b<=N):(F 424 [.vl M,n,va,vb]).toB=true:=by
 show(ir (.vl M) n&&decide (0<=va.toI/\va.toI<=vb.toI/\vb.toI<=n.toI))=true;grind[and2,BH,decide_eq_true]
theorem Hq{B:Nat}{l:List Val}(h:l.all okK=true)(k:Nat):(bF B l k).all okK=true:=tY h (CC B l k)
theorem dR5{I:Opq}(hf: ∀i a,I.f i a=F i a){n:Nat}{l:List Val}(h1:(I.w 1).toI=n)(h2:(I.w 2).toI=n)(hl:l.length=n)(ho:l.all okK=true)(hn:n<=400):
 S5 (λvs=>R0 RS (I.upd 2000 vs)) [.vi 0,.vi 20,.vl l]=some (0,[.vi (20*(n/20):Nat),.vi (20*(n/20)+20:Nat),.vl (bF 20 l (n/20))]):=by
 refine sk (λk=>[.vi (20*k:Nat),.vi (20*k+20:Nat),.vl (bF 20 l k)]) (n:=n/20) rfl (λk hk=> ?_) ?_
 .have hk2:20*k+20<=n:=by omega
  obtain⟨aa,ae⟩: ∃aa,aa=I.upd 2000 [.vi (20*k:Nat),.vi (20*k+20:Nat),.vl (bF 20 l k)]:=⟨_,rfl⟩;have v0:aa.w 2000= .vi (20*k:Nat):=by rw[ae];rfl
  have v1:aa.w 2001= .vi (20*k+20:Nat):=by rw[ae];rfl
  have v2:aa.w 2002= .vl (bF 20 l k):=by rw[ae];rfl
  have u1:(aa.w 1).toI=n:=by rw[ae];exact h1
  have u2:(aa.w 2).toI=n:=by rw[ae];exact h2
  have hf': ∀i a,aa.f i a=F i a:=by rw[ae];exact hf
  rw[<-ae];refine S3 (by show decide ((aa.w 2001).toI<=(aa.w 2).toI)=true;rw[v1,u2];exact e9 (by show((20*k+20:Nat):Int)<=(n:Int);omega)) (R3 ?_ ?_)
  .show(aa.f 424 [aa.w 2002,aa.w 1,aa.w 2000,aa.w 2001]).toB=true;rw[hf',v0,v1,v2];exact cv3 (Hq ho k) (by grind[kU]) u1 hn rfl rfl (by omega) hk2
  .show some (0,[aa.w 2001,Val.vi (aS .add .i64 (aa.w 2001).toI 20),aa.f 425 [aa.w 2002,aa.w 2000,aa.w 2001]])=_;rw[hf',v0,v1,v2,vK rfl rfl,S6,show(20:Int)=((20:Nat):Int)from rfl,nN (by omega)];rfl
 .refine S4 ?_ rfl;show decide (((20*(n/20)+20:Nat):Int)<=(I.w 2).toI)=false;grind
theorem dR6{I:Opq}(hf: ∀i a,I.f i a=F i a){n bs:Nat}{l:List Val}(h1:(I.w 1).toI=n)(h2:I.w 2= .vi n)(h3:I.w 3000= .vi bs)(h0:0<bs)(hl:l.length=n)(ho:l.all okK=true)(hn:n<=400)(hbs:bs<=1000)(hb:Bk bs n l):
 S5 (λvs=>R0 OT (I.upd 4000 vs)) [.vi 0,.vi (2*bs:Nat),.vl l]=some (0,[.vi (2*bs*(n/(2*bs)):Nat),.vi (2*bs*(n/(2*bs))+2*bs:Nat),.vl (bF (2*bs) l (n/(2*bs)))]):=by
 have hq:2*bs*(n/(2*bs))<=n:=J5 n (2*bs);have hq2:n<2*bs*(n/(2*bs))+2*bs:=by
  have:=Q7 n (show 0<2*bs by omega);omega
 have ev: ∀k,bs*(2*k)=2*bs*k:=λk=>by grind
 have od: ∀k,bs*(2*k+1)=2*bs*k+bs:=λk=>by grind
 generalize n/(2*bs)=q at hq hq2⊢;refine sk (λk=>[.vi (2*bs*k:Nat),.vi (2*bs*k+2*bs:Nat),.vl (bF (2*bs) l k)]) (n:=q) (by rw[Nat.mul_zero,l7];rfl) (λk hk=> ?_) ?_
 .have hk2:2*bs*k+2*bs<=n:=by
   have:2*bs*(k+1)<=2*bs*q:=J4 _ hk;grind
  obtain⟨aa,ae⟩: ∃aa,aa=I.upd 4000 [.vi (2*bs*k:Nat),.vi (2*bs*k+2*bs:Nat),.vl (bF (2*bs) l k)]:=⟨_,rfl⟩;have v0:aa.w 4000= .vi (2*bs*k:Nat):=by rw[ae];rfl
  have v1:aa.w 4001= .vi (2*bs*k+2*bs:Nat):=by rw[ae];rfl
  have v2:aa.w 4002= .vl (bF (2*bs) l k):=by rw[ae];rfl
  have u1:(aa.w 1).toI=n:=by rw[ae];exact h1
  have u2:aa.w 2= .vi n:=by rw[ae];exact h2
  have u3:aa.w 3000= .vi bs:=by rw[ae];exact h3
  have hf': ∀i a,aa.f i a=F i a:=by rw[ae];exact hf
  have a1:aS .add .i64 ((2*bs*k:Nat):Int) (bs:Int)=((2*bs*k+bs:Nat):Int):=nN (by omega);have a2:aS .mul .i64 2 (bs:Int)=((2*bs:Nat):Int):=Qx (x:=2) (by omega);have a3:aS .add .i64 ((2*bs*k+2*bs:Nat):Int) ((2*bs:Nat):Int)=((2*bs*k+2*bs+2*bs:Nat):Int):=nN (by omega);have s1:=hb (2*k);rw[ev,A0 (by omega)]at s1;have s2:=hb (2*k+1);rw[<-ae];refine S3 (by show decide ((aa.w 4001).toI<=(aa.w 2).toI)=true;rw[v1,u2];exact e9 (by show((2*bs*k+2*bs:Nat):Int)<=(n:Int);omega)) (R3 ?_ ?_)
  .show(aa.f 426 [aa.w 4002,aa.w 1,aa.w 4000,Val.vi (aS .add .i64 (aa.w 4000).toI (aa.w 3000).toI),aa.w 4001,.vi 512]).toB=true;rw[hf',v0,v1,v2,u3,S6,S6,a1];exact IJ (Hq ho k) (by grind[kU]) u1 hn (by omega) (by omega) hk2 (by omega) (by rw[tQ (by omega) (i6 _)];exact s1) (by grind[tQ])
  .show some (0,[aa.w 4001,Val.vi (aS .add .i64 (aa.w 4001).toI (aS .mul .i64 2 (aa.w 3000).toI)),aa.f 425 [aa.w 4002,aa.w 4000,aa.w 4001]])=_;rw[hf',v0,v1,v2,u3,vK rfl rfl,S6,S6,a2,a3,Nat.mul_succ];rfl
 .refine S4 ?_ rfl;show decide (((2*bs*q+2*bs:Nat):Int)<=(I.w 2).toI)=false;rw[h2];exact j5 (by show¬((2*bs*q+2*bs:Nat):Int)<=(n:Int);omega)
def zT:SX:= .app 469 [.ci 0,.op (.ar .mul .i64) [.ci 2,.va 3000],.va 3001,.va 1,.va 3001,.va 2,.va 3000]
def kF:SX:= zo zT 0
def uj:SX:= zo zT 2
theorem de3:By= .ite (zs (.va 3000) (.va 2)) (.loop ⟨469,[.ci 0,.op (.ar .mul .i64) [.ci 2,.va 3000],.va 3001],4000,[.va 1,.va 3001,.va 2,.va 3000]⟩ OT [.ite (zs (za kF (.va 3000)) (.va 2)) (.need (.app 426 [uj,.va 1,kF,za kF (.va 3000),.va 2,.ci 512]) (.ret 0 [.op (.ar .mul .i64) [.va 3000,.ci 2],.app 425 [uj,kF,.va 2]])) (.ret 0 [.op (.ar .mul .i64) [.va 3000,.ci 2],uj])]) (.ret 1 [.va 3000,.va 3001]):=rfl
theorem de4{I:Opq}(hf: ∀i a,I.f i a=F i a){n bs:Nat}{l:List Val}(h1:(I.w 1).toI=n)(h2:I.w 2= .vi n)(h0:0<bs)(hlt:bs<n)(hl:l.length=n)(ho:l.all okK=true)(hn:n<=400)(hb:Bk bs n l):
 R0 By (I.upd 3000 [.vi bs,.vl l])=some (0,[.vi (2*bs:Nat),.vl (pass bs n l)]):=by
 obtain⟨aa,ae⟩: ∃aa,aa=I.upd 3000 [.vi bs,.vl l]:=⟨_,rfl⟩;have v0:aa.w 3000= .vi bs:=by rw[ae];rfl
 have v1:aa.w 3001= .vl l:=by rw[ae];rfl
 have u1:(aa.w 1).toI=n:=by rw[ae];exact h1
 have u2:aa.w 2= .vi n:=by rw[ae];exact h2
 have hf': ∀i a,aa.f i a=F i a:=by rw[ae];exact hf
 have a2:aS .mul .i64 2 (bs:Int)=((2*bs:Nat):Int):=Qx (x:=2) (by omega);have a2':aS .mul .i64 (bs:Int) 2=((2*bs:Nat):Int):=by grind[Nat.mul_comm,Qx]
 have it:=dR6 hf' (l:=l) u1 u2 v0 h0 hl ho hn (by omega) hb;have hp:pass bs n l=if 2*bs*(n/(2*bs))+bs<n then bg false (bF (2*bs) l (n/(2*bs))) (2*bs*(n/(2*bs))) n else bF (2*bs) l (n/(2*bs)):=rfl
 have hF: ∀x y:Val,F 469 [.vi 0,.vi (2*bs:Nat),.vl l,x,y,.vi n,.vi bs]=V0 (0,[.vi (2*bs*(n/(2*bs)):Nat),.vi (2*bs*(n/(2*bs))+2*bs:Nat),.vl (bF (2*bs) l (n/(2*bs)))]):=λ_ _=>rfl
 have hq:2*bs*(n/(2*bs))<=n:=J5 n (2*bs);have hq2:n<2*bs*(n/(2*bs))+2*bs:=by
  have:=Q7 n (show 0<2*bs by omega);omega
 generalize n/(2*bs)=q at it hp hF hq hq2;have e469:aM aa zT=V0 (0,[.vi (2*bs*q:Nat),.vi (2*bs*q+2*bs:Nat),.vl (bF (2*bs) l q)]):=by
  show aa.f 469 [.vi 0,.vi (aS .mul .i64 2 (aa.w 3000).toI),aa.w 3001,aa.w 1,aa.w 3001,aa.w 2,aa.w 3000]=_;simp_all
 have ea:aM aa kF= .vi (2*bs*q:Nat):=by show S0 (aM aa zT).toL 1 0=_;rw[e469];rfl
 have el:aM aa uj= .vl (bF (2*bs) l q):=by show S0 (aM aa zT).toL 1 2=_;rw[e469];rfl
 have eb:aM aa (za kF (.va 3000))= .vi (2*bs*q+bs:Nat):=by
  show Val.vi (aS .add .i64 (aM aa kF).toI (aa.w 3000).toI)=_;rw[ea,v0,S6,S6,nN (by omega)]
 rw[<-ae,de3];refine S3 (by show decide ((aa.w 3000).toI<(aa.w 2).toI)=true;simp_all) (R4 (r:=(0,[.vi (2*bs*q:Nat),.vi (2*bs*q+2*bs:Nat),.vl (bF (2*bs) l q)])) ?_ e469 ?_)
 .show S5 _ [.vi 0,.vi (aS .mul .i64 2 (aa.w 3000).toI),aa.w 3001]=_;simp_all
 .by_cases hc:2*bs*q+bs<n
  .refine S3 (by show decide ((aM aa (za kF (.va 3000))).toI<(aa.w 2).toI)=true;rw[eb,u2];exact e9 (by show((2*bs*q+bs:Nat):Int)<(n:Int);omega)) (R3 ?_ ?_)
   .show(aa.f 426 [aM aa uj,aa.w 1,aM aa kF,aM aa (za kF (.va 3000)),aa.w 2,.vi 512]).toB=true;rw[hf',el,ea,eb,u2];have s1:=hb (2*q);rw[<-Nat.mul_assoc,J0 bs 2,A0 (by omega)]at s1;have s2:=hb (2*q+1);exact IJ (Hq ho q) (by grind[kU]) u1 hn (by omega) hc (i6 _) (by omega) (by simp_all[tQ,i6]) (by grind[tQ])
   .show some (0,[Val.vi (aS .mul .i64 (aa.w 3000).toI 2),aa.f 425 [aM aa uj,aM aa kF,aa.w 2]])=_;grind[S6,vK]
  .refine S4 (by show decide ((aM aa (za kF (.va 3000))).toI<(aa.w 2).toI)=false;rw[eb,u2];exact j5 (by show¬((2*bs*q+bs:Nat):Int)<(n:Int);omega)) ?_;show some (0,[Val.vi (aS .mul .i64 (aa.w 3000).toI 2),aM aa uj])=_;simp_all
theorem dR7{I:Opq}(hf: ∀i a,I.f i a=F i a){n:Nat}(h1:(I.w 1).toI=n)(h2:I.w 2= .vi n)(hn:n<=400): ∀(f bs:Nat) (l:List Val),0<bs->n<=bs*2^f->l.length=n->l.all okK=true->Bk bs n l->
 Iter (λvs=>R0 By (I.upd 3000 vs)) [.vi bs,.vl l] 0 [.vi (jN n f bs l).1,.vl (jN n f bs l).2]:=by
 have out: ∀(bs:Nat) (l:List Val),n<=bs->R0 By (I.upd 3000 [.vi bs,.vl l])=some (1,[.vi bs,.vl l]):=λbs l h=>by
  refine S4 ?_ rfl;show decide ((bs:Int)<(I.w 2).toI)=false;simp_all
 intro f;induction f with
 |zero=>
  intro bs l h0 hb hl ho hbk;exact .out (out bs l (by omega))
 |succ f ih=>
  intro bs l h0 hb hl ho hbk;rw[jN];by_cases h:bs<n
  .rw[e8 h];obtain⟨p1,p2,p3⟩:=XH h0 hl hbk;exact .more (de4 hf h1 h2 h0 h hl ho hn hbk) (ih (2*bs) _ (by omega) (by grind) (by rw[p3.length_eq];exact hl) (tY ho p3) p1)
  .rw[b9 h];exact .out (out bs l (by omega))
theorem t_stab{I:Opq}(hf: ∀i a,I.f i a=F i a)(hn:(F 428 [I.w 0,I.w 1,I.w 2]).toB=true):R0 VV I=some (0,[F 425 [I.w 0,.vi 0,I.w 2]]):=by
 obtain⟨ho,hd⟩:=Q8 (show(ir (I.w 0) (I.w 1)&&(pL (I.w 2)&&decide ((I.w 2).toI=(I.w 1).toI)))=true from hn);obtain⟨i2,hd⟩:=Q8 hd;obtain⟨e0,oa,h1,hl⟩:=zI ho;have q1:=j6 hd;generalize hL:(I.w 0).toL=l at e0 oa h1 hl;obtain⟨n,hnn⟩: ∃n,l.length=n:=⟨_,rfl⟩;rw[hnn]at h1 hl;have w2:I.w 2= .vi n:=(GG i2).trans (congrArg Val.vi (q1.trans h1));have h2:(I.w 2).toI=n:=q1.trans h1;have hq:=J5 n 20;have e467:aM I AN=V0 (0,[.vi (20*(n/20):Nat),.vi (20*(n/20)+20:Nat),.vl (bF 20 l (n/20))]):=by
  show I.f 467 [.vi 0,.vi 20,I.w 0,I.w 1,I.w 0,I.w 2]=_;rw[hf,e0,w2];rfl
 have d1:aM I DK= .vl (bF 20 l (n/20)):=by show S0 (aM I AN).toL 1 2=_;rw[e467];rfl
 have d2:aM I CP= .vi (20*(n/20):Nat):=by show S0 (aM I AN).toL 1 0=_;rw[e467];rfl
 have d3:aM I nC= .vl (bg false (bF 20 l (n/20)) (20*(n/20)) n):=by
  show I.f 425 [aM I DK,aM I CP,I.w 2]=_;rw[hf,d1,d2,w2,vK rfl rfl]
 have bk:=cv1 hnn;have pm:(bg false (bF 20 l (n/20)) (20*(n/20)) n).Perm l:=(Bp false hq).trans (CC _ _ _);have cl:Cl false (bg false (bF 20 l (n/20)) (20*(n/20)) n) l:=(QM false hq).trans (Jq _ _ _);have bl:=kU 20 l (n/20);have ba:=Hq (B:=20) oa (n/20);generalize bg false (bF 20 l (n/20)) (20*(n/20)) n=L at d3 bk pm cl;have hres:=Zu 9 20 L (by omega) (by omega) (by rw[pm.length_eq];exact hnn) bk;rw[srt_cl cl]at hres;have e468:I.f 468 [.vi 20,aM I nC,I.w 1,aM I nC,I.w 2]=V0 (0,[.vi (jN n 9 20 L).1,.vl (jN n 9 20 L).2]):=by
  rw[hf,d3,w2];rfl
 have hF:F 425 [I.w 0,.vi 0,I.w 2]= .vl (srt false l):=by
  rw[e0,w2,show Val.vi 0= .vi ((0:Nat):Int)from rfl,vK rfl rfl,<-hnn,SE]
 rw[hF];refine R4 (r:=(0,[.vi (20*(n/20):Nat),.vi (20*(n/20)+20:Nat),.vl (bF 20 l (n/20))])) ?_ e467 (R3 ?_ ?_)
 .show S5 _ [.vi 0,.vi 20,I.w 0]=_;grind[dR5]
 .show(I.f 424 [aM I DK,I.w 1,aM I CP,I.w 2]).toB=true;rw[hf,d1,d2];exact cv3 ba (bl.trans hnn) h1 hl rfl h2 hq (i6 _)
 .refine R4 (r:=(0,[.vi (jN n 9 20 L).1,.vl (jN n 9 20 L).2])) ?_ e468 ?_
  .show S5 _ [.vi 20,aM I nC]=_;rw[d3,W2];exact dR7 hf h1 w2 hl 9 20 L (by omega) (by omega) (by rw[pm.length_eq];exact hnn) (tY oa pm) bk
  .show some (0,[S0 (I.f 468 [.vi 20,aM I nC,I.w 1,aM I nC,I.w 2]).toL 1 1])=_;rw[e468,hres];rfl
end Go.Ev.S7
namespace Go.Ev.S7
open Go Go.Ev
theorem t_cmpR{I:Opq}:R0 FX I=some (0,[F 206 [I.w 0,I.w 1,I.w 2,I.w 7,I.w 8,I.w 9]]):=by
 show R0 FX I=some (0,[Val.vi (Bw ⟨(I.w 0).toS,(I.w 1).toI,(I.w 2).toI⟩ ⟨(I.w 7).toS,(I.w 8).toI,(I.w 9).toI⟩)]);simp[FX,Ie,nT,nM,GP,R0,R7,aM,dB,W7,GY,EK,Pw,ad7,a21,aj4,show∀a b,np .lss a b=fX a b fromλ_ _=>rfl,show∀a b,np .gtr a b=fX b a fromλ_ _=>rfl,Bw,decide_eq_true_eq,S6];grind
theorem f431{v:Val}(h:(F 431 [v]).toB=true):v= .vl v.toL/\v.toL.all okK=true:=by
 obtain⟨h1,h2⟩:=Q8 (show(isL v&&v.toL.all okK)=true from h);grind[isL_at]
theorem t_sstab{I:Opq}(hf: ∀i a,I.f i a=F i a)(hn:(I.w 0).toL.length<=400)(h:(F 431 [I.w 0]).toB=true):R0 Xv I=some (0,[F 425 [I.w 0,.vi 0,.vi (I.w 0).toL.length]]):=by
 obtain⟨e,ho⟩:=f431 h;refine R3 ?_ ?_
 .show(I.f 428 [I.w 0,.vi (I.w 0).toL.length,.vi (I.w 0).toL.length]).toB=true;rw[hf];refine and2 ?_ (and2 rfl (e9 rfl));rw[e];exact BH ho rfl rfl hn
 .show some (0,[I.f 425 [I.w 0,.vi 0,.vi (I.w 0).toL.length]])=_;rw[hf]
theorem cM5(v:Val):F 425 [v,.vi 0,.vi v.toL.length]= .vl (srt false v.toL):=by
 show Val.vl (bg false v.toL 0 (nt (.vi v.toL.length)))=_;grind[nt,dR2,SE]
theorem t_aggSort{I:Opq}(hf: ∀i a,I.f i a=F i a)(hn:(I.w 0).toL.length<=400)(h:(F 431 [I.w 0]).toB=true):R0 Tn I=some (0,[F 490 [I.w 0]]):=by
 have e1:aM I (.app 425 [.va 0,.ci 0,zl 0])= .vl (srt false (I.w 0).toL):=by
  show I.f 425 [I.w 0,.vi 0,.vi (I.w 0).toL.length]=_;rw[hf,cM5]
 refine R3 ?_ (R3 ?_ ?_)
 .show(decide (((I.w 0).toL.length:Int)<=400)&&(I.f 431 [I.w 0]).toB)=true;grind
 .show decide (((I.w 0).toL.length:Int)=((aM I (.app 425 [.va 0,.ci 0,zl 0])).toL.length:Int))=true;rw[e1];exact e9 (by show((I.w 0).toL.length:Int)=((srt false (I.w 0).toL).length:Int);rw[srt_len])
 .show some (0,[aM I (.app 425 [.va 0,.ci 0,zl 0])])=_;rw[e1];rfl
theorem t_cloneR{I:Opq}(hf: ∀i a,I.f i a=F i a)(hn:(I.w 0).toL.length<=400)(h:(F 431 [I.w 0]).toB=true):R0 IT I=some (0,[I.w 0]):=by
 obtain⟨e,ho⟩:=f431 h;have hb:decide (((I.w 0).toL.length:Int)<=1000000)=true:=e9 (by omega);by_cases h0:0<(I.w 0).toL.length
 .have h1:decide ((0:Int)<((I.w 0).toL.length:Int))=true:=e9 (by omega);simp[IT,Jh,R0,R7,aM,dB,W7,h1,hb,h0,ad7,a21,a60,show(I.w 0).toL.length<=1000000 by omega]
 .have h2:(I.w 0).toL=[]:=A2.1 (by omega);have h3:I.w 0= .vl []:=by rw[e,h2]
  simp[IT,Jh,R0,R7,aM,dB,W7,h3,ad7,a21,a60]
end Go.Ev.S7
namespace Go.Ev
open Go
def DG:VT:= .ite (zt (.va 3000) 0) (.need (zn (zp (zm (.va 3000) (.ci 1))) (zs (zm (.va 3000) (.ci 1)) (zL (zc (.va 2002) (.op .row [zv 0 2001]))))) (.need (zs (zm (.va 3000) (.ci 1)) (zl 3001)) (.need (zn (zp (.va 3000)) (zs (.va 3000) (zL (zc (.va 2002) (.op .row [zv 0 2001]))))) (.need (zs (.va 3000) (zl 3001)) (.ite (.op (.scmp .neq) [.op .lget [.va 3001,zm (.va 3000) (.ci 1),.ci 0],zg 3001 3000 0]) (.ite (.op (.scmp .lss) [.op .lget [.va 3001,zm (.va 3000) (.ci 1),.ci 0],zg 3001 3000 0]) (.ret 1 [.va 3000,.va 3001]) (.need (zs (.va 3000) (zL (.op .lset [.va 3001,zm (.va 3000) (.ci 1),zv 3001 3000]))) (.ret 0 [zm (.va 3000) (.ci 1),.op .lset [.op .lset [.va 3001,zm (.va 3000) (.ci 1),zv 3001 3000],.va 3000,.op .row [.op .lget [.va 3001,zm (.va 3000) (.ci 1),.ci 0],.op .lget [.va 3001,zm (.va 3000) (.ci 1),.ci 1],.op .lget [.va 3001,zm (.va 3000) (.ci 1),.ci 2],.op .lget [.va 3001,zm (.va 3000) (.ci 1),.ci 3],.op .lget [.va 3001,zm (.va 3000) (.ci 1),.ci 4],.op .lget [.va 3001,zm (.va 3000) (.ci 1),.ci 5],.op .lget [.va 3001,zm (.va 3000) (.ci 1),.ci 6]]]]))) (.ite (.op (.cmp .neq) [.op .lget [.va 3001,zm (.va 3000) (.ci 1),.ci 2],zg 3001 3000 2]) (.ite (zs (.op .lget [.va 3001,zm (.va 3000) (.ci 1),.ci 2]) (zg 3001 3000 2)) (.ret 1 [.va 3000,.va 3001]) (.need (zs (.va 3000) (zL (.op .lset [.va 3001,zm (.va 3000) (.ci 1),zv 3001 3000]))) (.ret 0 [zm (.va 3000) (.ci 1),.op .lset [.op .lset [.va 3001,zm (.va 3000) (.ci 1),zv 3001 3000],.va 3000,.op .row [.op .lget [.va 3001,zm (.va 3000) (.ci 1),.ci 0],.op .lget [.va 3001,zm (.va 3000) (.ci 1),.ci 1],.op .lget [.va 3001,zm (.va 3000) (.ci 1),.ci 2],.op .lget [.va 3001,zm (.va 3000) (.ci 1),.ci 3],.op .lget [.va 3001,zm (.va 3000) (.ci 1),.ci 4],.op .lget [.va 3001,zm (.va 3000) (.ci 1),.ci 5],.op .lget [.va 3001,zm (.va 3000) (.ci 1),.ci 6]]]]))) (.ite (zs (.op .lget [.va 3001,zm (.va 3000) (.ci 1),.ci 1]) (zg 3001 3000 1)) (.ret 1 [.va 3000,.va 3001]) (.ite (.op (.cmp .gtr) [.op .lget [.va 3001,zm (.va 3000) (.ci 1),.ci 1],zg 3001 3000 1]) (.need (zs (.va 3000) (zL (.op .lset [.va 3001,zm (.va 3000) (.ci 1),zv 3001 3000]))) (.ret 0 [zm (.va 3000) (.ci 1),.op .lset [.op .lset [.va 3001,zm (.va 3000) (.ci 1),zv 3001 3000],.va 3000,.op .row [.op .lget [.va 3001,zm (.va 3000) (.ci 1),.ci 0],.op .lget [.va 3001,zm (.va 3000) (.ci 1),.ci 1],.op .lget [.va 3001,zm (.va 3000) (.ci 1),.ci 2],.op .lget [.va 3001,zm (.va 3000) (.ci 1),.ci 3],.op .lget [.va 3001,zm (.va 3000) (.ci 1),.ci 4],.op .lget [.va 3001,zm (.va 3000) (.ci 1),.ci 5],.op .lget [.va 3001,zm (.va 3000) (.ci 1),.ci 6]]]])) (.ret 1 [.va 3000,.va 3001]))))))))) (.ret 1 [.va 3000,.va 3001])
def dY1:VT:= .ite (zs (.va 2001) (zl 0)) (.need (zp (.va 2001)) (.need (zn (.op (.cmp .eql) [.va 2000,zl 2002]) (zb (zL (zc (.va 2002) (.op .row [zv 0 2001]))) 1000000)) (.loop ⟨481,[.va 2001,zc (.va 2002) (.op .row [zv 0 2001])],3000,[.ci 0,zl 0,.va 0,zL (zc (.va 2002) (.op .row [zv 0 2001])),zc (.va 2002) (.op .row [zv 0 2001]),.va 2001]⟩ DG [.need (.op (.cmp .eql) [zL (zc (.va 2002) (.op .row [zv 0 2001])),zL (zo (.app 481 [.va 2001,zc (.va 2002) (.op .row [zv 0 2001]),.ci 0,zl 0,.va 0,zL (zc (.va 2002) (.op .row [zv 0 2001])),zc (.va 2002) (.op .row [zv 0 2001]),.va 2001]) 1)]) (.ret 0 [zL (zo (.app 481 [.va 2001,zc (.va 2002) (.op .row [zv 0 2001]),.ci 0,zl 0,.va 0,zL (zc (.va 2002) (.op .row [zv 0 2001])),zc (.va 2002) (.op .row [zv 0 2001]),.va 2001]) 1),zi (.va 2001),zo (.app 481 [.va 2001,zc (.va 2002) (.op .row [zv 0 2001]),.ci 0,zl 0,.va 0,zL (zc (.va 2002) (.op .row [zv 0 2001])),zc (.va 2002) (.op .row [zv 0 2001]),.va 2001]) 1])]))) (.ret 1 [.va 2000,.va 2001,.va 2002])
def tX:SX:= .app 480 [.op .llen [.op .row []],.ci 0,.op .row [],.ci 0,zl 0,.va 0]
def Dz:SX:= zo tX 2
def Sy:VT:= .loop ⟨480,[.op .llen [.op .row []],.ci 0,.op .row []],2000,[.ci 0,zl 0,.va 0]⟩ dY1 [.need (.op (.cmp .eql) [zo tX 0,zL Dz]) (.ret 0 [Dz])]
def e16:VT:= .ite (zs (.va 2001) (zl 0)) (.need (zp (.va 2001)) (.need (zn (.op (.cmp .eql) [.va 2000,zl 2002]) (zb (zL (zc (.va 2002) (.op .row [zv 0 2001]))) 1000000)) (.ret 0 [zL (zc (.va 2002) (.op .row [zv 0 2001])),zi (.va 2001),zc (.va 2002) (.op .row [zv 0 2001])]))) (.ret 1 [.va 2000,.va 2001,.va 2002])
def Hc:SX:= .app 874 [.op .llen [.op .row []],.ci 0,.op .row [],.ci 0,zl 0,.va 0]
def Ig:SX:= zo Hc 2
def OW:VT:= .loop ⟨874,[.op .llen [.op .row []],.ci 0,.op .row []],2000,[.ci 0,zl 0,.va 0]⟩ e16 [.need (.op (.cmp .eql) [zo Hc 0,zL Ig]) (.ret 0 [Ig])]
end Go.Ev
namespace Go.Ev.S7
open Go Go.Ev
def ik:SX:= zc (.va 2002) (.op .row [zv 0 2001])
def MI:SX:= .app 481 [.va 2001,ik,.ci 0,zl 0,.va 0,zL ik,ik,.va 2001]
def tH:SX:= zo MI 1
theorem Tp:dY1= .ite (zs (.va 2001) (zl 0)) (.need (zp (.va 2001)) (.need (zn (.op (.cmp .eql) [.va 2000,zl 2002]) (zb (zL ik) 1000000)) (.loop ⟨481,[.va 2001,ik],3000,[.ci 0,zl 0,.va 0,zL ik,ik,.va 2001]⟩ DG [.need (.op (.cmp .eql) [zL ik,zL tH]) (.ret 0 [zL tH,zi (.va 2001),tH])]))) (.ret 1 [.va 2000,.va 2001,.va 2002]):=rfl
theorem cM6(B A:Val):U3 false B A=if(S1 A 0).toS=(S1 B 0).toS then decide ((S1 B 2).toI<(S1 A 2).toI)||decide ((S1 B 2).toI=(S1 A 2).toI)&&decide ((S1 B 1).toI<(S1 A 1).toI)else !fX (S1 A 0).toS (S1 B 0).toS:=by
 have h0:U3 false B A=(fX (S1 B 0).toS (S1 A 0).toS||decide ((S1 B 0).toS=(S1 A 0).toS)&&(decide ((S1 B 2).toI<(S1 A 2).toI)||decide ((S1 B 2).toI=(S1 A 2).toI)&&decide ((S1 B 1).toI<(S1 A 1).toI))):=rfl;rw[h0];generalize (S1 A 0).toS=ka;generalize (S1 B 0).toS=kb;by_cases h:ka=kb
 .subst h;rw[e8 rfl,show fX ka ka=false from GB ka,e9 rfl];simp
 .rw[b9 h,j5 (λe=>h e.symm),k9,Bool.or_false];cases h1:fX ka kb with
  |true=>
   rw[D7,<-A3];intro h2;have:=MN (show dH ka kb=true from h1) (show dH kb ka=true from h2);rw[GB]at this;cases this
  |false=>
   cases h2:fX kb ka with
   |true=>rfl
   |false=>exact absurd (Hy (show dH ka kb=false from h1) (show dH kb ka=false from h2)) h
theorem de6{I:Opq}{N k:Nat}{M:List Val}(hc:(I.w 2002).toL.length+1=N)(hM:M.length=N)(ho:M.all okK=true)(hk:k+1<N)(hN:N<=1000):
 R0 DG (I.upd 3000 [.vi (k+1:Nat),.vl M])=some (if U3 false (aO M (k+1)) (aO M k)then(0,[.vi k,.vl (eX M (k+1) k)])else(1,[.vi (k+1:Nat),.vl M])):=by
 have e1:=Yi (K:=k+1) (k:=k) rfl (by omega);have p0:(0:Int)<((k+1:Nat):Int):=by omega
 have p1:(0:Int)<=(k:Int):=by omega
 have p2:(k:Int)<N:=by omega
 have p3:(0:Int)<=((k+1:Nat):Int):=by omega
 have p4:((k+1:Nat):Int)<N:=by omega
 have hsw:(M.set k (W3 (aO M (k+1)))).set (k+1) (W3 (aO M k))=eX M (k+1) k:=by
  rw[GK ho (by omega),GK ho (by omega),OY (by omega)];rfl
 rw[cM6];unfold DG;simp only[R0,R7,aM,dB,W7,T1,Nat.reduceLeDiff,Nat.reduceSub,if_true,if_false,B7,B8,S6,af3,ad7,e1,a21,a60,aj4,bP7,bP8,show∀a b,np .lss a b=fX a b fromλ_ _=>rfl,p0,p1,p2,p3,p4,decide_true,C3,l5,List.length_cons,List.length_nil,l7,hc,hM,C1,oi,oq,oO,uM,we,sY,uK,Aw,Int.toNat_natCast,hsw];grind
theorem ZT{I:Opq}{N:Nat}(hc:(I.w 2002).toL.length+1=N)(hN:N<=1000): ∀(k:Nat) (M:List Val),k<N->M.length=N->M.all okK=true->
 Iter (λvs=>R0 DG (I.upd 3000 vs)) [.vi k,.vl M] 0 [.vi (bubA false 0 M k).1,.vl (bubA false 0 M k).2]
 |0,M,hk,hM,ho=>by
  refine .out ?_;rfl
 |k+1,M,hk,hM,ho=>by
  have hs:=de6 (I:=I) hc hM ho hk hN;unfold bubA;rw[l7];cases h:U3 false (aO M (k+1)) (aO M k)with
  |true=>
   rw[h,e8 rfl]at hs;exact .more hs (ZT hc hN k _ (by omega) (by grind[Ch]) (DC ho (by omega) (by omega)))
  |false=>
   rw[h,b9 (by simp)]at hs;exact .out hs
theorem cM7{l:List Val}(h:l.all okK=true):l.map W3=l:=by
 have: ∀x∈l,W3 x=id x:=λx hx=>okK_at (k6.1 h x hx)
 rw[x6 this,E9]
theorem de7(l:List Val){i:Nat}(hi:i<l.length):(bubA false 0 (srt false (l.take i)++[aO l i]) i).2=srt false (l.take (i+1)):=by
 have hl:(ju false (l.take i)).length=i:=by
  have:=srt_len false (l.take i);unfold srt at this;rw[List.length_reverse,k7]at this;omega
 have:=Kz false (aO l i) (P:=[]) (a:=0) rfl (ju false (l.take i)) [];rw[hl,List.nil_append,List.nil_append,p9]at this;unfold srt;rw[this,show l.take (i+1)=l.take i++[aO l i] by rw[M5,show l[i]?.toList=[aO l i] by simp[aO,j9,hi]],Xa]
theorem t_sort5{I:Opq}(hf: ∀i a,I.f i a=F i a)(hn:(I.w 0).toL.length<=400)(h:(F 431 [I.w 0]).toB=true):R0 Sy I=some (0,[F 490 [I.w 0]]):=by
 obtain⟨e,ho⟩:=f431 h;generalize hL:(I.w 0).toL=l at e ho hn;have e480:aM I tX=V0 (0,[.vi l.length,.vi l.length,.vl (srt false l)]):=by
  show I.f 480 [.vi (0:Nat),.vi 0,.vl [],.vi 0,.vi (I.w 0).toL.length,I.w 0]=_;rw[hf];show V0 (0,[.vi (I.w 0).toL.length,.vi (I.w 0).toL.length,.vl (srt false ((I.w 0).toL.map W3))])=_;rw[hL,cM7 ho]
 have d0:aM I (zo tX 0)= .vi l.length:=by show S0 (aM I tX).toL 1 0=_;rw[e480];rfl
 have d1:aM I Dz= .vl (srt false l):=by show S0 (aM I tX).toL 1 2=_;rw[e480];rfl
 have hF:F 490 [I.w 0]= .vl (srt false l):=by show Val.vl (srt false (I.w 0).toL)=_;rw[hL]
 rw[hF];refine R4 (r:=(0,[.vi l.length,.vi l.length,.vl (srt false l)])) ?_ e480 (R3 ?_ ?_)
 .refine sk (λi=>[.vi i,.vi i,.vl (srt false (l.take i))]) (n:=l.length) rfl (λi hi=> ?_) ?_
  .have tl:(srt false (l.take i)).length=i:=by grind[srt_len,List.length_take]
   have ta:(srt false (l.take i)).all okK=true:=tY (k6.2 λv hv=>k6.1 ho v (K0 hv)) (srt_perm false _);have hb:=de7 l hi;have hbl:(srt false (l.take (i+1))).length=i+1:=by grind[srt_len,List.length_take]
   generalize srt false (l.take i)=M0 at tl ta hb⊢;obtain⟨aa,ae⟩: ∃aa,aa=I.upd 2000 [.vi i,.vi i,.vl M0]:=⟨_,rfl⟩;have v0:aa.w 2000= .vi i:=by rw[ae];rfl
   have v1:aa.w 2001= .vi i:=by rw[ae];rfl
   have v2:aa.w 2002= .vl M0:=by rw[ae];rfl
   have u0:aa.w 0= .vl l:=by rw[ae];exact e
   have hf': ∀i a,aa.f i a=F i a:=by rw[ae];exact hf
   have xa:okK (aO l i)=true:=k6.1 ho _ (Co hi);have dc:aM aa ik= .vl (M0++[aO l i]):=by
    show Val.vl ((aa.w 2002).toL++[W3 (aO (aa.w 0).toL (aa.w 2001).toI.toNat)])=_;rw[v2,u0,v1];show Val.vl (M0++[W3 (aO l i)])=_;rw[okK_at xa]
   have ml:(M0++[aO l i]).length=i+1:=by grind
   have ma:(M0++[aO l i]).all okK=true:=by grind
   have de:aM aa MI=V0 (0,[.vi (bubA false 0 (M0++[aO l i]) i).1,.vl (srt false (l.take (i+1)))]):=by
    show aa.f 481 [aa.w 2001,aM aa ik,.vi 0,.vi (aa.w 0).toL.length,aa.w 0,.vi (aM aa ik).toL.length,aM aa ik,aa.w 2001]=_;rw[hf',dc,v1];show V0 (0,[.vi (bubA false 0 (M0++[aO l i]) i).1,.vl (bubA false 0 (M0++[aO l i]) i).2])=_;rw[hb]
   have df:aM aa tH= .vl (srt false (l.take (i+1))):=by show S0 (aM aa MI).toL 1 1=_;rw[de];rfl
   rw[<-ae,Tp];refine S3 (by show decide ((aa.w 2001).toI<((aa.w 0).toL.length:Int))=true;simp_all) (R3 (by show decide ((0:Int)<=(aa.w 2001).toI)=true;simp_all) (R3 ?_ (R4 (r:=(0,[.vi (bubA false 0 (M0++[aO l i]) i).1,.vl (srt false (l.take (i+1)))])) ?_ de (R3 ?_ ?_))))
   .show(decide ((aa.w 2000).toI=((aa.w 2002).toL.length:Int))&&decide (((aM aa ik).toL.length:Int)<=1000000))=true;rw[v0,v2,dc];exact and2 (e9 (by simp_all)) (e9 (by show((M0++[aO l i]).length:Int)<=1000000;omega))
   .show S5 _ [aa.w 2001,aM aa ik]=_;rw[v1,dc,W2,<-hb];exact ZT (N:=i+1) (by simp_all) (by omega) i _ (by omega) ml ma
   .show decide (((aM aa ik).toL.length:Int)=((aM aa tH).toL.length:Int))=true;simp_all
   .show some (0,[Val.vi ((aM aa tH).toL.length:Int),Val.vi (aS .add .i64 (aa.w 2001).toI 1),aM aa tH])=_;rw[df,v1,S6,qD (by omega)];simp_all
  .rw[Tp,x9];refine S4 ?_ rfl;show decide ((l.length:Int)<((I.w 0).toL.length:Int))=false;grind
 .show decide ((aM I (zo tX 0)).toI=((aM I Dz).toL.length:Int))=true;rw[d0,d1];exact e9 (by show(l.length:Int)=((srt false l).length:Int);rw[srt_len])
 .show some (0,[aM I Dz])=_;rw[d1]
end Go.Ev.S7
