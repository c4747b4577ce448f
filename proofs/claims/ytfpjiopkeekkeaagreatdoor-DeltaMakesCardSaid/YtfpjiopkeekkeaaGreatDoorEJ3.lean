import Derived.Test.YtfpjiopkeekkeaaGreatDoorEG3
set_option autoImplicit false
set_option linter.unusedSimpArgs false
set_option linter.unusedVariables false
namespace Go.Ev.S8
open Go Go.Ev Go.Ev.S7
theorem F_fx(i:Nat)(a:List Val):F i a=FX F i a:=by
 unfold FX;split<;>rfl
theorem fx{ω:Opq}(hf: ∀i a,ω.f i a=F i a): ∀i a,ω.f i a=FX F i a:=fun i a=>(hf i a).trans (F_fx i a)
theorem t_has{ω:Opq}:O8 T_has ω=some (0,[F 304 [ω.w 0,ω.w 1,ω.w 2,ω.w 3,ω.w 4,ω.w 5,ω.w 6,ω.w 7]]):=by
 have hF:F 304 [ω.w 0,ω.w 1,ω.w 2,ω.w 3,ω.w 4,ω.w 5,ω.w 6,ω.w 7]= .vb (hasV (ω.w 0).toI (ω.w 1).toS (ω.w 2).toS (ω.w 3).toI (ω.w 4).toI (ω.w 5).toS (ω.w 7).toI):=rfl
 rw[hF]
 unfold T_has cJ4 hasV
 simp only[O8,P2,den,dB,W0,O9,af4,S0,X6,bF5,Q0,U7,bF6,decide_eq_true_eq]
 by_cases k1:(ω.w 0).toI=1
 ·by_cases h:(ω.w 5).toS=(ω.w 1).toS<;>simp[k1,h]
 ·by_cases k2:(ω.w 0).toI=2
  ·cases h:bb7 .geq (ω.w 5).toS (ω.w 1).toS<;>by_cases h2:(ω.w 2).toS=[]<;>simp[k2,h,h2]
  ·by_cases k3:(ω.w 0).toI=3
   ·by_cases h:(ω.w 3).toI≤(ω.w 7).toI<;>simp[k3,h]
   ·simp[k1,k2,k3]
theorem b20{k:List UInt8}(h:k.length≤1000):(bk6 k).length≤2002:=by
 have:=(cr8 k).2;omega
theorem t_prim{ω:Opq}(hf: ∀i a,ω.f i a=F i a)(hn:(ω.w 0).toS.length≤1000):O8 T_prim ω=some (0,[F 306 [ω.w 0,ω.w 1,ω.w 2]]):=by
 have d0:den ω ay3= .vl (sbV (bk6 (ω.w 0).toS)):=bT (fx hf) 0
 have d1:den ω aa8= .vl (sbV (bk6 (ω.w 0).toS++b16 (ω.w 2).toI)):=by
  show Val.vl ((den ω ay3).toL++(den ω (.op .sbytes [.app 302 [.va 2]])).toL)=_
  rw[d0,bI (fx hf) 2,aU3];rfl
 have d2:den ω Y0= .vl (sbV (bk6 (ω.w 0).toS++b16 (ω.w 2).toI++b16 (ω.w 1).toI)):=by
  show Val.vl ((den ω aa8).toL++(den ω (.op .sbytes [.app 302 [.va 1]])).toL)=_
  rw[d1,bI (fx hf) 1,aU3 _ (b16 (ω.w 1).toI)];rfl
 have l0:=b20 hn
 have l1:=aJ5 (ω.w 2).toI
 have l2:=aJ5 (ω.w 1).toI
 have hl: ∀{e:SX} {l:List UInt8},den ω e= .vl (sbV l)→l.length≤1000000→dB ω (zb (zL e) 1000000)=true:=fun he h=>by
  show decide (((den ω _).toL.length:Int)≤1000000)=true
  rw[he,Q4,ah9];exact decide_eq_true (by omega)
 have hlen:(bk6 (ω.w 0).toS++b16 (ω.w 2).toI++b16 (ω.w 1).toI).length=(bk6 (ω.w 0).toS).length+8+8:=by rw[j5,j5,l1,l2]
 unfold T_prim
 refine need_ok (decide_eq_true (show((ω.w 0).toS.length:Int)≤1000 by omega)) (need_ok (hl d0 (by omega)) (need_ok (hl d1 (by rw[j5];omega)) (need_ok (hl d2 (by omega)) (need_ok ?_ (need_ok ?_ ?_)))))
 ·show decide ((0:Int)<((den ω Y0).toL.length:Int))=true
  rw[d2,Q4,ah9,hlen];exact decide_eq_true (by omega)
 ·show(decide (((den ω Y0).toL.length:Int)≤((den ω Y0).toL.length:Int))&&cK3 (den ω Y0).toL)=true
  rw[d2,Q4,bF7,decide_eq_true (K3 _)];rfl
 ·show some (0,[Val.vs (unV (den ω Y0).toL)])=_
  rw[d2,Q4,cK2];rfl
theorem t_sec{ω:Opq}(hf: ∀i a,ω.f i a=F i a)(hn:(ω.w 0).toS.length≤1000):O8 T_sec ω=some (0,[F 307 [ω.w 0,ω.w 1,ω.w 2]]):=by
 have d0:den ω cr2= .vl (sbV (b16 (ω.w 2).toI)):=bI (fx hf) 2
 have d1:den ω cr3= .vl (sbV (b16 (ω.w 2).toI++bk6 (ω.w 0).toS)):=by
  show Val.vl ((den ω cr2).toL++(den ω (.op .sbytes [.app 301 [.va 0]])).toL)=_
  rw[d0,bT (fx hf) 0,aU3];rfl
 have d2:den ω aG9= .vl (sbV (b16 (ω.w 2).toI++bk6 (ω.w 0).toS++b16 (ω.w 1).toI)):=by
  show Val.vl ((den ω cr3).toL++(den ω (.op .sbytes [.app 302 [.va 1]])).toL)=_
  rw[d1,bI (fx hf) 1,aU3 _ (b16 (ω.w 1).toI)];rfl
 have l0:=b20 hn
 have l1:=aJ5 (ω.w 2).toI
 have l2:=aJ5 (ω.w 1).toI
 have hl: ∀{e:SX} {l:List UInt8},den ω e= .vl (sbV l)→l.length≤1000000→dB ω (zb (zL e) 1000000)=true:=fun he h=>by
  show decide (((den ω _).toL.length:Int)≤1000000)=true
  rw[he,Q4,ah9];exact decide_eq_true (by omega)
 have hlen:(b16 (ω.w 2).toI++bk6 (ω.w 0).toS++b16 (ω.w 1).toI).length=8+(bk6 (ω.w 0).toS).length+8:=by rw[j5,j5,l1,l2]
 unfold T_sec
 refine need_ok (hl d0 (by omega)) (need_ok (decide_eq_true (show((ω.w 0).toS.length:Int)≤1000 by omega)) (need_ok (hl d1 (by rw[j5];omega)) (need_ok (hl d2 (by omega)) (need_ok ?_ (need_ok ?_ ?_)))))
 ·show decide ((0:Int)<((den ω aG9).toL.length:Int))=true
  rw[d2,Q4,ah9,hlen];exact decide_eq_true (by omega)
 ·show(decide (((den ω aG9).toL.length:Int)≤((den ω aG9).toL.length:Int))&&cK3 (den ω aG9).toL)=true
  rw[d2,Q4,bF7,decide_eq_true (K3 _)];rfl
 ·show some (0,[Val.vs (unV (den ω aG9).toL)])=_
  rw[d2,Q4,cK2];rfl
theorem S5{step:List Val→Option (Nat×List Val)}(st:Nat→List Val){n j:Nat}{p s:List Val}(h0:s=st 0)(h1: ∀i,i<n→step (st i)=some (0,st (i+1)))(h2:step (st n)=some (j+1,p)):Q9 step s=some (j,p):=by
 rw[h0];exact au1 h1 h2
theorem d52{i:Nat}(h:i≤1000000):arI .add .i64 (i:Int) 1=((i+1:Nat):Int):=aD6 (by omega)
theorem de8{K k:Nat}(h:K=k+1)(h2:K≤10000000):arI .sub .i64 (K:Int) 1=(k:Int):=by
 rw[bu5 (by omega) (by omega)];omega
theorem cN8(a b c d e:Val)(r x:Val):F 304 [a,b,c,d,e,P3 r 0,x,P3 r 2]= .vb (hasR [a,b,c,d,e] r):=rfl
def fil(ω:Opq):List Val:=[ω.w 0,ω.w 1,ω.w 2,ω.w 3,ω.w 4]
theorem bb1(ω:Opq)(t:List Val)(r:Val):hasR (ω.w 0::ω.w 1::ω.w 2::ω.w 3::ω.w 4::t) r=hasR (fil ω) r:=rfl
theorem cs9:(2000≤2000)=True:=by simp
theorem ct0:(2000≤2001)=True:=by simp
theorem cN9:(2000≤2002)=True:=by simp
theorem w0:(2000≤0)=False:=by simp
theorem w1:(2000≤1)=False:=by simp
theorem w2:(2000≤2)=False:=by simp
theorem w3:(2000≤3)=False:=by simp
theorem w4:(2000≤4)=False:=by simp
theorem w5:(2000≤5)=False:=by simp
theorem aA5(x:Val)(l:List Val):arg (x::l) 0=x:=rfl
theorem aA6(x:Val)(l:List Val)(n:Nat):arg (x::l) (n+1)=arg l n:=rfl
@[simp]theorem a26{i:Nat}(h:i≤10000000):arI .add .i64 (i:Int) 1=((i+1:Nat):Int):=aD6 h
theorem Z6(l:List Val)(i:Nat):S4 l (i:Int) 3=P3 (atV l i) 3:=rfl
theorem Z7(l:List Val)(i:Nat):S4 l (i:Int) 4=P3 (atV l i) 4:=rfl
theorem Z8(l:List Val)(i:Nat):S4 l (i:Int) 5=P3 (atV l i) 5:=rfl
theorem Z9(l:List Val)(i:Nat):S4 l (i:Int) 6=P3 (atV l i) 6:=rfl
theorem ai1(l:List Val)(i:Nat):S4 l (i:Int) 7=P3 (atV l i) 7:=rfl
theorem aD7(r:Val):Val.vl [P3 r 0,P3 r 1,P3 r 2,P3 r 3,P3 r 4,P3 r 5,P3 r 6,P3 r 7]=Z5 r:=rfl
theorem bH2(bad:Val→Bool)(l:List Val)(px:Nat→List Val)(x:Val):aq3 x px (fun i=>bad (atV l i)) l.length=if l.any bad then(1,px (((List.range l.length).find? (fun i=>bad (atV l i))).getD 0))else(0,[x,.vi l.length]):=by
  rw[ap1]
  rw[show(List.range l.length).any (fun i=>bad (atV l i))=l.any bad from az4 bad (.vl []) l]
theorem aJ9{α β:Type}(f:α→β): ∀l:List α,l.flatMap (fun r=>[f r])=l.map f
 | []=>rfl
 |a::l=>by rw[A4,aJ9 f l];rfl
theorem aA8{step:List Val→Option (Nat×List Val)}{n:Nat}{a0:List Val}{g:Nat→List Val}(mk:Nat→List Val→List Val){s0 p:List Val}(h0:s0=mk 0 a0)
 (h1: ∀i,i<n→step (mk i (a0++a10 g i))=some (0,mk (i+1) (a0++a10 g i++g i))) (h2:step (mk n (a0++a10 g n))=some (1,p)):Q9 step s0=some (0,p):=by
 have:=au1 (step:=step) (st:=fun i=>mk i (a0++a10 g i)) (n:=n) (j:=0) (p:=p) (fun i hi=>by
   show step (mk i (a0++a10 g i))=some (0,mk (i+1) (a0++(a10 g i++g i)))
   rw[h1 i hi,u5]) h2
 rw[h0]
 simpa only[a10,v8]using this
theorem t_cloneC{ω:Opq}(hn:(ω.w 0).toL.length≤100)(hl:isL (ω.w 0)=true):O8 T_cloneC ω=some (0,[ω.w 0]):=by
 have e:=isL_at hl
 generalize (ω.w 0).toL=l at hn e
 unfold T_cloneC b84
 have h1:(l.length:Int)≤1000000:=by omega
 simp only[O8,P2,den,dB,W0,e,Q4,O9,S0,Q0,R1,h1,decide_true,if_true]
 cases l with
 |nil=>simp[e]
 |cons x l=>rw[if_pos (decide_eq_true (by rw[List.length_cons];omega))]
theorem t_cmpC{ω:Opq}(hf: ∀i a,ω.f i a=F i a)(h1:(ω.w 0).toS.length≤1000)(h2:(ω.w 8).toS.length≤1000):O8 T_cmpC ω=some (0,[F 308 [ω.w 0,ω.w 1,ω.w 2,ω.w 8,ω.w 9,ω.w 10,ω.w 16,ω.w 17,ω.w 18,ω.w 19,ω.w 20]]):=by
 have hF:F 308 [ω.w 0,ω.w 1,ω.w 2,ω.w 8,ω.w 9,ω.w 10,ω.w 16,ω.w 17,ω.w 18,ω.w 19,ω.w 20]= .vi (cR8 (bk8 (decide ((ω.w 16).toI=3)) (ω.w 0).toS (ω.w 1).toI (ω.w 2).toI) (bk8 (decide ((ω.w 16).toI=3)) (ω.w 8).toS (ω.w 9).toI (ω.w 10).toI)):=rfl
 have f7: ∀a b c:Val,F 307 [a,b,c]= .vs (bk8 true a.toS b.toI c.toI):=fun _ _ _=>rfl
 have f6: ∀a b c:Val,F 306 [a,b,c]= .vs (bk8 false a.toS b.toI c.toI):=fun _ _ _=>rfl
 have g1:((ω.w 0).toS.length:Int)≤1000:=by omega
 have g2:((ω.w 8).toS.length:Int)≤1000:=by omega
 rw[hF]
 unfold T_cmpC c90 c91 c92 c93 c94 c95 cR8
 simp only[O8,P2,den,dB,W0,O9,af4,S0,U7,R1,g1,g2,decide_true,if_true,hf,f6,f7,show∀a b,bb7 .lss a b=ltB a b from fun _ _=>rfl,show∀a b,bb7 .gtr a b=ltB b a from fun _ _=>rfl]
 by_cases h:(ω.w 16).toI=3
 ·simp only[h,decide_true,if_true]
  cases ltB (bk8 true (ω.w 0).toS (ω.w 1).toI (ω.w 2).toI) (bk8 true (ω.w 8).toS (ω.w 9).toI (ω.w 10).toI)<;>cases ltB (bk8 true (ω.w 8).toS (ω.w 9).toI (ω.w 10).toI) (bk8 true (ω.w 0).toS (ω.w 1).toI (ω.w 2).toI)<;>rfl
 ·simp only[h,decide_false,j9,if_false]
  cases ltB (bk8 false (ω.w 0).toS (ω.w 1).toI (ω.w 2).toI) (bk8 false (ω.w 8).toS (ω.w 9).toI (ω.w 10).toI)<;>cases ltB (bk8 false (ω.w 8).toS (ω.w 9).toI (ω.w 10).toI) (bk8 false (ω.w 0).toS (ω.w 1).toI (ω.w 2).toI)<;>rfl
end Go.Ev.S8
namespace Go.Ev.S8
open Go Go.Ev Go.Ev.S7
theorem aY0{x y:Nat}(h:x+y≤1000000):arI .add .i64 (x:Int) (y:Int)=((x+y:Nat):Int):=by
 rw[aU2 (by omega) (by omega)];omega
theorem au4{x y:Nat}(h:y≤x)(h2:x≤1000000):arI .sub .i64 (x:Int) (y:Int)=((x-y:Nat):Int):=by
 rw[bu5 (by omega) (by omega)];omega
theorem aU9{x:Nat}(h:1≤x)(h2:x≤1000000):arI .sub .i64 (x:Int) 1=((x-1:Nat):Int):=by
 rw[bu5 (by omega) (by omega)];omega
theorem au5{x:Nat}(h2:x≤1000000):arI .add .i64 (x:Int) 1=((x+1:Nat):Int):=by
 rw[aU2 (by omega) (by omega)];omega
theorem ab8{v:Val}(h:0≤v.toI):v.toI=(nt v:Int):=by unfold nt;omega
theorem d36(n:Nat):nt (.vi n)=n:=rfl
theorem okN{l:List Val}(h:l.all okK=true){k:Nat}(hk:k<l.length):Z5 (atV l k)=atV l k:=cy7 (okK_at (j6.1 h _ (atV_mem hk))).1
theorem Y8{l q:List Val}{f:Val→Bool}(h:l.all f=true)(hp:q.Perm l):q.all f=true:=j6.2 fun v hv=>j6.1 h v (hp.mem_iff.1 hv)
theorem ah2{l:List Val}{i j:Nat}(h:l.all okK=true)(hi:i<l.length)(hj:j<l.length):(swp l i j).all okK=true:=by
 rw[j6]at h⊢
 intro v hv
 unfold swp at hv
 rcases G6 hv with hv|rfl
 ·rcases G6 hv with hv|rfl
  ·exact h v hv
  ·exact h _ (atV_mem hj)
 ·exact h _ (atV_mem hi)
theorem a87{l:List Val}(h:l.all okK=true){i j:Nat}(hi:i<l.length)(hj:j<l.length):(l.set i (Z5 (atV l j))).set j (Z5 (atV l i))=swp l i j:=by
 rw[okN h hi,okN h hj];rfl
theorem a42{l:List Val}{a b:Nat}(h:l.all okK=true): ∀n,a+n≤l.length→b+n≤l.length→(swN l a b n).all okK=true
 |0,_,_=>h
 |n+1,h1,h2=>ah2 (a42 h n (by omega) (by omega)) (by rw[a05];omega) (by rw[a05];omega)
theorem cO0{ω:Opq}{a b n N i:Nat}(h7:(ω.w 7).toI=a)(h8:(ω.w 8).toI=b)(h9:(ω.w 9).toI=n)(h6:(ω.w 6).toI=N)(hi:i<n)(h1:a+n≤b)(h2:b+n≤N)(hN:N≤100){M:List Val}(hM:M.length=N)(ho:M.all okK=true):
 O8 d93 (ω.upd 2000 [.vi i,.vl M])=some (0,[.vi (i+1:Nat),.vl (swp M (a+i) (b+i))]):=by
 have e1:=aY0 (x:=a) (y:=i) (by omega)
 have e2:=aY0 (x:=b) (y:=i) (by omega)
 have e3:=au5 (x:=i) (by omega)
 have p1:(i:Int)<n:=by omega
 have p2:(0:Int)≤((b+i:Nat):Int):=by omega
 have p3:((b+i:Nat):Int)<N:=by omega
 have p4:(0:Int)≤((a+i:Nat):Int):=by omega
 have p5:((a+i:Nat):Int)<N:=by omega
 rw[←a87 ho (by omega) (by omega)]
 unfold d93
 simp only[O8,P2,den,dB,W0,R9,Nat.reduceLeDiff,Nat.reduceSub,if_true,if_false,m6,o7,O9,Q4,S0,h7,h8,h9,h6,e1,e2,e3,Q0,R1,p1,p2,p3,p4,p5,decide_true,s8,hM,w6,W2,W3,W4,Z6,Z7,Z8,Z9,ai1,aD7,Int.toNat_natCast]
theorem t_swapR{ω:Opq}(hf: ∀i a,ω.f i a=F i a)(hn:(F 620 [ω.w 5,ω.w 6,ω.w 7,ω.w 8,ω.w 9]).toB=true):O8 T_swapR ω=some (0,[F 621 [ω.w 5,ω.w 7,ω.w 8,ω.w 9]]):=by
 obtain⟨ho,hd⟩:=O4 (show(aq5 (ω.w 5) (ω.w 6)&&decide (0≤(ω.w 7).toI∧0≤(ω.w 9).toI∧(ω.w 7).toI+(ω.w 9).toI≤(ω.w 8).toI∧(ω.w 8).toI+(ω.w 9).toI≤(ω.w 6).toI))=true from hn)
 obtain⟨e5,oa,h6,hl⟩:=ab6 ho
 obtain⟨q1,q2,q3,q4⟩:=of_decide_eq_true hd
 have h7:=ab8 q1
 have h9:=ab8 q2
 have h8:=ab8 (show 0≤(ω.w 8).toI by omega)
 have hF:F 621 [ω.w 5,ω.w 7,ω.w 8,ω.w 9]= .vl (swN (ω.w 5).toL (nt (ω.w 7)) (nt (ω.w 8)) (nt (ω.w 9))):=rfl
 have hF2: ∀a c d:Val,F 652 [a,ω.w 5,c,d,ω.w 7,ω.w 8,ω.w 9]=T1 (0,[.vi (nt (ω.w 9)),.vl (swN (ω.w 5).toL (nt (ω.w 7)) (nt (ω.w 8)) (nt (ω.w 9)))]):=fun _ _ _=>rfl
 rw[hF]
 unfold T_swapR
 refine P5 (r:=(0,[.vi (nt (ω.w 9)),.vl (swN (ω.w 5).toL (nt (ω.w 7)) (nt (ω.w 8)) (nt (ω.w 9)))])) ?_ ?_ ?_
 ·refine S5 (fun i=>[.vi i,.vl (swN (ω.w 5).toL (nt (ω.w 7)) (nt (ω.w 8)) i)]) (n:=nt (ω.w 9)) (by rw[show P2 ω [.ci 0,.va 5]=[.vi 0,ω.w 5]from rfl,e5];rfl) (fun i hi=> ?_) ?_
  ·exact cO0 h7 h8 h9 h6 hi (by omega) (by omega) hl (a05 ..) (a42 oa i (by omega) (by omega))
  ·unfold d93
   have p1: ¬((nt (ω.w 9):Nat):Int)<(ω.w 9).toI:=by omega
   simp only[O8,P2,den,dB,W0,R9,Nat.reduceLeDiff,Nat.reduceSub,if_true,if_false,m6,o7,O9,Q4,S0,Q0,p1,decide_false,j9]
 ·show ω.f 652 [.vi 0,ω.w 5,ω.w 6,ω.w 5,ω.w 7,ω.w 8,ω.w 9]=_
  rw[hf,hF2]
 ·show some (0,[S4 (ω.f 652 [.vi 0,ω.w 5,ω.w 6,ω.w 5,ω.w 7,ω.w 8,ω.w 9]).toL 1 1])=_
  rw[hf,hF2];rfl
theorem ah3(m N:Nat): ∀(n i j:Nat) (M:List Val),0<i→0<j→i≤m→m+j≤N→M.length=N→M.all okK=true→(ar4 m n i j M).2.all okK=true∧(ar4 m n i j M).2.length=N
 |0,i,j,M,_,_,_,_,hM,ho=>⟨ho,hM⟩
 |n+1,i,j,M,hi,hj,him,hjN,hM,ho=>by
  unfold ar4
  by_cases h1:i=j
  ·rw[if_pos h1];exact⟨ho,hM⟩
  ·rw[if_neg h1]
   by_cases h2:j<i
   ·rw[if_pos h2]
    exact ah3 m N n (i-j) j _ (by omega) hj (by omega) hjN (by rw[a05];exact hM) (a42 ho j (by omega) (by omega))
   ·rw[if_neg h2]
    exact ah3 m N n i (j-i) _ hi (by omega) him (by omega) (by rw[a05];exact hM) (a42 ho i (by omega) (by omega))
theorem ab9{l:List Val}{n:Val}{N:Nat}(ho:l.all okK=true)(hl:l.length=N)(hn:n.toI=(N:Int))(hN:N≤100):aq5 (.vl l) n=true:=
 and2 rfl (and2 ho (and2 (decide_eq_true (by rw[hn];show(N:Int)=(l.length:Int);omega)) (decide_eq_true (by show l.length≤100;omega))))
theorem ah4{v:Val}{n:Nat}(h:v.toI=(n:Int)):nt v=n:=by unfold nt;omega
theorem bw7{M:List Val}{n va vb vk:Val}{N a b k:Nat}(ho:M.all okK=true)(hM:M.length=N)(hn:n.toI=(N:Int))(hN:N≤100)(ha:va.toI=(a:Int))(hb:vb.toI=(b:Int))(hk:vk.toI=(k:Int))(h1:a+k≤b)(h2:b+k≤N):(F 620 [.vl M,n,va,vb,vk]).toB=true:=by
 show(aq5 (.vl M) n&&decide (0≤va.toI∧0≤vk.toI∧va.toI+vk.toI≤vb.toI∧vb.toI+vk.toI≤n.toI))=true
 exact and2 (ab9 ho hM hn hN) (decide_eq_true (by rw[hn,ha,hb,hk];omega))
theorem df7{M:List Val}{va vb vk:Val}{a b k:Nat}(ha:va.toI=(a:Int))(hb:vb.toI=(b:Int))(hk:vk.toI=(k:Int)):F 621 [.vl M,va,vb,vk]= .vl (swN M a b k):=by
 show Val.vl (swN M (nt va) (nt vb) (nt vk))=_
 rw[ah4 ha,ah4 hb,ah4 hk]
def bb2:SX:= zm (.va 8) (.va 2000)
def ce4:SX:= zm (za (.va 8) (.va 2001)) (.va 2000)
theorem bw8:cR1= .ite (.op (.cmp .neq) [.va 2000,.va 2001]) (.ite (.op (.cmp .gtr) [.va 2000,.va 2001]) (.need (.app 620 [.va 2002,.va 6,bb2,.va 8,.va 2001]) (.ret 0 [zm (.va 2000) (.va 2001),.va 2001,.app 621 [.va 2002,bb2,.va 8,.va 2001]])) (.need (.app 620 [.va 2002,.va 6,bb2,ce4,.va 2000]) (.ret 0 [.va 2000,zm (.va 2001) (.va 2000),.app 621 [.va 2002,bb2,ce4,.va 2000]]))) (.ret 1 [.va 2000,.va 2001,.va 2002]):=rfl
theorem cO1{ω:Opq}(hf: ∀i a,ω.f i a=F i a){m N:Nat}(h8:(ω.w 8).toI=m)(h6:(ω.w 6).toI=N)(hN:N≤100): ∀(n i j:Nat) (M:List Val),i+j≤n+1→0<i→0<j→i≤m→m+j≤N→M.length=N→M.all okK=true→
 Iter (fun vs=>O8 cR1 (ω.upd 2000 vs)) [.vi i,.vi j,.vl M] 0 [.vi (ar4 m n i j M).1,.vi (ar4 m n i j M).1,.vl (ar4 m n i j M).2]
 |0,i,j,M,hn,hi,hj,him,hjN,hM,ho=>by omega
 |n+1,i,j,M,hn,hi,hj,him,hjN,hM,ho=>by
  obtain⟨ω',hω⟩: ∃ω',ω'=ω.upd 2000 [.vi i,.vi j,.vl M]:=⟨_,rfl⟩
  have v0:ω'.w 2000= .vi i:=by rw[hω];rfl
  have v1:ω'.w 2001= .vi j:=by rw[hω];rfl
  have v2:ω'.w 2002= .vl M:=by rw[hω];rfl
  have u8:(ω'.w 8).toI=m:=by rw[hω];exact h8
  have u6:(ω'.w 6).toI=N:=by rw[hω];exact h6
  have hf': ∀i a,ω'.f i a=F i a:=by rw[hω];exact hf
  have a1:den ω' bb2= .vi (m-i:Nat):=by
   show Val.vi (arI .sub .i64 (ω'.w 8).toI (ω'.w 2000).toI)=_
   rw[u8,v0,O9,au4 him (by omega)]
  have a2:den ω' ce4= .vi (m+j-i:Nat):=by
   show Val.vi (arI .sub .i64 (arI .add .i64 (ω'.w 8).toI (ω'.w 2001).toI) (ω'.w 2000).toI)=_
   rw[u8,v0,v1,O9,O9,aY0 (by omega),au4 (by omega) (by omega)]
  unfold ar4
  by_cases h1:i=j
  ·rw[if_pos h1]
   refine .out ?_
   show O8 cR1 (ω.upd 2000 [.vi i,.vi j,.vl M])=_
   rw[←hω,bw8]
   refine ite_f (by show(!decide ((ω'.w 2000).toI=(ω'.w 2001).toI))=false;rw[v0,v1,O9,O9,h1,decide_eq_true rfl];rfl) ?_
   show some (1,[ω'.w 2000,ω'.w 2001,ω'.w 2002])=_
   rw[v0,v1,v2,h1]
  ·rw[if_neg h1]
   have c1:dB ω' (.op (.cmp .neq) [.va 2000,.va 2001])=true:=by
    show(!decide ((ω'.w 2000).toI=(ω'.w 2001).toI))=true
    rw[v0,v1,O9,O9,decide_eq_false (by omega)];rfl
   by_cases h2:j<i
   ·rw[if_pos h2]
    refine .more (vs':=[.vi (i-j:Nat),.vi j,.vl (swN M (m-i) m j)]) ?_ (cO1 hf h8 h6 hN n (i-j) j _ (by omega) (by omega) hj (by omega) hjN (by rw[a05];exact hM) (a42 ho j (by omega) (by omega)))
    show O8 cR1 (ω.upd 2000 [.vi i,.vi j,.vl M])=_
    rw[←hω,bw8]
    refine ite_t c1 (ite_t (by show decide ((ω'.w 2001).toI<(ω'.w 2000).toI)=true;rw[v0,v1];exact decide_eq_true (by show(j:Int)<(i:Int);omega)) (need_ok ?_ ?_))
    ·show(ω'.f 620 [ω'.w 2002,ω'.w 6,den ω' bb2,ω'.w 8,ω'.w 2001]).toB=true
     rw[hf',v2,a1,v1]
     exact bw7 ho hM u6 hN rfl u8 rfl (by omega) (by omega)
    ·show some (0,[Val.vi (arI .sub .i64 (ω'.w 2000).toI (ω'.w 2001).toI),ω'.w 2001,ω'.f 621 [ω'.w 2002,den ω' bb2,ω'.w 8,ω'.w 2001]])=_
     rw[hf',v0,v1,v2,a1,O9,O9,au4 (by omega) (by omega),df7 rfl u8 rfl]
   ·rw[if_neg h2]
    refine .more (vs':=[.vi i,.vi (j-i:Nat),.vl (swN M (m-i) (m+j-i) i)]) ?_ (cO1 hf h8 h6 hN n i (j-i) _ (by omega) hi (by omega) him (by omega) (by rw[a05];exact hM) (a42 ho i (by omega) (by omega)))
    show O8 cR1 (ω.upd 2000 [.vi i,.vi j,.vl M])=_
    rw[←hω,bw8]
    refine ite_t c1 (ite_f (by show decide ((ω'.w 2001).toI<(ω'.w 2000).toI)=false;rw[v0,v1];exact decide_eq_false (by show¬(j:Int)<(i:Int);omega)) (need_ok ?_ ?_))
    ·show(ω'.f 620 [ω'.w 2002,ω'.w 6,den ω' bb2,den ω' ce4,ω'.w 2000]).toB=true
     rw[hf',v2,a1,a2,v0]
     exact bw7 ho hM u6 hN rfl rfl rfl (by omega) (by omega)
    ·show some (0,[ω'.w 2000,Val.vi (arI .sub .i64 (ω'.w 2001).toI (ω'.w 2000).toI),ω'.f 621 [ω'.w 2002,den ω' bb2,den ω' ce4,ω'.w 2000]])=_
     rw[hf',v0,v1,v2,a1,a2,O9,O9,au4 (by omega) (by omega),df7 rfl rfl rfl]
theorem t_rotC{ω:Opq}(hf: ∀i a,ω.f i a=F i a)(hn:(F 622 [ω.w 5,ω.w 6,ω.w 7,ω.w 8,ω.w 9]).toB=true):O8 T_rotC ω=some (0,[F 623 [ω.w 5,ω.w 7,ω.w 8,ω.w 9]]):=by
 obtain⟨ho,hd⟩:=O4 (show(aq5 (ω.w 5) (ω.w 6)&&decide (0≤(ω.w 7).toI∧(ω.w 7).toI<(ω.w 8).toI∧(ω.w 8).toI<(ω.w 9).toI∧(ω.w 9).toI≤(ω.w 6).toI))=true from hn)
 obtain⟨e5,oa,h6,hl⟩:=ab6 ho
 obtain⟨q1,q2,q3,q4⟩:=of_decide_eq_true hd
 have h7:=ab8 q1
 have h8:=ab8 (show 0≤(ω.w 8).toI by omega)
 have h9:=ab8 (show 0≤(ω.w 9).toI by omega)
 have hF:F 623 [ω.w 5,ω.w 7,ω.w 8,ω.w 9]= .vl (cb4 (ω.w 5).toL (nt (ω.w 7)) (nt (ω.w 8)) (nt (ω.w 9))):=rfl
 rw[hF]
 generalize nt (ω.w 7)=a at h7⊢
 generalize hm:nt (ω.w 8)=m at h8⊢
 generalize nt (ω.w 9)=b at h9⊢
 generalize hL:(ω.w 5).toL=l at e5 oa h6 hl⊢
 have r0:den ω al0= .vi (m-a:Nat):=by
  show Val.vi (arI .sub .i64 (ω.w 8).toI (ω.w 7).toI)=_
  rw[h8,h7,au4 (by omega) (by omega)]
 have r1:den ω al3= .vi (b-m:Nat):=by
  show Val.vi (arI .sub .i64 (ω.w 9).toI (ω.w 8).toI)=_
  rw[h8,h9,au4 (by omega) (by omega)]
 have hF2: ∀x y z u v w t:Val,F 658 [.vi (m-a:Nat),.vi (b-m:Nat),.vl l,x,y,ω.w 8,z,u,v,w,t]=T1 (0,[.vi (ar4 (nt (ω.w 8)) (m-a+(b-m)) (m-a) (b-m) l).1,.vi (ar4 (nt (ω.w 8)) (m-a+(b-m)) (m-a) (b-m) l).1,.vl (ar4 (nt (ω.w 8)) (m-a+(b-m)) (m-a) (b-m) l).2]):=fun _ _ _ _ _ _ _=>rfl
 rw[hm]at hF2
 have sp:=aA1 m (m-a+(b-m)) (m-a) (b-m) (l.take a) (seg l a m) (seg l m b) (l.drop b) (by omega) (by omega) (by omega) (X5 (by omega)) (X5 (by omega)) (by rw[j0];omega)
 rw[←dj5 (l:=l) (by omega) (by omega)]at sp
 have al:=ah3 m l.length (m-a+(b-m)) (m-a) (b-m) l (by omega) (by omega) (by omega) (by omega) rfl oa
 have it:=cO1 hf h8 h6 hl (m-a+(b-m)) (m-a) (b-m) l (by omega) (by omega) (by omega) (by omega) (by omega) rfl oa
 generalize ar4 m (m-a+(b-m)) (m-a) (b-m) l=R at sp al it hF2
 obtain⟨r,M⟩:=R
 simp only at sp al it hF2
 obtain⟨s1,s2,s3,s4,s5⟩:=sp
 obtain⟨al1,al2⟩:=al
 have d2:den ω al4=T1 (0,[.vi r,.vi r,.vl M]):=by
  show ω.f 658 [den ω al0,den ω al3,ω.w 5,ω.w 6,ω.w 5,ω.w 8,ω.w 0,ω.w 1,ω.w 2,ω.w 3,ω.w 4]=_
  rw[r0,r1,e5,hf,hF2]
 have d3:den ω al5= .vl M:=by show S4 (den ω al4).toL 1 2=_;rw[d2];rfl
 have d4:den ω aa9= .vi r:=by show S4 (den ω al4).toL 1 0=_;rw[d2];rfl
 have d5:den ω al6= .vi (m-r:Nat):=by
  show Val.vi (arI .sub .i64 (ω.w 8).toI (den ω aa9).toI)=_
  rw[h8,d4,O9,au4 (by omega) (by omega)]
 unfold T_rotC
 refine P5 (r:=(0,[.vi r,.vi r,.vl M])) ?_ d2 (need_ok ?_ ?_)
 ·show Q9 _ [den ω al0,den ω al3,ω.w 5]=_
  rw[r0,r1,e5,T4]
  exact it
 ·show(ω.f 620 [den ω al5,ω.w 6,den ω al6,ω.w 8,den ω aa9]).toB=true
  rw[hf,d3,d4,d5]
  exact bw7 al1 al2 h6 hl rfl h8 rfl (by omega) (by omega)
 ·show some (0,[ω.f 621 [den ω al5,den ω al6,ω.w 8,den ω aa9]])=_
  rw[hf,d3,d4,d5,df7 rfl h8 rfl,s5];rfl
end Go.Ev.S8
namespace Go.Ev.S8
open Go Go.Ev Go.Ev.S7
theorem an1{l:List Val}(h:l.all okK=true){k:Nat}(hk:k<l.length):((P3 (atV l k) 0).toS.length:Int)≤1000:=by
 have:=(okK_at (j6.1 h _ (atV_mem hk))).2
 unfold pk at this;omega
theorem bI6{l:List Val}(h:l.all okK=true){i j:Nat}(hi:i<l.length)(hj:j<l.length)(a b c d e:Val):
 decide ((F 308 [P3 (atV l i) 0,P3 (atV l i) 1,P3 (atV l i) 2,P3 (atV l j) 0,P3 (atV l j) 1,P3 (atV l j) 2,a,b,c,d,e]).toI<0)=P8 (R8 [a,b,c,d,e]) (atV l i) (atV l j):=by
 have e1:(F 308 [P3 (atV l i) 0,P3 (atV l i) 1,P3 (atV l i) 2,P3 (atV l j) 0,P3 (atV l j) 1,P3 (atV l j) 2,a,b,c,d,e]).toI=cR8 (txtR (cK8 [a,b,c,d,e]) (atV l i)) (txtR (cK8 [a,b,c,d,e]) (atV l j)):=rfl
 have e2:P8 (R8 [a,b,c,d,e]) (atV l i) (atV l j)=ltB (txtR (cK8 [a,b,c,d,e]) (atV l i)) (txtR (cK8 [a,b,c,d,e]) (atV l j)):=rfl
 rw[e1,e2,r9,decide_eq_true_iff,cr9]
theorem d97(ω:Opq):R8 [ω.w 0,ω.w 1,ω.w 2,ω.w 3,ω.w 4]=R8 (fil ω):=rfl
theorem cO2{ω:Opq}(hf: ∀i a,ω.f i a=F i a){a N k:Nat}(h7:(ω.w 7).toI=a)(h6:(ω.w 6).toI=N)(hN:N≤100){l:List Val}(hl:l.length=N)(ho:l.all okK=true)(hk:a+k+1<N):
 O8 cJ5 (ω.upd 3000 [.vi (a+k+1:Nat),.vl l])=some (if P8 (R8 (fil ω)) (atV l (a+k+1)) (atV l (a+k))then(0,[.vi (a+k:Nat),.vl (swp l (a+k+1) (a+k))])else(1,[.vi (a+k+1:Nat),.vl l])):=by
 have e1:=de8 (K:=a+k+1) (k:=a+k) rfl (by omega)
 have p0:(a:Int)<((a+k+1:Nat):Int):=by omega
 have p1:(0:Int)≤((a+k+1:Nat):Int):=by omega
 have p2:((a+k+1:Nat):Int)<N:=by omega
 have p3:(0:Int)≤((a+k:Nat):Int):=by omega
 have p4:((a+k:Nat):Int)<N:=by omega
 have p5:=an1 ho (k:=a+k+1) (by omega)
 have p6:=an1 ho (k:=a+k) (by omega)
 have hc:=bI6 ho (i:=a+k+1) (j:=a+k) (by omega) (by omega) (ω.w 0) (ω.w 1) (ω.w 2) (ω.w 3) (ω.w 4)
 rw[d97]at hc
 rw[←a87 ho (by omega) (by omega)]
 unfold cJ5
 simp only[O8,P2,den,dB,W0,R9,Nat.reduceLeDiff,Nat.reduceSub,if_true,if_false,m6,o7,O9,Q4,S0,h7,h6,e1,Q0,R1,X6,p0,p1,p2,p3,p4,p5,p6,decide_true,s8,hl,w6,W2,W3,W4,Z6,Z7,Z8,Z9,ai1,aD7,Int.toNat_natCast,ai5,hf,hc]
 cases P8 (R8 (fil ω)) (atV l (a+k+1)) (atV l (a+k))<;>rfl
theorem d53{ω:Opq}(hf: ∀i a,ω.f i a=F i a){a N:Nat}(h7:(ω.w 7).toI=a)(h6:(ω.w 6).toI=N)(hN:N≤100): ∀(k:Nat) (l:List Val),a+k<N→l.length=N→l.all okK=true→
 Iter (fun vs=>O8 cJ5 (ω.upd 3000 vs)) [.vi (a+k:Nat),.vl l] 0 [.vi (aA9 (R8 (fil ω)) a l k).1,.vl (aA9 (R8 (fil ω)) a l k).2]
 |0,l,hk,hl,ho=>by
  refine .out ?_
  have p0: ¬(a:Int)<((a:Nat):Int):=by omega
  show O8 cJ5 (ω.upd 3000 [.vi (a:Nat),.vl l])=_
  unfold cJ5
  simp only[O8,P2,den,dB,W0,R9,Nat.reduceLeDiff,Nat.reduceSub,if_true,if_false,m6,o7,O9,Q4,S0,h7,X6,p0,decide_false,j9,aA9]
 |k+1,l,hk,hl,ho=>by
  have hs:=cO2 hf h7 h6 hN (k:=k) hl ho (by omega)
  unfold aA9
  cases hc:P8 (R8 (fil ω)) (atV l (a+k+1)) (atV l (a+k))with
  |true=>
   rw[hc,if_pos rfl]at hs
   rw[if_pos rfl]
   exact .more hs (d53 hf h7 h6 hN k _ (by omega) (by rw[aU6,hl]) (ah2 ho (by omega) (by omega)))
  |false=>
   rw[hc,if_neg (by simp)]at hs
   rw[if_neg (by simp)]
   exact .out hs
theorem ce5:d22= .ite (zs (.va 2000) (.va 8)) (.loop ⟨661,[.va 2000,.va 2001],3000,[.va 6,.va 2001,.va 7,.va 8,.va 0,.va 1,.va 2,.va 3,.va 4,.va 2000]⟩ cJ5 [.ret 0 [zi (.va 2000),zo (.app 661 [.va 2000,.va 2001,.va 6,.va 2001,.va 7,.va 8,.va 0,.va 1,.va 2,.va 3,.va 4,.va 2000]) 1]]) (.ret 1 [.va 2000,.va 2001]):=rfl
theorem cO3{ω:Opq}(hf: ∀i a,ω.f i a=F i a){a N b i:Nat}(h7:(ω.w 7).toI=a)(h8:(ω.w 8).toI=b)(h6:(ω.w 6).toI=N)(hN:N≤100){l:List Val}(hl:l.length=N)(ho:l.all okK=true)(hai:a≤i)(hib:i<b)(hb:b≤N):
 O8 d22 (ω.upd 2000 [.vi i,.vl (V3 (R8 (fil ω)) l a i)])=some (0,[.vi (i+1:Nat),.vl (V3 (R8 (fil ω)) l a (i+1))]):=by
 have hst:=bG7 (sec:=R8 (fil ω)) (l:=l) hai (by omega)
 have hpl:=b93 (R8 (fil ω)) (l:=l) hai
 have hpo:=Y8 ho (ab5 (R8 (fil ω)) (l:=l) hai)
 generalize V3 (R8 (fil ω)) l a i=M at hst hpl hpo⊢
 obtain⟨ω',hω⟩: ∃ω',ω'=ω.upd 2000 [.vi i,.vl M]:=⟨_,rfl⟩
 have v0:ω'.w 2000= .vi i:=by rw[hω];rfl
 have v1:ω'.w 2001= .vl M:=by rw[hω];rfl
 have u6:(ω'.w 6).toI=N:=by rw[hω];exact h6
 have u7:(ω'.w 7).toI=a:=by rw[hω];exact h7
 have u8:(ω'.w 8).toI=b:=by rw[hω];exact h8
 have uf:fil ω'=fil ω:=by rw[hω];rfl
 have hf': ∀i a,ω'.f i a=F i a:=by rw[hω];exact hf
 have lp:=d53 hf' u7 u6 hN (i-a) M (by omega) (by omega) hpo
 rw[show a+(i-a)=i by omega,uf]at lp
 have hF: ∀x y z:Val,F 661 [.vi i,.vl M,x,y,ω'.w 7,z,ω'.w 0,ω'.w 1,ω'.w 2,ω'.w 3,ω'.w 4,.vi i]=T1 (0,[.vi (aA9 (R8 (fil ω')) (nt (ω'.w 7)) M (i-nt (ω'.w 7))).1,.vl (aA9 (R8 (fil ω')) (nt (ω'.w 7)) M (i-nt (ω'.w 7))).2]):=fun _ _ _=>rfl
 rw[uf,ah4 u7]at hF
 have e1:ω'.f 661 [ω'.w 2000,ω'.w 2001,ω'.w 6,ω'.w 2001,ω'.w 7,ω'.w 8,ω'.w 0,ω'.w 1,ω'.w 2,ω'.w 3,ω'.w 4,ω'.w 2000]=T1 (0,[.vi (aA9 (R8 (fil ω)) a M (i-a)).1,.vl (aA9 (R8 (fil ω)) a M (i-a)).2]):=by
  rw[hf',v0,v1,hF]
 rw[←hω,ce5]
 refine ite_t (by show decide ((ω'.w 2000).toI<(ω'.w 8).toI)=true;rw[v0,u8,O9];exact decide_eq_true (by omega)) (P5 (r:=(0,[.vi (aA9 (R8 (fil ω)) a M (i-a)).1,.vl (aA9 (R8 (fil ω)) a M (i-a)).2])) ?_ e1 ?_)
 ·show Q9 _ [ω'.w 2000,ω'.w 2001]=_
  rw[v0,v1,T4]
  exact lp
 ·show some (0,[Val.vi (arI .add .i64 (ω'.w 2000).toI 1),S4 (ω'.f 661 [ω'.w 2000,ω'.w 2001,ω'.w 6,ω'.w 2001,ω'.w 7,ω'.w 8,ω'.w 0,ω'.w 1,ω'.w 2,ω'.w 3,ω'.w 4,ω'.w 2000]).toL 1 1])=_
  rw[e1,v0,O9,au5 (by omega),←hst];rfl
theorem t_insC{ω:Opq}(hf: ∀i a,ω.f i a=F i a)(hn:(F 624 [ω.w 5,ω.w 6,ω.w 7,ω.w 8]).toB=true):O8 T_insC ω=some (0,[F 625 [ω.w 0,ω.w 1,ω.w 2,ω.w 3,ω.w 4,ω.w 5,ω.w 7,ω.w 8]]):=by
 obtain⟨ho,hd⟩:=O4 (show(aq5 (ω.w 5) (ω.w 6)&&decide (0≤(ω.w 7).toI∧(ω.w 7).toI≤(ω.w 8).toI∧(ω.w 8).toI≤(ω.w 6).toI))=true from hn)
 obtain⟨e5,oa,h6,hl⟩:=ab6 ho
 obtain⟨q1,q2,q3⟩:=of_decide_eq_true hd
 have h7:=ab8 q1
 have h8:=ab8 (show 0≤(ω.w 8).toI by omega)
 have hF:F 625 [ω.w 0,ω.w 1,ω.w 2,ω.w 3,ω.w 4,ω.w 5,ω.w 7,ω.w 8]= .vl (V3 (R8 (fil ω)) (ω.w 5).toL (nt (ω.w 7)) (nt (ω.w 8))):=rfl
 have hF2: ∀x y z:Val,F 660 [x,ω.w 5,y,z,ω.w 7,ω.w 8,ω.w 0,ω.w 1,ω.w 2,ω.w 3,ω.w 4]=T1 (0,[.vi (max (nt (ω.w 7)+1) (nt (ω.w 8)):Nat),.vl (V3 (R8 (fil ω)) (ω.w 5).toL (nt (ω.w 7)) (nt (ω.w 8)))]):=fun _ _ _=>rfl
 rw[hF]
 generalize nt (ω.w 7)=a at h7 hF2⊢
 generalize nt (ω.w 8)=b at h8 hF2⊢
 have r0:den ω af1= .vi (a+1:Nat):=by
  show Val.vi (arI .add .i64 (ω.w 7).toI 1)=_
  rw[h7,au5 (by omega)]
 have e1:ω.f 660 [den ω af1,ω.w 5,ω.w 6,ω.w 5,ω.w 7,ω.w 8,ω.w 0,ω.w 1,ω.w 2,ω.w 3,ω.w 4]=T1 (0,[.vi (max (a+1) b:Nat),.vl (V3 (R8 (fil ω)) (ω.w 5).toL a b)]):=by
  rw[hf,hF2]
 unfold T_insC
 refine P5 (r:=(0,[.vi (max (a+1) b:Nat),.vl (V3 (R8 (fil ω)) (ω.w 5).toL a b)])) ?_ e1 ?_
 ·show Q9 _ [den ω af1,ω.w 5]=_
  rw[r0]
  have hout: ∀(i:Nat) (M:Val),b≤i→O8 d22 (ω.upd 2000 [.vi i,M])=some (1,[.vi i,M]):=fun i M hi=>by
   rw[ce5]
   refine ite_f ?_ rfl
   show decide ((i:Int)<(ω.w 8).toI)=false
   exact decide_eq_false (by omega)
  by_cases hab:a+1<b
  ·rw[G9 (by omega)]
   refine S5 (fun i=>[.vi (a+1+i:Nat),.vl (V3 (R8 (fil ω)) (ω.w 5).toL a (a+1+i))]) (n:=b-(a+1)) ?_ (fun i hi=>cO3 hf h7 h8 h6 hl rfl oa (by omega) (by omega) (by omega)) ?_
   ·show _=[Val.vi (a+1:Nat),Val.vl (V3 (R8 (fil ω)) (ω.w 5).toL a (a+1))]
    rw[aJ6 (by omega) (by omega) (by omega),←e5]
   ·show O8 d22 (ω.upd 2000 [.vi (a+1+(b-(a+1)):Nat),.vl (V3 (R8 (fil ω)) (ω.w 5).toL a (a+1+(b-(a+1))))])=_
    rw[show a+1+(b-(a+1))=b by omega]
    exact hout b _ (b9 _)
  ·rw[K1 (by omega),aJ6 (by omega) (by omega) (by omega),←e5,T4]
   exact .out (hout (a+1) _ (by omega))
 ·show some (0,[S4 (ω.f 660 [den ω af1,ω.w 5,ω.w 6,ω.w 5,ω.w 7,ω.w 8,ω.w 0,ω.w 1,ω.w 2,ω.w 3,ω.w 4]).toL 1 1])=_
  rw[e1];rfl
end Go.Ev.S8
namespace Go.Ev.S8
open Go Go.Ev Go.Ev.S7
theorem aV0{i j:Nat}(h:i+j≤1000000):IntKind.i64.wrap (arI .shr .u64 (IntKind.u64.wrap (arI .add .i64 (i:Int) (j:Int))) 1)=(((i+j)/2:Nat):Int):=by
 rw[aY0 h]
 have e1:IntKind.u64.wrap ((i+j:Nat):Int)=((i+j:Nat):Int):=by
  have:IntKind.u64.wrap ((i+j:Nat):Int)=((i+j:Nat):Int) % 18446744073709551616:=rfl
  rw[this];omega
 have e2:arI .shr .u64 ((i+j:Nat):Int) 1=(((i+j)/2:Nat):Int):=by
  have:arI .shr .u64 ((i+j:Nat):Int) 1=((i+j:Nat):Int).fdiv 2:=rfl
  rw[this,E6 _ (by omega)];omega
 rw[e1,e2]
 exact cg7 (by omega) (by omega)
theorem cO4{ω:Opq}(hf: ∀i a,ω.f i a=F i a){a N i j:Nat}(h7:(ω.w 7).toI=a)(h6:(ω.w 6).toI=N)(hN:N≤100)(hl:(ω.w 5).toL.length=N)(ho:(ω.w 5).toL.all okK=true)(hij:i<j)(hj:j≤N)(ha:a<N):
 O8 d23 (ω.upd 2000 [.vi i,.vi j])=some (0,if P8 (R8 (fil ω)) (atV (ω.w 5).toL ((i+j)/2)) (atV (ω.w 5).toL a)then [.vi ((i+j)/2+1:Nat),.vi j]else [.vi i,.vi ((i+j)/2:Nat)]):=by
 have e0:=aV0 (i:=i) (j:=j) (by omega)
 have hlt:(i+j)/2<j:=by omega
 generalize (i+j)/2=h at e0 hlt⊢
 have e1:=au5 (x:=h) (by omega)
 have p0:(i:Int)<(j:Int):=by omega
 have p1:(0:Int)≤(h:Int):=by omega
 have p2:(h:Int)<N:=by omega
 have p3:(0:Int)≤(a:Int):=by omega
 have p4:(a:Int)<N:=by omega
 have p5:=an1 ho (k:=h) (by omega)
 have p6:=an1 ho (k:=a) (by omega)
 have hc:=bI6 ho (i:=h) (j:=a) (by omega) (by omega) (ω.w 0) (ω.w 1) (ω.w 2) (ω.w 3) (ω.w 4)
 rw[d97]at hc
 unfold d23
 simp only[O8,P2,den,dB,W0,R9,Nat.reduceLeDiff,Nat.reduceSub,if_true,if_false,m6,o7,O9,Q4,S0,h7,h6,e0,e1,Q0,R1,p0,p1,p2,p3,p4,p5,p6,decide_true,s8,hl,W2,W3,W4,ai5,hf,hc]
 cases P8 (R8 (fil ω)) (atV (ω.w 5).toL h) (atV (ω.w 5).toL a)<;>rfl
theorem cO5{ω:Opq}(hf: ∀i a,ω.f i a=F i a){m N i j:Nat}(h8:(ω.w 8).toI=m)(h6:(ω.w 6).toI=N)(hN:N≤100)(hl:(ω.w 5).toL.length=N)(ho:(ω.w 5).toL.all okK=true)(hij:i<j)(hj:j≤N)(ha:m<N):
 O8 d24 (ω.upd 2000 [.vi i,.vi j])=some (0,if(!P8 (R8 (fil ω)) (atV (ω.w 5).toL m) (atV (ω.w 5).toL ((i+j)/2)))=true then [.vi ((i+j)/2+1:Nat),.vi j]else [.vi i,.vi ((i+j)/2:Nat)]):=by
 have e0:=aV0 (i:=i) (j:=j) (by omega)
 have hlt:(i+j)/2<j:=by omega
 generalize (i+j)/2=h at e0 hlt⊢
 have e1:=au5 (x:=h) (by omega)
 have p0:(i:Int)<(j:Int):=by omega
 have p1:(0:Int)≤(h:Int):=by omega
 have p2:(h:Int)<N:=by omega
 have p3:(0:Int)≤(m:Int):=by omega
 have p4:(m:Int)<N:=by omega
 have p5:=an1 ho (k:=h) (by omega)
 have p6:=an1 ho (k:=m) (by omega)
 have hc:=bI6 ho (i:=m) (j:=h) (by omega) (by omega) (ω.w 0) (ω.w 1) (ω.w 2) (ω.w 3) (ω.w 4)
 rw[d97]at hc
 unfold d24
 simp only[O8,P2,den,dB,W0,R9,Nat.reduceLeDiff,Nat.reduceSub,if_true,if_false,m6,o7,O9,Q4,S0,h8,h6,e0,e1,Q0,R1,p0,p1,p2,p3,p4,p5,p6,decide_true,s8,hl,W2,W3,W4,ai5,hf,hc]
 cases P8 (R8 (fil ω)) (atV (ω.w 5).toL m) (atV (ω.w 5).toL h)<;>rfl
theorem cO6{ω:Opq}(hf: ∀i a,ω.f i a=F i a){a m b N i j mid:Nat}(h7:(ω.w 7).toI=a)(h8:(ω.w 8).toI=m)(h9:(ω.w 9).toI=b)(h6:(ω.w 6).toI=N)(hN:N≤100)(hl:(ω.w 5).toL.length=N)(ho:(ω.w 5).toL.all okK=true)(hmid:mid=(a+b)/2)(hb:b≤N)(ham:a<m)(hmb:m<b)
 (hij:i<j) (hj:j≤m) (hj2:j≤mid) (hi:mid+m≤b+i):
 O8 cJ6 (ω.upd 2000 [.vi i,.vi j])=some (0,if(!P8 (R8 (fil ω)) (atV (ω.w 5).toL (mid+m-1-(i+j)/2)) (atV (ω.w 5).toL ((i+j)/2)))=true then [.vi ((i+j)/2+1:Nat),.vi j]else [.vi i,.vi ((i+j)/2:Nat)]):=by
 have e0:=aV0 (i:=i) (j:=j) (by omega)
 have g0:=aV0 (i:=a) (j:=b) (by omega)
 rw[←hmid]at g0
 have g1:=aY0 (x:=mid) (y:=m) (by omega)
 have g2:=aU9 (x:=mid+m) (by omega) (by omega)
 have hlt:(i+j)/2<j:=by omega
 have hge:i≤(i+j)/2:=by omega
 generalize (i+j)/2=h at e0 hlt hge⊢
 have g3:=au4 (x:=mid+m-1) (y:=h) (by omega) (by omega)
 have e1:=au5 (x:=h) (by omega)
 have hq:mid+m-1-h<N:=by omega
 generalize mid+m-1-h=q at g3 hq⊢
 have p0:(i:Int)<(j:Int):=by omega
 have p1:(0:Int)≤(h:Int):=by omega
 have p2:(h:Int)<N:=by omega
 have p3:(0:Int)≤(q:Int):=by omega
 have p4:(q:Int)<N:=by omega
 have p5:=an1 ho (k:=h) (by omega)
 have p6:=an1 ho (k:=q) (by omega)
 have hc:=bI6 ho (i:=q) (j:=h) (by omega) (by omega) (ω.w 0) (ω.w 1) (ω.w 2) (ω.w 3) (ω.w 4)
 rw[d97]at hc
 unfold cJ6
 simp only[O8,P2,den,dB,W0,R9,Nat.reduceLeDiff,Nat.reduceSub,if_true,if_false,m6,o7,O9,Q4,S0,h7,h8,h9,h6,e0,e1,g0,g1,g2,g3,Q0,R1,p0,p1,p2,p3,p4,p5,p6,decide_true,s8,hl,W2,W3,W4,ai5,hf,hc]
 cases P8 (R8 (fil ω)) (atV (ω.w 5).toL q) (atV (ω.w 5).toL h)<;>rfl
theorem au6{ω:Opq}{x:VT}(i:Nat):O8 (.ite (zs (.va 2000) (.va 2001)) x (.ret 1 [.va 2000,.va 2001])) (ω.upd 2000 [.vi i,.vi i])=some (1,[.vi i,.vi i]):=by
 refine ite_f ?_ rfl
 show decide ((i:Int)<(i:Int))=false
 exact decide_eq_false (by omega)
theorem cO7{ω:Opq}{N r i:Nat}(h6:(ω.w 6).toI=N)(hN:N≤100)(hr:S4 (ω.f 662 [ω.w 8,ω.w 9,ω.w 6,ω.w 5,ω.w 7,ω.w 0,ω.w 1,ω.w 2,ω.w 3,ω.w 4]).toL 1 0= .vi r){M:List Val}(hM:M.length=N)(ho:M.all okK=true)(hi:i+1<r)(hrN:r≤N):
 O8 cR2 (ω.upd 3000 [.vi i,.vl M])=some (0,[.vi (i+1:Nat),.vl (swp M i (i+1))]):=by
 have e0:=aU9 (x:=r) (by omega) (by omega)
 have e1:=au5 (x:=i) (by omega)
 have p0:(i:Int)<((r-1:Nat):Int):=by omega
 have p1:(0:Int)≤((i+1:Nat):Int):=by omega
 have p2:((i+1:Nat):Int)<N:=by omega
 have p3:(0:Int)≤(i:Int):=by omega
 have p4:(i:Int)<N:=by omega
 rw[←a87 ho (by omega) (by omega)]
 unfold cR2
 simp only[O8,P2,den,dB,W0,R9,Nat.reduceLeDiff,Nat.reduceSub,if_true,if_false,m6,o7,ai5,hr,O9,Q4,S0,h6,e0,e1,Q0,R1,p0,p1,p2,p3,p4,decide_true,s8,hM,w6,W2,W3,W4,Z6,Z7,Z8,Z9,ai1,aD7,Int.toNat_natCast]
theorem cO8{ω:Opq}{N r i:Nat}(h6:(ω.w 6).toI=N)(hN:N≤100)(hr:S4 (ω.f 664 [ω.w 7,ω.w 8,ω.w 6,ω.w 5,ω.w 8,ω.w 0,ω.w 1,ω.w 2,ω.w 3,ω.w 4]).toL 1 0= .vi r){M:List Val}(hM:M.length=N)(ho:M.all okK=true)(hi:r<i)(hiN:i<N):
 O8 cR3 (ω.upd 3000 [.vi i,.vl M])=some (0,[.vi (i-1:Nat),.vl (swp M (i-1) i)]):=by
 have e1:=aU9 (x:=i) (by omega) (by omega)
 have p0:(r:Int)<(i:Int):=by omega
 have p1:(0:Int)≤((i-1:Nat):Int):=by omega
 have p2:((i-1:Nat):Int)<N:=by omega
 have p3:(0:Int)≤(i:Int):=by omega
 have p4:(i:Int)<N:=by omega
 rw[b91 (by omega),←a87 ho (by omega) (by omega)]
 unfold cR3
 simp only[O8,P2,den,dB,W0,R9,Nat.reduceLeDiff,Nat.reduceSub,if_true,if_false,m6,o7,ai5,hr,O9,Q4,S0,h6,e1,Q0,R1,X6,p0,p1,p2,p3,p4,decide_true,s8,hM,w6,W2,W3,W4,Z6,Z7,Z8,Z9,ai1,aD7,Int.toNat_natCast]
theorem aV1{l:List Val}{a:Nat}(h:l.all okK=true): ∀n,a+n<l.length→(mvU l a n).all okK=true
 |0,_=>h
 |n+1,h1=>ah2 (aV1 h n (by omega)) (by rw[au2];omega) (by rw[au2];omega)
theorem aV2{l:List Val}{m:Nat}(h:l.all okK=true)(hm:m<l.length): ∀n,(mvD l m n).all okK=true
 |0=>h
 |n+1=>ah2 (aV2 h hm n) (by rw[au3];omega) (by rw[au3];omega)
def bO7(B:Int)(e mid L:SX):VT:= .ite (zs mid e) (.ite (zs e (.va 9)) (.need (.app 626 [.va 0,.va 1,.va 2,.va 3,.va 4,L,.va 6,mid,e,.va 9,.ci B]) (.ret 0 [.app 625 [.va 0,.va 1,.va 2,.va 3,.va 4,L,mid,.va 9]])) (.ret 0 [L])) (.ret 0 [L])
def bO8(B:Int)(r e mid L:SX):VT:= .ite (zs (.va 7) r) (.ite (zs r mid) (.need (.app 626 [.va 0,.va 1,.va 2,.va 3,.va 4,L,.va 6,.va 7,r,mid,.ci B]) (bO7 B e mid (.app 625 [.va 0,.va 1,.va 2,.va 3,.va 4,L,.va 7,mid]))) (bO7 B e mid L)) (bO7 B e mid L)
def cc4(B:Int)(r e mid:SX):VT:= .ite (zs r (.va 8)) (.ite (zs (.va 8) e) (.need (.app 622 [.va 5,.va 6,r,.va 8,e]) (bO8 B r e mid (.app 623 [.va 5,r,.va 8,e]))) (bO8 B r e mid (.va 5))) (bO8 B r e mid (.va 5))
theorem ba0(B:Int):T_sym B= .ite (ze (zm (.va 8) (.va 7)) 1) (.loop ⟨662,[.va 8,.va 9],2000,[.va 6,.va 5,.va 7,.va 0,.va 1,.va 2,.va 3,.va 4]⟩ d23 [.loop ⟨663,[.va 7,.va 5],3000,[.va 6,.va 5,at8]⟩ cR2 [.ret 0 [zo (.app 663 [.va 7,.va 5,.va 6,.va 5,at8]) 1]]])
 (.ite (ze (zm (.va 9) (.va 8)) 1) (.loop ⟨664,[.va 7,.va 8],2000,[.va 6,.va 5,.va 8,.va 0,.va 1,.va 2,.va 3,.va 4]⟩ d24 [.loop ⟨665,[.va 8,.va 5],3000,[.va 6,.va 5,at9]⟩ cR3 [.ret 0 [zo (.app 665 [.va 8,.va 5,.va 6,.va 5,at9]) 1]]])
 (.ite (.op (.cmp .gtr) [.va 8,Q2]) (.loop ⟨666,[au0,Q2],2000,[.va 6,.va 5,.va 7,.va 8,.va 9,.va 0,.va 1,.va 2,.va 3,.va 4,Q2,W7,ab0]⟩ cJ6 [cc4 B ab1 ab2 Q2]) (.loop ⟨666,[.va 7,.va 8],2000,[.va 6,.va 5,.va 7,.va 8,.va 9,.va 0,.va 1,.va 2,.va 3,.va 4,Q2,W7,ab0]⟩ cJ6 [cc4 B Y2 Y3 Q2]))):=rfl
theorem bb3{ω:Opq}{M:List Val}{n:Val}{N a m b:Nat}{B:Int}(ho:M.all okK=true)(hM:M.length=N)(hn:n.toI=(N:Int))(hN:N≤100)(h1:a<m)(h2:m<b)(h3:b≤N)(h4:(b:Int)-a≤B)
 (s1:Sd (R8 (fil ω)) (seg M a m)) (s2:Sd (R8 (fil ω)) (seg M m b)):(F 626 [ω.w 0,ω.w 1,ω.w 2,ω.w 3,ω.w 4,.vl M,n,.vi a,.vi m,.vi b,.vi B]).toB=true:=by
 show aE1 [ω.w 0,ω.w 1,ω.w 2,ω.w 3,ω.w 4,.vl M,n,.vi a,.vi m,.vi b,.vi B]=true
 refine ab7.2 ⟨ab9 ho hM hn hN,?_,?_,?_,?_,h4,rfl,rfl,rfl,s1,s2⟩
 ·show(0:Int)≤(a:Int);omega
 ·show(a:Int)<(m:Int);omega
 ·show(m:Int)<(b:Int);omega
 ·show(b:Int)≤n.toI;omega
theorem cO9{ω:Opq}{M:List Val}{va vb:Val}{a b:Nat}(ha:va.toI=(a:Int))(hb:vb.toI=(b:Int)):F 625 [ω.w 0,ω.w 1,ω.w 2,ω.w 3,ω.w 4,.vl M,va,vb]= .vl (V3 (R8 (fil ω)) M a b):=by
 show Val.vl (V3 (R8 (fil ω)) M (nt va) (nt vb))=_
 rw[ah4 ha,ah4 hb]
section
variable{ω:Opq}{N a m b R E MID:Nat}{B:Int}{r e mid:SX}
theorem aV3(hf: ∀i a,ω.f i a=F i a)(h6:(ω.w 6).toI=N)(hN:N≤100)(h9:ω.w 9= .vi b)(he:den ω e= .vi E)(hmid:den ω mid= .vi MID)(hb:b≤N)(hB:(b:Int)-MID≤B){L:SX}{M Y:List Val}(hL:den ω L= .vl M)(ho:M.all okK=true)(hM:M.length=N)
 (s1:Sd (R8 (fil ω)) (seg M MID E)) (s2:Sd (R8 (fil ω)) (seg M E b)) (c1:MID<E→E<b→V3 (R8 (fil ω)) M MID b=Y) (c2: ¬(MID<E∧E<b)→M=Y):O8 (bO7 B e mid L) ω=some (0,[.vl Y]):=by
 unfold bO7
 have hret: ¬(MID<E∧E<b)→O8 (.ret 0 [L]) ω=some (0,[.vl Y]):=fun h=>by
  show some (0,[den ω L])=_
  rw[hL,c2 h]
 by_cases h1:MID<E
 ·refine ite_t (by show decide ((den ω mid).toI<(den ω e).toI)=true;rw[he,hmid];exact decide_eq_true (by show(MID:Int)<(E:Int);omega)) ?_
  by_cases h2:E<b
  ·refine ite_t (by show decide ((den ω e).toI<(ω.w 9).toI)=true;rw[he,h9];exact decide_eq_true (by show(E:Int)<(b:Int);omega)) (need_ok ?_ ?_)
   ·show(ω.f 626 [ω.w 0,ω.w 1,ω.w 2,ω.w 3,ω.w 4,den ω L,ω.w 6,den ω mid,den ω e,ω.w 9,.vi B]).toB=true
    rw[hf,hL,hmid,he,h9]
    exact bb3 ho hM h6 hN h1 h2 hb hB s1 s2
   ·show some (0,[ω.f 625 [ω.w 0,ω.w 1,ω.w 2,ω.w 3,ω.w 4,den ω L,den ω mid,ω.w 9]])=_
    rw[hf,hL,hmid,h9,cO9 rfl rfl,c1 h1 h2]
  ·exact ite_f (by show decide ((den ω e).toI<(ω.w 9).toI)=false;rw[he,h9];exact decide_eq_false (by show¬(E:Int)<(b:Int);omega)) (hret (by omega))
 ·exact ite_f (by show decide ((den ω mid).toI<(den ω e).toI)=false;rw[he,hmid];exact decide_eq_false (by show¬(MID:Int)<(E:Int);omega)) (hret (by omega))
theorem aV4(hf: ∀i a,ω.f i a=F i a)(h6:(ω.w 6).toI=N)(hN:N≤100)(h7:ω.w 7= .vi a)(h9:ω.w 9= .vi b)(hr:den ω r= .vi R)(he:den ω e= .vi E)(hmid:den ω mid= .vi MID)(hb:b≤N)(hmb:MID<b)(hB:(b:Int)-MID≤B)(hB2:(MID:Int)-a≤B){L:SX}{M M2 Y:List Val}(hL:den ω L= .vl M)(ho:M.all okK=true)(hM:M.length=N)(ho2:M2.all okK=true)(hM2:M2.length=N)
 (t1:Sd (R8 (fil ω)) (seg M a R)) (t2:Sd (R8 (fil ω)) (seg M R MID)) (d1:a<R→R<MID→V3 (R8 (fil ω)) M a MID=M2) (d2: ¬(a<R∧R<MID)→M=M2)
 (s1:Sd (R8 (fil ω)) (seg M2 MID E)) (s2:Sd (R8 (fil ω)) (seg M2 E b)) (c1:MID<E→E<b→V3 (R8 (fil ω)) M2 MID b=Y) (c2: ¬(MID<E∧E<b)→M2=Y):O8 (bO8 B r e mid L) ω=some (0,[.vl Y]):=by
 unfold bO8
 have hid: ¬(a<R∧R<MID)→O8 (bO7 B e mid L) ω=some (0,[.vl Y]):=fun h=>by
  have:=d2 h
  subst this
  exact aV3 hf h6 hN h9 he hmid hb hB hL ho hM s1 s2 c1 c2
 by_cases h1:a<R
 ·refine ite_t (by show decide ((ω.w 7).toI<(den ω r).toI)=true;rw[hr,h7];exact decide_eq_true (by show(a:Int)<(R:Int);omega)) ?_
  by_cases h2:R<MID
  ·refine ite_t (by show decide ((den ω r).toI<(den ω mid).toI)=true;rw[hr,hmid];exact decide_eq_true (by show(R:Int)<(MID:Int);omega)) (need_ok ?_ ?_)
   ·show(ω.f 626 [ω.w 0,ω.w 1,ω.w 2,ω.w 3,ω.w 4,den ω L,ω.w 6,ω.w 7,den ω r,den ω mid,.vi B]).toB=true
    rw[hf,hL,hmid,hr,h7]
    exact bb3 ho hM h6 hN h1 h2 (by omega) hB2 t1 t2
   ·refine aV3 hf h6 hN h9 he hmid hb hB ?_ ho2 hM2 s1 s2 c1 c2
    show ω.f 625 [ω.w 0,ω.w 1,ω.w 2,ω.w 3,ω.w 4,den ω L,ω.w 7,den ω mid]=_
    rw[hf,hL,hmid,h7,cO9 rfl rfl,d1 h1 h2]
  ·exact ite_f (by show decide ((den ω r).toI<(den ω mid).toI)=false;rw[hr,hmid];exact decide_eq_false (by show¬(R:Int)<(MID:Int);omega)) (hid (by omega))
 ·exact ite_f (by show decide ((ω.w 7).toI<(den ω r).toI)=false;rw[hr,h7];exact decide_eq_false (by show¬(a:Int)<(R:Int);omega)) (hid (by omega))
theorem cP0{M:List Val}{n va vm vb:Val}{a m b:Nat}(ho:M.all okK=true)(hM:M.length=N)(hn:n.toI=(N:Int))(hN:N≤100)(ha:va.toI=(a:Int))(hm:vm.toI=(m:Int))(hb:vb.toI=(b:Int))(h1:a<m)(h2:m<b)(h3:b≤N):(F 622 [.vl M,n,va,vm,vb]).toB=true:=by
 show(aq5 (.vl M) n&&decide (0≤va.toI∧va.toI<vm.toI∧vm.toI<vb.toI∧vb.toI≤n.toI))=true
 exact and2 (ab9 ho hM hn hN) (decide_eq_true (by omega))
theorem bv8(hf: ∀i a,ω.f i a=F i a)(h6:(ω.w 6).toI=N)(hN:N≤100)(h7:ω.w 7= .vi a)(h8:(ω.w 8).toI=m)(h9:ω.w 9= .vi b)(hr:den ω r= .vi R)(he:den ω e= .vi E)(hmid:den ω mid= .vi MID)(hb:b≤N)(hEb:E≤b)(hmb:MID<b)(hB:(b:Int)-MID≤B)(hB2:(MID:Int)-a≤B){l M M2 Y:List Val}(h5:ω.w 5= .vl l)(hl:l.length=N)(hlo:l.all okK=true)
 (b1:R<m→m<E→cb4 l R m E=M) (b2: ¬(R<m∧m<E)→l=M) (p1:M.Perm l)
 (t1:Sd (R8 (fil ω)) (seg M a R)) (t2:Sd (R8 (fil ω)) (seg M R MID)) (d1:a<R→R<MID→V3 (R8 (fil ω)) M a MID=M2) (d2: ¬(a<R∧R<MID)→M=M2) (p2:M2.Perm l)
 (s1:Sd (R8 (fil ω)) (seg M2 MID E)) (s2:Sd (R8 (fil ω)) (seg M2 E b)) (c1:MID<E→E<b→V3 (R8 (fil ω)) M2 MID b=Y) (c2: ¬(MID<E∧E<b)→M2=Y):O8 (cc4 B r e mid) ω=some (0,[.vl Y]):=by
 unfold cc4
 have oM:=Y8 hlo p1
 have lM:M.length=N:=p1.length_eq.trans hl
 have oM2:=Y8 hlo p2
 have lM2:M2.length=N:=p2.length_eq.trans hl
 have hid: ¬(R<m∧m<E)→O8 (bO8 B r e mid (.va 5)) ω=some (0,[.vl Y]):=fun h=>
  aV4 hf h6 hN h7 h9 hr he hmid hb hmb hB hB2 (L:= .va 5) (by show ω.w 5=_;rw[h5,b2 h]) oM lM oM2 lM2 t1 t2 d1 d2 s1 s2 c1 c2
 by_cases h1:R<m
 ·refine ite_t (by show decide ((den ω r).toI<(ω.w 8).toI)=true;rw[hr,h8];exact decide_eq_true (by show(R:Int)<(m:Int);omega)) ?_
  by_cases h2:m<E
  ·refine ite_t (by show decide ((ω.w 8).toI<(den ω e).toI)=true;rw[he,h8];exact decide_eq_true (by show(m:Int)<(E:Int);omega)) (need_ok ?_ ?_)
   ·show(ω.f 622 [ω.w 5,ω.w 6,den ω r,ω.w 8,den ω e]).toB=true
    rw[hf,h5,hr,he]
    exact cP0 hlo hl h6 hN rfl h8 rfl h1 h2 (by omega)
   ·refine aV4 hf h6 hN h7 h9 hr he hmid hb hmb hB hB2 ?_ oM lM oM2 lM2 t1 t2 d1 d2 s1 s2 c1 c2
    show ω.f 623 [ω.w 5,den ω r,ω.w 8,den ω e]=_
    rw[hf,h5,hr,he,←b1 h1 h2]
    show Val.vl (cb4 l R (nt (ω.w 8)) E)=_
    rw[ah4 h8]
  ·exact ite_f (by show decide ((ω.w 8).toI<(den ω e).toI)=false;rw[he,h8];exact decide_eq_false (by show¬(m:Int)<(E:Int);omega)) (hid (by omega))
 ·exact ite_f (by show decide ((den ω r).toI<(ω.w 8).toI)=false;rw[hr,h8];exact decide_eq_false (by show¬(R:Int)<(m:Int);omega)) (hid (by omega))
end
end Go.Ev.S8
namespace Go.Ev.S8
open Go Go.Ev Go.Ev.S7
theorem au7{T:Nat→Bool}{lo hi:Nat}{step:List Val→Option (Nat×List Val)}{va vb:Val}(hle:lo≤hi)(h1: ∀i j:Nat,lo≤i→i<j→j≤hi→step [.vi i,.vi j]=some (0,if T ((i+j)/2)=true then [.vi ((i+j)/2+1:Nat),.vi j]else [.vi i,.vi ((i+j)/2:Nat)]))(h2: ∀i:Nat,step [.vi i,.vi i]=some (1,[.vi i,.vi i])):
 Q9 step [.vi lo,.vi hi]=some (0,[.vi (bs T (hi-lo) lo hi),.vi (bs T (hi-lo) lo hi)]):=by
 rw[T4]
 exact b92 h1 h2 (hi-lo) lo hi (b9 _) hle (b9 _) (b9 _)
theorem t_sym{ω:Opq}{B:Int}(hf: ∀i a,ω.f i a=F i a)(hn:(F 626 [ω.w 0,ω.w 1,ω.w 2,ω.w 3,ω.w 4,ω.w 5,ω.w 6,ω.w 7,ω.w 8,ω.w 9,.vi (2*B)]).toB=true):O8 (T_sym B) ω=some (0,[F 625 [ω.w 0,ω.w 1,ω.w 2,ω.w 3,ω.w 4,ω.w 5,ω.w 7,ω.w 9]]):=by
 have hn':aE1 [ω.w 0,ω.w 1,ω.w 2,ω.w 3,ω.w 4,ω.w 5,ω.w 6,ω.w 7,ω.w 8,ω.w 9,.vi (2*B)]=true:=hn
 obtain⟨ho,q1,q2,q3,q4,q5,i7,i8,i9,s1,s2⟩:=ab7.1 hn'
 have ho:aq5 (ω.w 5) (ω.w 6)=true:=ho
 have q1:0≤(ω.w 7).toI:=q1
 have q2:(ω.w 7).toI<(ω.w 8).toI:=q2
 have q3:(ω.w 8).toI<(ω.w 9).toI:=q3
 have q4:(ω.w 9).toI≤(ω.w 6).toI:=q4
 have q5:(ω.w 9).toI-(ω.w 7).toI≤2*B:=q5
 have s1:Sd (R8 (fil ω)) (seg (ω.w 5).toL (nt (ω.w 7)) (nt (ω.w 8))):=s1
 have s2:Sd (R8 (fil ω)) (seg (ω.w 5).toL (nt (ω.w 8)) (nt (ω.w 9))):=s2
 obtain⟨e5,oa,h6,hl⟩:=ab6 ho
 have h7:=ab8 q1
 have h8:=ab8 (show 0≤(ω.w 8).toI by omega)
 have h9:=ab8 (show 0≤(ω.w 9).toI by omega)
 have w7:ω.w 7= .vi (nt (ω.w 7)):=(aA3 (show isI (ω.w 7)=true from i7)).trans (congrArg Val.vi h7)
 have w8:ω.w 8= .vi (nt (ω.w 8)):=(aA3 (show isI (ω.w 8)=true from i8)).trans (congrArg Val.vi h8)
 have w9:ω.w 9= .vi (nt (ω.w 9)):=(aA3 (show isI (ω.w 9)=true from i9)).trans (congrArg Val.vi h9)
 have hF:F 625 [ω.w 0,ω.w 1,ω.w 2,ω.w 3,ω.w 4,ω.w 5,ω.w 7,ω.w 9]= .vl (V3 (R8 (fil ω)) (ω.w 5).toL (nt (ω.w 7)) (nt (ω.w 9))):=rfl
 rw[hF]
 generalize nt (ω.w 7)=a at h7 w7 s1⊢
 generalize nt (ω.w 8)=m at h8 w8 s1 s2⊢
 generalize nt (ω.w 9)=b at h9 w9 s2⊢
 obtain⟨l,hL⟩: ∃l,(ω.w 5).toL=l:=⟨_,rfl⟩
 obtain⟨N,hNN⟩: ∃N,l.length=N:=⟨_,rfl⟩
 have hlN:(ω.w 5).toL.length=N:=by rw[hL];exact hNN
 rw[hlN]at h6 hl
 have ham:a<m:=by omega
 have hmb:m<b:=by omega
 have hbN:b≤N:=by omega
 rw[ba0]
 by_cases c1:m=a+1
 ·
  refine ite_t (by show decide (arI .sub .i64 (ω.w 8).toI (ω.w 7).toI=1)=true;rw[h8,h7,au4 (by omega) (by omega)];exact decide_eq_true (by omega)) ?_
  subst c1
  have so:=cb6 (sec:=R8 (fil ω)) (l:=(ω.w 5).toL) (a:=a) (b:=b) hmb (by omega) s2
  have hlp:Q9 (fun vs=>O8 d23 (ω.upd 2000 vs)) [.vi (a+1:Nat),.vi b]=_:=au7 (T:=fun h=>P8 (R8 (fil ω)) (atV (ω.w 5).toL h) (atV (ω.w 5).toL a)) (va:= .vi 0) (vb:= .vi 0) (by omega) (fun i j h1 h2 h3=>cO4 hf h7 h6 hl hlN oa h2 (by omega) (by omega)) (fun i=>au6 i)
  have hF2:F 662 [.vi (a+1:Nat),.vi b,ω.w 6,ω.w 5,.vi a,ω.w 0,ω.w 1,ω.w 2,ω.w 3,ω.w 4]=T1 (0,[.vi (bs (fun h=>P8 (R8 (fil ω)) (atV (ω.w 5).toL h) (atV (ω.w 5).toL a)) (b-(a+1)) (a+1) b),.vi (bs (fun h=>P8 (R8 (fil ω)) (atV (ω.w 5).toL h) (atV (ω.w 5).toL a)) (b-(a+1)) (a+1) b)]):=rfl
  generalize bs (fun h=>P8 (R8 (fil ω)) (atV (ω.w 5).toL h) (atV (ω.w 5).toL a)) (b-(a+1)) (a+1) b=r at so hlp hF2
  obtain⟨r1,r2,r3⟩:=so
  have e662:ω.f 662 [ω.w 8,ω.w 9,ω.w 6,ω.w 5,ω.w 7,ω.w 0,ω.w 1,ω.w 2,ω.w 3,ω.w 4]=T1 (0,[.vi r,.vi r]):=by
   rw[hf,w7,w8,w9,hF2]
  have er:S4 (ω.f 662 [ω.w 8,ω.w 9,ω.w 6,ω.w 5,ω.w 7,ω.w 0,ω.w 1,ω.w 2,ω.w 3,ω.w 4]).toL 1 0= .vi r:=by rw[e662];rfl
  have hF3: ∀x y:Val,F 663 [.vi a,ω.w 5,x,y,.vi r]=T1 (0,[.vi (r-1:Nat),.vl (mvU (ω.w 5).toL a (r-1-a))]):=fun _ _=>rfl
  have e663:ω.f 663 [ω.w 7,ω.w 5,ω.w 6,ω.w 5,den ω at8]=T1 (0,[.vi (r-1:Nat),.vl (mvU (ω.w 5).toL a (r-1-a))]):=by
   rw[show den ω at8= .vi r from er,hf,w7,hF3]
  refine P5 (r:=(0,[.vi r,.vi r])) ?_ e662 (P5 (r:=(0,[.vi (r-1:Nat),.vl (mvU (ω.w 5).toL a (r-1-a))])) ?_ e663 ?_)
  ·show Q9 _ [ω.w 8,ω.w 9]=_
   rw[w8,w9];exact hlp
  ·show Q9 _ [ω.w 7,ω.w 5]=_
   rw[w7]
   refine S5 (fun i=>[.vi (a+i:Nat),.vl (mvU (ω.w 5).toL a i)]) (n:=r-1-a) (by rw[show mvU (ω.w 5).toL a 0=(ω.w 5).toL from rfl,←e5];rfl) (fun i hi=> ?_) ?_
   ·exact cO7 h6 hl er (by rw[au2];exact hlN) (aV1 oa i (by omega)) (by omega) (by omega)
   ·show O8 cR2 (ω.upd 3000 [.vi (a+(r-1-a):Nat),.vl (mvU (ω.w 5).toL a (r-1-a))])=_
    rw[show a+(r-1-a)=r-1 by omega]
    unfold cR2
    refine ite_f ?_ rfl
    show decide (((r-1:Nat):Int)<arI .sub .i64 (S4 (ω.f 662 [ω.w 8,ω.w 9,ω.w 6,ω.w 5,ω.w 7,ω.w 0,ω.w 1,ω.w 2,ω.w 3,ω.w 4]).toL 1 0).toI 1)=false
    rw[er,O9,aU9 (by omega) (by omega)]
    exact decide_eq_false (by omega)
  ·show some (0,[S4 (ω.f 663 [ω.w 7,ω.w 5,ω.w 6,ω.w 5,den ω at8]).toL 1 1])=_
   rw[e663,←r3];rfl
 ·refine ite_f (by show decide (arI .sub .i64 (ω.w 8).toI (ω.w 7).toI=1)=false;rw[h8,h7,au4 (by omega) (by omega)];exact decide_eq_false (by omega)) ?_
  by_cases c2:b=m+1
  ·
   refine ite_t (by show decide (arI .sub .i64 (ω.w 9).toI (ω.w 8).toI=1)=true;rw[h8,h9,au4 (by omega) (by omega)];exact decide_eq_true (by omega)) ?_
   subst c2
   have so:=cb7 (sec:=R8 (fil ω)) (l:=(ω.w 5).toL) (a:=a) (m:=m) ham (by omega) s1
   have hlp:Q9 (fun vs=>O8 d24 (ω.upd 2000 vs)) [.vi a,.vi m]=_:=au7 (T:=fun h=> !P8 (R8 (fil ω)) (atV (ω.w 5).toL m) (atV (ω.w 5).toL h)) (va:= .vi 0) (vb:= .vi 0) (by omega) (fun i j h1 h2 h3=>cO5 hf h8 h6 hl hlN oa h2 (by omega) (by omega)) (fun i=>au6 i)
   have hF2:F 664 [.vi a,.vi m,ω.w 6,ω.w 5,.vi m,ω.w 0,ω.w 1,ω.w 2,ω.w 3,ω.w 4]=T1 (0,[.vi (bs (fun h=> !P8 (R8 (fil ω)) (atV (ω.w 5).toL m) (atV (ω.w 5).toL h)) (m-a) a m),.vi (bs (fun h=> !P8 (R8 (fil ω)) (atV (ω.w 5).toL m) (atV (ω.w 5).toL h)) (m-a) a m)]):=rfl
   generalize bs (fun h=> !P8 (R8 (fil ω)) (atV (ω.w 5).toL m) (atV (ω.w 5).toL h)) (m-a) a m=r at so hlp hF2
   obtain⟨r1,r2,r3⟩:=so
   have e664:ω.f 664 [ω.w 7,ω.w 8,ω.w 6,ω.w 5,ω.w 8,ω.w 0,ω.w 1,ω.w 2,ω.w 3,ω.w 4]=T1 (0,[.vi r,.vi r]):=by
    rw[hf,w7,w8,hF2]
   have er:S4 (ω.f 664 [ω.w 7,ω.w 8,ω.w 6,ω.w 5,ω.w 8,ω.w 0,ω.w 1,ω.w 2,ω.w 3,ω.w 4]).toL 1 0= .vi r:=by rw[e664];rfl
   have hF3: ∀x y:Val,F 665 [.vi m,ω.w 5,x,y,.vi r]=T1 (0,[.vi r,.vl (mvD (ω.w 5).toL m (m-r))]):=fun _ _=>rfl
   have e665:ω.f 665 [ω.w 8,ω.w 5,ω.w 6,ω.w 5,den ω at9]=T1 (0,[.vi r,.vl (mvD (ω.w 5).toL m (m-r))]):=by
    rw[show den ω at9= .vi r from er,hf,w8,hF3]
   refine P5 (r:=(0,[.vi r,.vi r])) ?_ e664 (P5 (r:=(0,[.vi r,.vl (mvD (ω.w 5).toL m (m-r))])) ?_ e665 ?_)
   ·show Q9 _ [ω.w 7,ω.w 8]=_
    rw[w7,w8];exact hlp
   ·show Q9 _ [ω.w 8,ω.w 5]=_
    rw[w8]
    refine S5 (fun i=>[.vi (m-i:Nat),.vl (mvD (ω.w 5).toL m i)]) (n:=m-r) (by rw[show mvD (ω.w 5).toL m 0=(ω.w 5).toL from rfl,←e5];rfl) (fun i hi=> ?_) ?_
    ·have:=cO8 (i:=m-i) h6 hl er (M:=mvD (ω.w 5).toL m i) (by rw[au3];exact hlN) (aV2 oa (by omega) i) (by omega) (by omega)
     rw[show m-i-1=m-(i+1) by omega]at this
     refine this.trans ?_
     show _=some (0,[Val.vi (m-(i+1):Nat),Val.vl (swp (mvD (ω.w 5).toL m i) (m-i-1) (m-i))])
     rw[show m-i-1=m-(i+1) by omega]
    ·show O8 cR3 (ω.upd 3000 [.vi (m-(m-r):Nat),.vl (mvD (ω.w 5).toL m (m-r))])=_
     rw[show m-(m-r)=r by omega]
     unfold cR3
     refine ite_f ?_ rfl
     show decide ((S4 (ω.f 664 [ω.w 7,ω.w 8,ω.w 6,ω.w 5,ω.w 8,ω.w 0,ω.w 1,ω.w 2,ω.w 3,ω.w 4]).toL 1 0).toI<(r:Int))=false
     rw[er,O9]
     exact decide_eq_false (by omega)
   ·show some (0,[S4 (ω.f 665 [ω.w 8,ω.w 5,ω.w 6,ω.w 5,den ω at9]).toL 1 1])=_
    rw[e665,←r3];rfl
  ·refine ite_f (by show decide (arI .sub .i64 (ω.w 9).toI (ω.w 8).toI=1)=false;rw[h8,h9,au4 (by omega) (by omega)];exact decide_eq_false (by omega)) ?_
   obtain⟨mid,hmid⟩: ∃mid,mid=(a+b)/2:=⟨_,rfl⟩
   have d2:den ω Q2= .vi mid:=by
    show Val.vi (IntKind.i64.wrap (arI .shr .u64 (IntKind.u64.wrap (arI .add .i64 (ω.w 7).toI (ω.w 9).toI)) 1))=_
    rw[h7,h9,aV0 (by omega),←hmid]
   have d3:den ω W7= .vi (mid+m:Nat):=by
    show Val.vi (arI .add .i64 (den ω Q2).toI (ω.w 8).toI)=_
    rw[d2,h8,O9,aY0 (by omega)]
   have d5:den ω ab0= .vi (mid+m-1:Nat):=by
    show Val.vi (arI .sub .i64 (den ω W7).toI 1)=_
    rw[d3,O9,aU9 (by omega) (by omega)]
   have key: ∀(lo hi r:Nat) (va vb:Val) (er ee:SX),(mid<m∧lo=mid+m-b∧hi=mid∨m≤mid∧lo=a∧hi=m)→r=bs (fun c=> !P8 (R8 (fil ω)) (atV (ω.w 5).toL (mid+m-1-c)) (atV (ω.w 5).toL c)) (hi-lo) lo hi→den ω er= .vi r→(∀n:Nat,den ω er= .vi n→n≤mid+m→den ω ee= .vi (mid+m-n:Nat))→O8 (cc4 B er ee Q2) ω=some (0,[.vl (V3 (R8 (fil ω)) (ω.w 5).toL a b)]):=fun lo hi r va vb er ee hlh hr h1 h2=>by
    obtain⟨g1,g2,g3,g4,M,M2,b1,b2,p1,t1,t2,k1,k2,p2,u1,u2,x1,x2⟩:=cb8 (sec:=R8 (fil ω)) (l:=(ω.w 5).toL) ham hmb (by omega) s1 s2 hmid hlh hr
    exact bv8 hf h6 hl w7 h8 w9 h1 (h2 r h1 (by omega)) d2 hbN g4 (by omega) (by omega) (by omega) e5 hlN oa b1 b2 p1 t1 t2 k1 k2 p2 u1 u2 x1 x2
   have hlp: ∀lo hi:Nat,(mid<m∧lo=mid+m-b∧hi=mid∨m≤mid∧lo=a∧hi=m)→Q9 (fun vs=>O8 cJ6 (ω.upd 2000 vs)) [.vi lo,.vi hi]=some (0,[.vi (bs (fun c=> !P8 (R8 (fil ω)) (atV (ω.w 5).toL (mid+m-1-c)) (atV (ω.w 5).toL c)) (hi-lo) lo hi),.vi (bs (fun c=> !P8 (R8 (fil ω)) (atV (ω.w 5).toL (mid+m-1-c)) (atV (ω.w 5).toL c)) (hi-lo) lo hi)]):=fun lo hi hlh=>au7 (T:=fun c=> !P8 (R8 (fil ω)) (atV (ω.w 5).toL (mid+m-1-c)) (atV (ω.w 5).toL c)) (va:= .vi 0) (vb:= .vi 0) (by omega) (fun i j h1 h2 h3=>cO6 hf h7 h8 h9 h6 hl hlN oa hmid hbN ham hmb h2 (by omega) (by omega) (by omega)) (fun i=>au6 i)
   have hF2: ∀(lo hi:Nat) (va vb x y:Val),nt va=lo→nt vb=hi→F 666 [va,vb,ω.w 6,ω.w 5,ω.w 7,ω.w 8,ω.w 9,ω.w 0,ω.w 1,ω.w 2,ω.w 3,ω.w 4,x,y,.vi (mid+m-1:Nat)]=T1 (0,[.vi (bs (fun c=> !P8 (R8 (fil ω)) (atV (ω.w 5).toL (mid+m-1-c)) (atV (ω.w 5).toL c)) (hi-lo) lo hi),.vi (bs (fun c=> !P8 (R8 (fil ω)) (atV (ω.w 5).toL (mid+m-1-c)) (atV (ω.w 5).toL c)) (hi-lo) lo hi)]):=fun lo hi va vb x y h1 h2=>by subst h1;subst h2;rfl
   by_cases c3:mid<m
   ·refine ite_t (by show decide ((den ω Q2).toI<(ω.w 8).toI)=true;rw[d2,h8,O9];exact decide_eq_true (by omega)) ?_
    have hlh:mid<m∧mid+m-b=mid+m-b∧mid=mid∨m≤mid∧mid+m-b=a∧mid=m:= .inl ⟨c3,rfl,rfl⟩
    have d4:den ω au0= .vi (mid+m-b:Nat):=by
     show Val.vi (arI .sub .i64 (den ω W7).toI (ω.w 9).toI)=_
     rw[d3,h9,O9,au4 (by omega) (by omega)]
    have e666:ω.f 666 [den ω au0,den ω Q2,ω.w 6,ω.w 5,ω.w 7,ω.w 8,ω.w 9,ω.w 0,ω.w 1,ω.w 2,ω.w 3,ω.w 4,den ω Q2,den ω W7,den ω ab0]=T1 (0,[.vi (bs (fun c=> !P8 (R8 (fil ω)) (atV (ω.w 5).toL (mid+m-1-c)) (atV (ω.w 5).toL c)) (mid-(mid+m-b)) (mid+m-b) mid),.vi (bs (fun c=> !P8 (R8 (fil ω)) (atV (ω.w 5).toL (mid+m-1-c)) (atV (ω.w 5).toL c)) (mid-(mid+m-b)) (mid+m-b) mid)]):=by
     rw[hf,d5]
     exact hF2 (mid+m-b) mid _ _ _ _ (by rw[d4];rfl) (by rw[d2];rfl)
    refine P5 (r:=(0,_)) ?_ e666 ?_
    ·show Q9 _ [den ω au0,den ω Q2]=_
     rw[d4,d2];exact hlp _ _ hlh
    ·refine key _ _ _ (.vi 0) (.vi 0) ab1 ab2 hlh rfl ?_ (fun n h1 h2=> ?_)
     ·show S4 (ω.f 666 [den ω au0,den ω Q2,ω.w 6,ω.w 5,ω.w 7,ω.w 8,ω.w 9,ω.w 0,ω.w 1,ω.w 2,ω.w 3,ω.w 4,den ω Q2,den ω W7,den ω ab0]).toL 1 0=_
      rw[e666];rfl
     ·show Val.vi (arI .sub .i64 (den ω W7).toI (den ω ab1).toI)=_
      rw[d3,h1,O9,O9,au4 h2 (by omega)]
   ·refine ite_f (by show decide ((den ω Q2).toI<(ω.w 8).toI)=false;rw[d2,h8,O9];exact decide_eq_false (by omega)) ?_
    have hlh:mid<m∧a=mid+m-b∧m=mid∨m≤mid∧a=a∧m=m:= .inr ⟨by omega,rfl,rfl⟩
    have e666:ω.f 666 [ω.w 7,ω.w 8,ω.w 6,ω.w 5,ω.w 7,ω.w 8,ω.w 9,ω.w 0,ω.w 1,ω.w 2,ω.w 3,ω.w 4,den ω Q2,den ω W7,den ω ab0]=T1 (0,[.vi (bs (fun c=> !P8 (R8 (fil ω)) (atV (ω.w 5).toL (mid+m-1-c)) (atV (ω.w 5).toL c)) (m-a) a m),.vi (bs (fun c=> !P8 (R8 (fil ω)) (atV (ω.w 5).toL (mid+m-1-c)) (atV (ω.w 5).toL c)) (m-a) a m)]):=by
     rw[hf,d5]
     exact hF2 a m _ _ _ _ (ah4 h7) (ah4 h8)
    refine P5 (r:=(0,_)) ?_ e666 ?_
    ·show Q9 _ [ω.w 7,ω.w 8]=_
     rw[w7,w8];exact hlp _ _ hlh
    ·refine key _ _ _ (.vi 0) (.vi 0) Y2 Y3 hlh rfl ?_ (fun n h1 h2=> ?_)
     ·show S4 (ω.f 666 [ω.w 7,ω.w 8,ω.w 6,ω.w 5,ω.w 7,ω.w 8,ω.w 9,ω.w 0,ω.w 1,ω.w 2,ω.w 3,ω.w 4,den ω Q2,den ω W7,den ω ab0]).toL 1 0=_
      rw[e666];rfl
     ·show Val.vi (arI .sub .i64 (den ω W7).toI (den ω Y2).toI)=_
      rw[d3,h1,O9,O9,au4 h2 (by omega)]
theorem sym_vac{a b c d e f g h i j:Val}(hn:(F 626 [a,b,c,d,e,f,g,h,i,j,.vi 1]).toB=true):False:=by
 obtain⟨_,_,q2,q3,_,q5,_⟩:=ab7.1 (show aE1 [a,b,c,d,e,f,g,h,i,j,.vi 1]=true from hn)
 have q2:h.toI<i.toI:=q2
 have q3:i.toI<j.toI:=q3
 have q5:j.toI-h.toI≤1:=q5
 omega
end Go.Ev.S8
namespace Go.Ev.S8
open Go Go.Ev Go.Ev.S7
theorem cM3{x y:Nat}(h:x*y≤1000000):arI .mul .i64 (x:Int) (y:Int)=((x*y:Nat):Int):=by
 have:arI .mul .i64 (x:Int) (y:Int)=IntKind.i64.wrap ((x:Int)*(y:Int)):=rfl
 rw[this,←Int.natCast_mul]
 exact cg7 (by omega) (by omega)
theorem ce6{M:List Val}{n va vb:Val}{N a b:Nat}(ho:M.all okK=true)(hM:M.length=N)(hn:n.toI=(N:Int))(hN:N≤100)(ha:va.toI=(a:Int))(hb:vb.toI=(b:Int))(h1:a≤b)(h2:b≤N):(F 624 [.vl M,n,va,vb]).toB=true:=by
 show(aq5 (.vl M) n&&decide (0≤va.toI∧va.toI≤vb.toI∧vb.toI≤n.toI))=true
 exact and2 (ab9 ho hM hn hN) (decide_eq_true (by rw[hn,ha,hb];omega))
theorem a88{sec:Option Bool}{B:Nat}{l:List Val}(h:l.all okK=true)(k:Nat):(W9 sec B l k).all okK=true:=Y8 h (ac0 B l k)
theorem df8{ω:Opq}(hf: ∀i a,ω.f i a=F i a){n:Nat}{l:List Val}(h1:(ω.w 6).toI=n)(h2:(ω.w 7).toI=n)(hl:l.length=n)(ho:l.all okK=true)(hn:n≤100):
 Q9 (fun vs=>O8 cR4 (ω.upd 2000 vs)) [.vi 0,.vi 20,.vl l]=some (0,[.vi (20*(n/20):Nat),.vi (20*(n/20)+20:Nat),.vl (W9 (R8 (fil ω)) 20 l (n/20))]):=by
 have hq:=B2 n 20
 refine S5 (fun k=>[.vi (20*k:Nat),.vi (20*k+20:Nat),.vl (W9 (R8 (fil ω)) 20 l k)]) (n:=n/20) rfl (fun k hk=> ?_) ?_
 ·have hk2:20*k+20≤n:=by omega
  show O8 cR4 (ω.upd 2000 [.vi (20*k:Nat),.vi (20*k+20:Nat),.vl (W9 (R8 (fil ω)) 20 l k)])=_
  obtain⟨ω',hω⟩: ∃ω',ω'=ω.upd 2000 [.vi (20*k:Nat),.vi (20*k+20:Nat),.vl (W9 (R8 (fil ω)) 20 l k)]:=⟨_,rfl⟩
  have v0:ω'.w 2000= .vi (20*k:Nat):=by rw[hω];rfl
  have v1:ω'.w 2001= .vi (20*k+20:Nat):=by rw[hω];rfl
  have v2:ω'.w 2002= .vl (W9 (R8 (fil ω)) 20 l k):=by rw[hω];rfl
  have u1:(ω'.w 6).toI=n:=by rw[hω];exact h1
  have u2:(ω'.w 7).toI=n:=by rw[hω];exact h2
  have hf': ∀i a,ω'.f i a=F i a:=by rw[hω];exact hf
  have uf:fil ω'=fil ω:=by rw[hω];rfl
  rw[←hω]
  unfold cR4
  refine ite_t (by show decide ((ω'.w 2001).toI≤(ω'.w 7).toI)=true;rw[v1,u2];exact decide_eq_true (by show((20*k+20:Nat):Int)≤(n:Int);omega)) (need_ok ?_ ?_)
  ·show(ω'.f 624 [ω'.w 2002,ω'.w 6,ω'.w 2000,ω'.w 2001]).toB=true
   rw[hf',v0,v1,v2]
   exact ce6 (a88 ho k) (by rw[V8];exact hl) u1 hn rfl rfl (by omega) hk2
  ·show some (0,[ω'.w 2001,Val.vi (arI .add .i64 (ω'.w 2001).toI 20),ω'.f 625 [ω'.w 0,ω'.w 1,ω'.w 2,ω'.w 3,ω'.w 4,ω'.w 2002,ω'.w 2000,ω'.w 2001]])=_
   rw[hf',v0,v1,v2,cO9 rfl rfl,uf,O9,show(20:Int)=((20:Nat):Int)from rfl,aY0 (by omega)]
   rfl
 ·show O8 cR4 (ω.upd 2000 [.vi (20*(n/20):Nat),.vi (20*(n/20)+20:Nat),.vl (W9 (R8 (fil ω)) 20 l (n/20))])=_
  unfold cR4
  refine ite_f ?_ rfl
  show decide (((20*(n/20)+20:Nat):Int)≤(ω.w 7).toI)=false
  rw[h2];exact decide_eq_false (by omega)
theorem df9{ω:Opq}(hf: ∀i a,ω.f i a=F i a){n bs:Nat}{l:List Val}(h1:(ω.w 6).toI=n)(h2:ω.w 7= .vi n)(h3:ω.w 3000= .vi bs)(h0:0<bs)(hl:l.length=n)(ho:l.all okK=true)(hn:n≤100)(hbs:bs≤1000)(hb:Bk (R8 (fil ω)) bs n l):
 Q9 (fun vs=>O8 cJ7 (ω.upd 4000 vs)) [.vi 0,.vi (2*bs:Nat),.vl l]=some (0,[.vi (2*bs*(n/(2*bs)):Nat),.vi (2*bs*(n/(2*bs))+2*bs:Nat),.vl (W9 (R8 (fil ω)) (2*bs) l (n/(2*bs)))]):=by
 have hq:2*bs*(n/(2*bs))≤n:=B2 n (2*bs)
 have hq2:n<2*bs*(n/(2*bs))+2*bs:=by
  have:=I1 n (show 0<2*bs by omega)
  rw[Nat.mul_succ]at this;exact this
 have ev: ∀k,bs*(2*k)=2*bs*k:=fun k=>by rw[←B3,u9 bs 2]
 have od: ∀k,bs*(2*k+1)=2*bs*k+bs:=fun k=>by rw[Nat.mul_succ,ev]
 generalize n/(2*bs)=q at hq hq2⊢
 refine S5 (fun k=>[.vi (2*bs*k:Nat),.vi (2*bs*k+2*bs:Nat),.vl (W9 (R8 (fil ω)) (2*bs) l k)]) (n:=q) (by rw[Nat.mul_zero,j8];rfl) (fun k hk=> ?_) ?_
 ·have hk2:2*bs*k+2*bs≤n:=by
   have:2*bs*(k+1)≤2*bs*q:=E4 _ hk
   rw[Nat.mul_succ]at this;omega
  show O8 cJ7 (ω.upd 4000 [.vi (2*bs*k:Nat),.vi (2*bs*k+2*bs:Nat),.vl (W9 (R8 (fil ω)) (2*bs) l k)])=some (0,[.vi (2*bs*(k+1):Nat),.vi (2*bs*(k+1)+2*bs:Nat),.vl (W9 (R8 (fil ω)) (2*bs) l (k+1))])
  obtain⟨ω',hω⟩: ∃ω',ω'=ω.upd 4000 [.vi (2*bs*k:Nat),.vi (2*bs*k+2*bs:Nat),.vl (W9 (R8 (fil ω)) (2*bs) l k)]:=⟨_,rfl⟩
  have v0:ω'.w 4000= .vi (2*bs*k:Nat):=by rw[hω];rfl
  have v1:ω'.w 4001= .vi (2*bs*k+2*bs:Nat):=by rw[hω];rfl
  have v2:ω'.w 4002= .vl (W9 (R8 (fil ω)) (2*bs) l k):=by rw[hω];rfl
  have u1:(ω'.w 6).toI=n:=by rw[hω];exact h1
  have u2:ω'.w 7= .vi n:=by rw[hω];exact h2
  have u3:ω'.w 3000= .vi bs:=by rw[hω];exact h3
  have hf': ∀i a,ω'.f i a=F i a:=by rw[hω];exact hf
  have uf:fil ω'=fil ω:=by rw[hω];rfl
  have a1:arI .add .i64 ((2*bs*k:Nat):Int) (bs:Int)=((2*bs*k+bs:Nat):Int):=aY0 (by omega)
  have a2:arI .mul .i64 2 (bs:Int)=((2*bs:Nat):Int):=cM3 (x:=2) (by omega)
  have a3:arI .add .i64 ((2*bs*k+2*bs:Nat):Int) ((2*bs:Nat):Int)=((2*bs*k+2*bs+2*bs:Nat):Int):=aY0 (by omega)
  have s1:=hb (2*k)
  rw[ev,x8 (by omega)]at s1
  have s2:=hb (2*k+1)
  rw[od,show 2*bs*k+bs+bs=2*bs*k+2*bs by omega,x8 (by omega)]at s2
  rw[←hω]
  unfold cJ7
  refine ite_t (by show decide ((ω'.w 4001).toI≤(ω'.w 7).toI)=true;rw[v1,u2];exact decide_eq_true (by show((2*bs*k+2*bs:Nat):Int)≤(n:Int);omega)) (need_ok ?_ ?_)
  ·show(ω'.f 626 [ω'.w 0,ω'.w 1,ω'.w 2,ω'.w 3,ω'.w 4,ω'.w 4002,ω'.w 6,ω'.w 4000,Val.vi (arI .add .i64 (ω'.w 4000).toI (ω'.w 3000).toI),ω'.w 4001,.vi 128]).toB=true
   rw[hf',v0,v1,v2,u3,O9,O9,a1]
   exact bb3 (a88 ho k) (by rw[V8];exact hl) u1 hn (by omega) (by omega) hk2 (by omega) (by rw[uf,ac1 (by omega) (b9 _)];exact s1) (by rw[uf,ac1 (by omega) (by omega)];exact s2)
  ·show some (0,[ω'.w 4001,Val.vi (arI .add .i64 (ω'.w 4001).toI (arI .mul .i64 2 (ω'.w 3000).toI)),ω'.f 625 [ω'.w 0,ω'.w 1,ω'.w 2,ω'.w 3,ω'.w 4,ω'.w 4002,ω'.w 4000,ω'.w 4001]])=_
   rw[hf',v0,v1,v2,u3,cO9 rfl rfl,uf,O9,O9,a2,a3,Nat.mul_succ]
   rfl
 ·show O8 cJ7 (ω.upd 4000 [.vi (2*bs*q:Nat),.vi (2*bs*q+2*bs:Nat),.vl (W9 (R8 (fil ω)) (2*bs) l q)])=_
  unfold cJ7
  refine ite_f ?_ rfl
  show decide (((2*bs*q+2*bs:Nat):Int)≤(ω.w 7).toI)=false
  rw[h2];exact decide_eq_false (by show¬((2*bs*q+2*bs:Nat):Int)≤(n:Int);omega)
def d54:SX:= .app 669 [.ci 0,.op (.ar .mul .i64) [.ci 2,.va 3000],.va 3001,.va 6,.va 3001,.va 7,.va 0,.va 1,.va 2,.va 3,.va 4,.va 3000]
def aH3:SX:= zo d54 0
def bw9:SX:= zo d54 2
theorem ce7:d25= .ite (zs (.va 3000) (.va 7)) (.loop ⟨669,[.ci 0,.op (.ar .mul .i64) [.ci 2,.va 3000],.va 3001],4000,[.va 6,.va 3001,.va 7,.va 0,.va 1,.va 2,.va 3,.va 4,.va 3000]⟩ cJ7 [.ite (zs (za aH3 (.va 3000)) (.va 7)) (.need (.app 626 [.va 0,.va 1,.va 2,.va 3,.va 4,bw9,.va 6,aH3,za aH3 (.va 3000),.va 7,.ci 128]) (.ret 0 [.op (.ar .mul .i64) [.va 3000,.ci 2],.app 625 [.va 0,.va 1,.va 2,.va 3,.va 4,bw9,aH3,.va 7]])) (.ret 0 [.op (.ar .mul .i64) [.va 3000,.ci 2],bw9])]) (.ret 1 [.va 3000,.va 3001]):=rfl
theorem cP1{ω:Opq}(hf: ∀i a,ω.f i a=F i a){n bs:Nat}{l:List Val}(h1:(ω.w 6).toI=n)(h2:ω.w 7= .vi n)(h0:0<bs)(hlt:bs<n)(hl:l.length=n)(ho:l.all okK=true)(hn:n≤100)(hb:Bk (R8 (fil ω)) bs n l):
 O8 d25 (ω.upd 3000 [.vi bs,.vl l])=some (0,[.vi (2*bs:Nat),.vl (pass (R8 (fil ω)) bs n l)]):=by
 obtain⟨ω',hω⟩: ∃ω',ω'=ω.upd 3000 [.vi bs,.vl l]:=⟨_,rfl⟩
 have v0:ω'.w 3000= .vi bs:=by rw[hω];rfl
 have v1:ω'.w 3001= .vl l:=by rw[hω];rfl
 have u1:(ω'.w 6).toI=n:=by rw[hω];exact h1
 have u2:ω'.w 7= .vi n:=by rw[hω];exact h2
 have hf': ∀i a,ω'.f i a=F i a:=by rw[hω];exact hf
 have uf:fil ω'=fil ω:=by rw[hω];rfl
 have a2:arI .mul .i64 2 (bs:Int)=((2*bs:Nat):Int):=cM3 (x:=2) (by omega)
 have a2':arI .mul .i64 (bs:Int) 2=((2*bs:Nat):Int):=by rw[u9];exact cM3 (y:=2) (by omega)
 have it:=df9 hf' (l:=l) u1 u2 v0 h0 hl ho hn (by omega) (by rw[uf];exact hb)
 rw[uf]at it
 have hp:pass (R8 (fil ω)) bs n l=if 2*bs*(n/(2*bs))+bs<n then V3 (R8 (fil ω)) (W9 (R8 (fil ω)) (2*bs) l (n/(2*bs))) (2*bs*(n/(2*bs))) n else W9 (R8 (fil ω)) (2*bs) l (n/(2*bs)):=rfl
 have hF: ∀x y:Val,F 669 [.vi 0,.vi (2*bs:Nat),.vl l,x,y,.vi n,ω'.w 0,ω'.w 1,ω'.w 2,ω'.w 3,ω'.w 4,.vi bs]=T1 (0,[.vi (2*bs*(n/(2*bs)):Nat),.vi (2*bs*(n/(2*bs))+2*bs:Nat),.vl (W9 (R8 (fil ω)) (2*bs) l (n/(2*bs)))]):=fun _ _=>by rw[←uf];rfl
 have hq:2*bs*(n/(2*bs))≤n:=B2 n (2*bs)
 have hq2:n<2*bs*(n/(2*bs))+2*bs:=by
  have:=I1 n (show 0<2*bs by omega)
  rw[Nat.mul_succ]at this;exact this
 generalize n/(2*bs)=q at it hp hF hq hq2
 have e669:den ω' d54=T1 (0,[.vi (2*bs*q:Nat),.vi (2*bs*q+2*bs:Nat),.vl (W9 (R8 (fil ω)) (2*bs) l q)]):=by
  show ω'.f 669 [.vi 0,.vi (arI .mul .i64 2 (ω'.w 3000).toI),ω'.w 3001,ω'.w 6,ω'.w 3001,ω'.w 7,ω'.w 0,ω'.w 1,ω'.w 2,ω'.w 3,ω'.w 4,ω'.w 3000]=_
  rw[hf',v0,v1,u2,O9,a2,hF]
 have ea:den ω' aH3= .vi (2*bs*q:Nat):=by show S4 (den ω' d54).toL 1 0=_;rw[e669];rfl
 have el:den ω' bw9= .vl (W9 (R8 (fil ω)) (2*bs) l q):=by show S4 (den ω' d54).toL 1 2=_;rw[e669];rfl
 have eb:den ω' (za aH3 (.va 3000))= .vi (2*bs*q+bs:Nat):=by
  show Val.vi (arI .add .i64 (den ω' aH3).toI (ω'.w 3000).toI)=_
  rw[ea,v0,O9,O9,aY0 (by omega)]
 rw[←hω,ce7]
 refine ite_t (by show decide ((ω'.w 3000).toI<(ω'.w 7).toI)=true;rw[v0,u2];exact decide_eq_true (by show((bs:Nat):Int)<(n:Int);omega)) (P5 (r:=(0,[.vi (2*bs*q:Nat),.vi (2*bs*q+2*bs:Nat),.vl (W9 (R8 (fil ω)) (2*bs) l q)])) ?_ e669 ?_)
 ·show Q9 _ [.vi 0,.vi (arI .mul .i64 2 (ω'.w 3000).toI),ω'.w 3001]=_
  rw[v0,v1,O9,a2];exact it
 ·by_cases hc:2*bs*q+bs<n
  ·rw[hp,if_pos hc]
   refine ite_t (by show decide ((den ω' (za aH3 (.va 3000))).toI<(ω'.w 7).toI)=true;rw[eb,u2];exact decide_eq_true (by show((2*bs*q+bs:Nat):Int)<(n:Int);omega)) (need_ok ?_ ?_)
   ·show(ω'.f 626 [ω'.w 0,ω'.w 1,ω'.w 2,ω'.w 3,ω'.w 4,den ω' bw9,ω'.w 6,den ω' aH3,den ω' (za aH3 (.va 3000)),ω'.w 7,.vi 128]).toB=true
    rw[hf',el,ea,eb,u2]
    have s1:=hb (2*q)
    rw[←B3,u9 bs 2,x8 (by omega)]at s1
    have s2:=hb (2*q+1)
    rw[Nat.mul_succ,←B3,u9 bs 2,C8 (by omega)]at s2
    exact bb3 (a88 ho q) (by rw[V8];exact hl) u1 hn (by omega) hc (b9 _) (by omega) (by rw[uf,ac1 (by omega) (b9 _)];exact s1) (by rw[uf,ac1 (by omega) (by omega)];exact s2)
   ·show some (0,[Val.vi (arI .mul .i64 (ω'.w 3000).toI 2),ω'.f 625 [ω'.w 0,ω'.w 1,ω'.w 2,ω'.w 3,ω'.w 4,den ω' bw9,den ω' aH3,ω'.w 7]])=_
    rw[hf',el,ea,u2,v0,O9,a2',cO9 rfl rfl,uf]
  ·rw[hp,if_neg hc]
   refine ite_f (by show decide ((den ω' (za aH3 (.va 3000))).toI<(ω'.w 7).toI)=false;rw[eb,u2];exact decide_eq_false (by show¬((2*bs*q+bs:Nat):Int)<(n:Int);omega)) ?_
   show some (0,[Val.vi (arI .mul .i64 (ω'.w 3000).toI 2),den ω' bw9])=_
   rw[el,v0,O9,a2']
theorem dh0{ω:Opq}(hf: ∀i a,ω.f i a=F i a){n:Nat}(h1:(ω.w 6).toI=n)(h2:ω.w 7= .vi n)(hn:n≤100): ∀(f bs:Nat) (l:List Val),0<bs→n≤bs*2^f→l.length=n→l.all okK=true→Bk (R8 (fil ω)) bs n l→
 Iter (fun vs=>O8 d25 (ω.upd 3000 vs)) [.vi bs,.vl l] 0 [.vi (ac6 (R8 (fil ω)) n f bs l).1,.vl (ac6 (R8 (fil ω)) n f bs l).2]:=by
 have out: ∀(bs:Nat) (l:List Val),n≤bs→O8 d25 (ω.upd 3000 [.vi bs,.vl l])=some (1,[.vi bs,.vl l]):=fun bs l h=>by
  rw[ce7]
  refine ite_f ?_ rfl
  show decide ((bs:Int)<(ω.w 7).toI)=false
  rw[h2];exact decide_eq_false (by show¬((bs:Nat):Int)<(n:Int);omega)
 intro f
 induction f with
 |zero=>
  intro bs l h0 hb hl ho hbk
  exact .out (out bs l (by simpa using hb))
 |succ f ih=>
  intro bs l h0 hb hl ho hbk
  rw[ac6]
  by_cases h:bs<n
  ·rw[if_pos h]
   obtain⟨p1,p2,p3⟩:=bw0 h0 hl hbk
   exact .more (cP1 hf h1 h2 h0 h hl ho hn hbk) (ih (2*bs) _ (by omega) (by rw[Nat.pow_succ,u9 (2^f) 2,←B3,u9 bs 2]at hb;exact hb) (by rw[p3.length_eq];exact hl) (Y8 ho p3) p1)
  ·rw[if_neg h]
   exact .out (out bs l (by omega))
theorem t_stab{ω:Opq}(hf: ∀i a,ω.f i a=F i a)(hn:(F 628 [ω.w 5,ω.w 6,ω.w 7]).toB=true):O8 T_stab ω=some (0,[F 625 [ω.w 0,ω.w 1,ω.w 2,ω.w 3,ω.w 4,ω.w 5,.vi 0,ω.w 7]]):=by
 obtain⟨ho,hd⟩:=O4 (show(aq5 (ω.w 5) (ω.w 6)&&(isI (ω.w 7)&&decide ((ω.w 7).toI=(ω.w 6).toI)))=true from hn)
 obtain⟨i2,hd⟩:=O4 hd
 obtain⟨e0,oa,h1,hl⟩:=ab6 ho
 have q1:=of_decide_eq_true hd
 generalize hL:(ω.w 5).toL=l at e0 oa h1 hl
 obtain⟨n,hnn⟩: ∃n,l.length=n:=⟨_,rfl⟩
 rw[hnn]at h1 hl
 have w2:ω.w 7= .vi n:=(aA3 i2).trans (congrArg Val.vi (q1.trans h1))
 have h2:(ω.w 7).toI=n:=q1.trans h1
 have hq:=B2 n 20
 have e667:den ω al7=T1 (0,[.vi (20*(n/20):Nat),.vi (20*(n/20)+20:Nat),.vl (W9 (R8 (fil ω)) 20 l (n/20))]):=by
  show ω.f 667 [.vi 0,.vi 20,ω.w 5,ω.w 6,ω.w 5,ω.w 7,ω.w 0,ω.w 1,ω.w 2,ω.w 3,ω.w 4]=_
  rw[hf,e0,w2];rfl
 have d1:den ω al8= .vl (W9 (R8 (fil ω)) 20 l (n/20)):=by show S4 (den ω al7).toL 1 2=_;rw[e667];rfl
 have d2:den ω al9= .vi (20*(n/20):Nat):=by show S4 (den ω al7).toL 1 0=_;rw[e667];rfl
 have d3:den ω Z4= .vl (V3 (R8 (fil ω)) (W9 (R8 (fil ω)) 20 l (n/20)) (20*(n/20)) n):=by
  show ω.f 625 [ω.w 0,ω.w 1,ω.w 2,ω.w 3,ω.w 4,den ω al8,den ω al9,ω.w 7]=_
  rw[hf,d1,d2,w2,cO9 rfl rfl]
 have bk:=bl3 (sec:=R8 (fil ω)) hnn
 have pm:(V3 (R8 (fil ω)) (W9 (R8 (fil ω)) 20 l (n/20)) (20*(n/20)) n).Perm l:=(ab5 (R8 (fil ω)) hq).trans (ac0 _ _ _)
 have cl:Cl (R8 (fil ω)) (V3 (R8 (fil ω)) (W9 (R8 (fil ω)) 20 l (n/20)) (20*(n/20)) n) l:=(b94 (R8 (fil ω)) hq).trans (aV5 _ _ _)
 have bl:=V8 (sec:=R8 (fil ω)) 20 l (n/20)
 have ba:=a88 (sec:=R8 (fil ω)) (B:=20) oa (n/20)
 generalize V3 (R8 (fil ω)) (W9 (R8 (fil ω)) 20 l (n/20)) (20*(n/20)) n=L at d3 bk pm cl
 have hres:=ba2 9 20 L (by omega) (by omega) (by rw[pm.length_eq];exact hnn) bk
 rw[srt_cl cl]at hres
 have e668:ω.f 668 [.vi 20,den ω Z4,ω.w 6,den ω Z4,ω.w 7,ω.w 0,ω.w 1,ω.w 2,ω.w 3,ω.w 4]=T1 (0,[.vi (ac6 (R8 (fil ω)) n 9 20 L).1,.vl (ac6 (R8 (fil ω)) n 9 20 L).2]):=by
  rw[hf,d3,w2];rfl
 have hF:F 625 [ω.w 0,ω.w 1,ω.w 2,ω.w 3,ω.w 4,ω.w 5,.vi 0,ω.w 7]= .vl (srt (R8 (fil ω)) l):=by
  rw[e0,w2,show Val.vi 0= .vi ((0:Nat):Int)from rfl,cO9 rfl rfl,←hnn,aJ7]
 rw[hF]
 unfold T_stab
 refine P5 (r:=(0,[.vi (20*(n/20):Nat),.vi (20*(n/20)+20:Nat),.vl (W9 (R8 (fil ω)) 20 l (n/20))])) ?_ e667 (need_ok ?_ ?_)
 ·show Q9 _ [.vi 0,.vi 20,ω.w 5]=_
  rw[e0];exact df8 hf h1 h2 hnn oa hl
 ·show(ω.f 624 [den ω al8,ω.w 6,den ω al9,ω.w 7]).toB=true
  rw[hf,d1,d2]
  exact ce6 ba (bl.trans hnn) h1 hl rfl h2 hq (b9 _)
 ·refine P5 (r:=(0,[.vi (ac6 (R8 (fil ω)) n 9 20 L).1,.vl (ac6 (R8 (fil ω)) n 9 20 L).2])) ?_ e668 ?_
  ·show Q9 _ [.vi 20,den ω Z4]=_
   rw[d3,T4]
   exact dh0 hf h1 w2 hl 9 20 L (by omega) (by omega) (by rw[pm.length_eq];exact hnn) (Y8 oa pm) bk
  ·show some (0,[S4 (ω.f 668 [.vi 20,den ω Z4,ω.w 6,den ω Z4,ω.w 7,ω.w 0,ω.w 1,ω.w 2,ω.w 3,ω.w 4]).toL 1 1])=_
   rw[e668,hres];rfl
end Go.Ev.S8
namespace Go.Ev.S8
open Go Go.Ev Go.Ev.S7
theorem ct1(L:List Val)(k:Nat)(v:Val)(h:k<L.length):(L.set k v).take (k+1)=L.take k++[v]:=by
 rw[O0,List.getElem?_set_self h,List.take_set_of_le (b9 _)];rfl
theorem ce8{M:List Val}{j n:Nat}(h:M.length=j+(n+1)):M.drop j=atV M j::M.drop (j+1):=by
 have hj:j<M.length:=by omega
 rw[J7 hj]
 unfold atV
 rw[i3,j7 hj];rfl
theorem bb4(f:List Val): ∀(n p j:Nat) (M:List Val),(b95 f p j M n).2.length=M.length
 |0,_,_,_=>rfl
 |n+1,p,j,M=>by
  unfold b95
  split
  ·rw[bb4 f n];simp
  ·exact bb4 f n p (j+1) M
theorem bx0(f:List Val): ∀(n p j:Nat) (M:List Val),(b95 f p j M n).1≤p+n
 |0,p,_,_=>b9 _
 |n+1,p,j,M=>by
  unfold b95
  split
  ·have:=bx0 f n (p+1) (j+1) (M.set p (Z5 (atV M j)));omega
  ·have:=bx0 f n p (j+1) M;omega
theorem aV7(f:List Val): ∀(n p j:Nat) (M:List Val),M.length=j+n→p≤j→(∀v∈M.drop j,Z5 v=v)→(b95 f p j M n).2.take (b95 f p j M n).1=M.take p++(M.drop j).filter (hasR f)
 |0,p,j,M,h,hp,_=>by
  rw[D9 (by omega)]
  simp[b95]
 |n+1,p,j,M,h,hp,hn=>by
  have hd:=ce8 h
  have hv:Z5 (atV M j)=atV M j:=hn _ (by rw[hd];exact C6 ..)
  unfold b95
  rw[hd,z8]
  split
  ·rw[hv,aV7 f n (p+1) (j+1) _ (by rw[w6];omega) (by omega) (by
      rw[List.drop_set_of_lt (by omega)]
      exact fun v hvm=>hn v (by rw[hd];exact D5 _ hvm)),List.drop_set_of_lt (by omega),ct1 _ _ _ (by omega),u5]
   rfl
  ·exact aV7 f n p (j+1) M (by omega) (by omega) (fun v hvm=>hn v (by rw[hd];exact D5 _ hvm))
theorem bm0{f:Val→Bool}{L:List Val}{i:Nat}(hi:i<L.length)(h1: ∀k,k<i→f (atV L k)=true)(h2:f (atV L i)=false):L.filter f=L.take i++(L.drop (i+1)).filter f:=by
 have hd:L.drop i=atV L i::L.drop (i+1):=ce8 (n:=L.length-(i+1)) (by omega)
 have ht:(L.take i).filter f=L.take i:=by
  rw[K7]
  intro v hv
  obtain⟨k,hk,rfl⟩:=G8 hv
  have hk':k<i:=by rw[j0]at hk;omega
  have:=h1 k hk'
  unfold atV at this
  rw[i3,j7 (by omega)]at this
  rw[List.getElem_take];exact this
 conv=>lhs;rw[←s7 i L,B8,ht,hd,z8,if_neg (by rw[h2];simp)]
theorem bP6{f:Val→Bool}{L:List Val}(h: ∀k,k<L.length→f (atV L k)=true):L.filter f=L:=by
 rw[K7]
 intro v hv
 obtain⟨k,hk,rfl⟩:=G8 hv
 have:=h k hk
 unfold atV at this
 rw[i3,j7 hk]at this
 exact this
theorem cP2{f:Val→Bool}{L M:List Val}(h:L.all f=true)(hs: ∀v∈M,v∈L):M.all f=true:=j6.2 fun v hv=>j6.1 h v (hs v hv)
theorem dh1{ω:Opq}(hf: ∀i a,ω.f i a=F i a)(hn:(ω.w 5).toL.length≤100):Q9 (fun vs=>O8 cx9 (ω.upd 2000 vs)) [.vi 0,.vi 0]=some (aq3 (.vi 0) (fun i=>[.vi i,.vi i]) (fun i=> !hasR (fil ω) (atV (ω.w 5).toL i)) (ω.w 5).toL.length):=by
 have key: ∀i:Nat,i<(ω.w 5).toL.length→O8 cx9 (ω.upd 2000 [.vi 0,.vi i])=some (if hasR (fil ω) (atV (ω.w 5).toL i)then(0,[.vi 0,.vi (i+1:Nat)])else(2,[.vi i,.vi i])):=fun i hi=>by
  have p1:(i:Int)<((ω.w 5).toL.length:Int):=by omega
  have p2:(0:Int)≤(i:Int):=by omega
  unfold cx9
  simp only[O8,P2,den,dB,W0,R9,cs9,ct0,w0,w1,w2,w3,w4,w5,if_true,if_false,show 2000-2000=0 from rfl,show 2001-2000=1 from rfl,m6,o7,O9,S0,Q0,R1,p1,p2,decide_true,W2,W3,W4,ai5,hf,cN8,bb1,d52 (show i≤1000000 by omega)]
  cases hasR (fil ω) (atV (ω.w 5).toL i)<;>rfl
 refine am1 (fun i hi hb=> ?_) (fun i hi hb=> ?_) ?_
 ·show O8 cx9 (ω.upd 2000 [.vi 0,.vi i])=_
  rw[key i hi,if_pos (by simpa using hb)]
 ·show O8 cx9 (ω.upd 2000 [.vi 0,.vi i])=_
  rw[key i hi,if_neg (by simpa using hb)]
 ·show O8 cx9 (ω.upd 2000 [.vi 0,.vi _])=_
  unfold cx9
  simp[O8,P2,den,dB,W0,R9]
theorem cP3{ω:Opq}(hf: ∀i a,ω.f i a=F i a){N:Nat}(hN:(ω.w 5).toL.length=N)(hn:N≤100): ∀(n p j:Nat) (M:List Val),M.length=N→j+n=N→p<j→
 Iter (fun vs=>O8 cR5 (ω.upd 2000 vs)) [.vi p,.vi j,.vl M] 0 [.vi (b95 (fil ω) p j M n).1,.vi N,.vl (b95 (fil ω) p j M n).2]
 |0,p,j,M,hM,hj,hp=>by
  refine .out ?_
  show O8 cR5 (ω.upd 2000 [.vi p,.vi j,.vl M])=_
  have p1: ¬(j:Int)<(N:Int):=by omega
  obtain rfl:j=N:=by omega
  unfold cR5
  simp only[O8,P2,den,dB,W0,R9,cs9,ct0,cN9,w5,if_true,if_false,show 2000-2000=0 from rfl,show 2001-2000=1 from rfl,show 2002-2000=2 from rfl,m6,o7,O9,Q4,S0,Q0,hN,p1,decide_false,j9,b95]
 |n+1,p,j,M,hM,hj,hp=>by
  have p1:(j:Int)<(N:Int):=by omega
  have p2:(0:Int)≤(j:Int):=by omega
  have p3:(p:Int)<(N:Int):=by omega
  have p4:(0:Int)≤(p:Int):=by omega
  have key:O8 cR5 (ω.upd 2000 [.vi p,.vi j,.vl M])=some (0,if hasR (fil ω) (atV M j)then [.vi (p+1:Nat),.vi (j+1:Nat),.vl (M.set p (Z5 (atV M j)))]else [.vi p,.vi (j+1:Nat),.vl M]):=by
   unfold cR5
   simp only[O8,P2,den,dB,W0,R9,cs9,ct0,cN9,w0,w1,w2,w3,w4,w5,if_true,if_false,show 2000-2000=0 from rfl,show 2001-2000=1 from rfl,show 2002-2000=2 from rfl,m6,o7,O9,Q4,S0,Q0,R1,hN,hM,p1,p2,p3,p4,decide_true,G4,W2,W3,W4,Z6,Z7,Z8,Z9,ai1,ai5,hf,cN8,bb1,aD7,Int.toNat_natCast,d52 (show j≤1000000 by omega),d52 (show p≤1000000 by omega)]
   cases hasR (fil ω) (atV M j)<;>rfl
  unfold b95
  split
  ·rename_i hb
   rw[hb,if_pos rfl]at key
   exact .more key (cP3 hf hN hn n (p+1) (j+1) _ (by rw[w6,hM]) (by omega) (by omega))
  ·rename_i hb
   rw[if_neg hb]at key
   exact .more key (cP3 hf hN hn n p (j+1) M hM (by omega) (by omega))
theorem cP4{M:List Val}{n:Nat}(ho:M.all okK=true)(hM:M.length=n)(hn:n≤100):(F 628 [.vl M,.vi n,.vi n]).toB=true:=by
 show(aq5 (.vl M) (.vi n)&&(isI (.vi n)&&decide ((n:Int)=(n:Int))))=true
 exact and2 (ab9 ho hM rfl (by omega)) (and2 rfl (decide_eq_true rfl))
theorem t_of{ω:Opq}(hf: ∀i a,ω.f i a=F i a)(hn:(ω.w 5).toL.length≤100)(ho:(isL (ω.w 5)&&(ω.w 5).toL.all okK)=true):O8 T_of ω=some (0,[F 630 [ω.w 0,ω.w 1,ω.w 2,ω.w 3,ω.w 4,ω.w 5]]):=by
 obtain⟨hl,ha⟩:=O4 ho
 have e5:ω.w 5= .vl (ω.w 5).toL:=isL_at hl
 have hF:F 630 [ω.w 0,ω.w 1,ω.w 2,ω.w 3,ω.w 4,ω.w 5]= .vl (srt (R8 (fil ω)) ((ω.w 5).toL.filter (hasR (fil ω)))):=rfl
 have h425: ∀M:List Val,F 625 [ω.w 0,ω.w 1,ω.w 2,ω.w 3,ω.w 4,.vl M,.vi 0,.vi M.length]= .vl (srt (R8 (fil ω)) M):=fun M=>by
  rw[←aJ7];rfl
 have hlp:=dh1 hf (show(ω.w 5).toL.length≤100 by omega)
 have h470:F 670 [.vi 0,.vi 0,.vi (ω.w 5).toL.length,ω.w 5,ω.w 0,ω.w 1,ω.w 2,ω.w 3,ω.w 4,.vi (ω.w 5).toL.length]=T1 (aq3 (.vi 0) (fun i=>[.vi i,.vi i]) (fun i=> !hasR (fil ω) (atV (ω.w 5).toL i)) (ω.w 5).toL.length):=rfl
 rw[hF]
 unfold T_of
 refine need_ok (and2 (decide_eq_true (show((ω.w 5).toL.length:Int)≤100 by omega)) (by show(ω.f 631 [ω.w 5]).toB=true;rw[hf];exact ho)) ?_
 have d1:den ω cy0= .vl (srt (R8 (fil ω)) (ω.w 5).toL):=by
  show ω.f 625 [ω.w 0,ω.w 1,ω.w 2,ω.w 3,ω.w 4,ω.w 5,.vi 0,.vi (ω.w 5).toL.length]=_
  have:=h425 (ω.w 5).toL
  rw[←e5]at this
  rw[hf];exact this
 have n2:dB ω d26=true:=by
  show decide (((ω.w 5).toL.length:Int)=((den ω cy0).toL.length:Int))=true
  rw[d1,Q4,am5];exact decide_eq_true rfl
 cases hfd:(List.range (ω.w 5).toL.length).find? (fun i=> !hasR (fil ω) (atV (ω.w 5).toL i))with
 |none=>
  have hs:aq3 (.vi 0) (fun i=>[.vi i,.vi i]) (fun i=> !hasR (fil ω) (atV (ω.w 5).toL i)) (ω.w 5).toL.length=(0,[.vi 0,.vi (ω.w 5).toL.length]):=by unfold aq3;rw[hfd]
  rw[hs]at hlp h470
  have hall:(ω.w 5).toL.filter (hasR (fil ω))=(ω.w 5).toL:=bP6 fun k hk=>by
   rw[C7]at hfd
   simpa using hfd k hk
  rw[hall]
  refine P5 (r:=(0,[.vi 0,.vi (ω.w 5).toL.length])) hlp ?_ ?_
  ·show ω.f 670 [.vi 0,.vi 0,.vi (ω.w 5).toL.length,ω.w 5,ω.w 0,ω.w 1,ω.w 2,ω.w 3,ω.w 4,.vi (ω.w 5).toL.length]=_
   rw[hf,h470]
  ·show O8 (.need d26 (.ret 0 [cy0])) ω=_
   refine need_ok n2 ?_
   show some (0,[den ω cy0])=_
   rw[d1]
 |some i=>
  obtain⟨hi,hb,hlt⟩:=a93 hfd
  have hs:aq3 (.vi 0) (fun i=>[.vi i,.vi i]) (fun i=> !hasR (fil ω) (atV (ω.w 5).toL i)) (ω.w 5).toL.length=(1,[.vi i,.vi i]):=by unfold aq3;rw[hfd]
  rw[hs]at hlp h470
  have hsplit:=bm0 (f:=hasR (fil ω)) hi (fun k hk=>by simpa using hlt k hk) (by simpa using hb)
  have hnorm: ∀v∈(ω.w 5).toL,Z5 v=v:=fun v hv=>cy7 (okK_at (j6.1 ha v hv)).1
  have hdt:=aV7 (fil ω) ((ω.w 5).toL.length-(i+1)) i (i+1) (ω.w 5).toL (by omega) (by omega) (fun v hv=>hnorm v (M6 hv))
  have hdl:=bb4 (fil ω) ((ω.w 5).toL.length-(i+1)) i (i+1) (ω.w 5).toL
  have hde:=bx0 (fil ω) ((ω.w 5).toL.length-(i+1)) i (i+1) (ω.w 5).toL
  rw[←hsplit]at hdt
  have hit:=cP3 hf (N:=(ω.w 5).toL.length) rfl (by omega) ((ω.w 5).toL.length-(i+1)) i (i+1) (ω.w 5).toL rfl (by omega) (by omega)
  have h471:F 671 [.vi i,.vi (i+1:Nat),ω.w 5,.vi (ω.w 5).toL.length,ω.w 5,ω.w 0,ω.w 1,ω.w 2,ω.w 3,ω.w 4]=T1 (0,[.vi (b95 (fil ω) i (i+1) (ω.w 5).toL ((ω.w 5).toL.length-(i+1))).1,.vi (ω.w 5).toL.length,.vl (b95 (fil ω) i (i+1) (ω.w 5).toL ((ω.w 5).toL.length-(i+1))).2]):=rfl
  generalize hdv:b95 (fil ω) i (i+1) (ω.w 5).toL ((ω.w 5).toL.length-(i+1))=D at hdt hdl hde hit h471
  obtain⟨p,M⟩:=D
  simp only at hdt hdl hde hit h471
  have d3:den ω cg6= .vi i:=by
   show S4 (ω.f 670 [.vi 0,.vi 0,.vi (ω.w 5).toL.length,ω.w 5,ω.w 0,ω.w 1,ω.w 2,ω.w 3,ω.w 4,.vi (ω.w 5).toL.length]).toL 1 0=_
   rw[hf,h470];rfl
  have d4:den ω d27= .vi (i+1:Nat):=by
   show Val.vi (arI .add .i64 (den ω cg6).toI 1)=_
   rw[d3,O9,d52 (by omega)]
  have d5:den ω d28=T1 (0,[.vi p,.vi (ω.w 5).toL.length,.vl M]):=by
   show ω.f 671 [den ω cg6,den ω d27,ω.w 5,.vi (ω.w 5).toL.length,ω.w 5,ω.w 0,ω.w 1,ω.w 2,ω.w 3,ω.w 4]=_
   rw[d3,d4,hf,h471]
  have d6:den ω aG0= .vi p:=by show S4 (den ω d28).toL 1 0=_;rw[d5];rfl
  have d9:den ω bO6= .vl M:=by show S4 (den ω d28).toL 1 2=_;rw[d5];rfl
  have d8:dI ω bu1=((ω.w 5).toL.length:Int)-p:=by show((ω.w 5).toL.length:Int)-dI ω aG0=_;rw[show dI ω aG0=(den ω aG0).toI from rfl,d6];rfl
  have i6:dI ω aG0=p:=by show(den ω aG0).toI=_;rw[d6];rfl
  have l9:dL ω bO6=M:=by show(den ω bO6).toL=_;rw[d9];rfl
  have hpM:p≤M.length:=by omega
  have htl:(M.take p).length=p:=by rw[j0];omega
  have hfl:((ω.w 5).toL.filter (hasR (fil ω))).length=p:=by rw[←hdt,htl]
  have i10:dI ω (.op .iadd [aG0,bu1])=(M.length:Int):=by show dI ω aG0+dI ω bu1=_;rw[i6,d8];omega
  obtain⟨Z,hZ⟩: ∃Z,dL ω cR6=M.take p++Z:=by
   have hcat:dL ω cR6=((dL ω bO6).drop (0:Int).toNat).take (dI ω aG0-0).toNat++dL ω (zc (.op .lrep [bu1,.op .row [.cs [],.ci 0,.ci 0,.cb false,.ci 0,.ci 0,.ci 0,.ci 0]]) (.op .lsub [bO6,.op .iadd [aG0,bu1],zL bO6])):=rfl
   refine⟨dL ω (zc (.op .lrep [bu1,.op .row [.cs [],.ci 0,.ci 0,.cb false,.ci 0,.ci 0,.ci 0,.ci 0]]) (.op .lsub [bO6,.op .iadd [aG0,bu1],zL bO6])),hcat.trans ?_⟩
   rw[l9,i6,show(0:Int).toNat=0 from rfl,C3,show((p:Int)-0).toNat=p by omega]
  have l11:den ω b85= .vl ((ω.w 5).toL.filter (hasR (fil ω))):=by
   show Val.vl (((dL ω cR6).drop (0:Int).toNat).take (dI ω aG0-0).toNat)=_
   rw[hZ,i6,show(0:Int).toNat=0 from rfl,C3,show((p:Int)-0).toNat=p by omega]
   have:(M.take p++Z).take p=M.take p:=by
    rw[N3 (by omega),I5,Nat.min_self]
   rw[this,hdt]
  have d12:den ω c96= .vl (srt (R8 (fil ω)) ((ω.w 5).toL.filter (hasR (fil ω)))):=by
   show ω.f 625 [ω.w 0,ω.w 1,ω.w 2,ω.w 3,ω.w 4,den ω b85,.vi 0,.vi (den ω b85).toL.length]=_
   rw[l11,hf];exact h425 _
  have g7:dB ω d94=true:=by show decide (0≤dI ω aG0)=true;rw[i6];exact decide_eq_true (by omega)
  refine P5 (r:=(1,[.vi i,.vi i])) hlp ?_ ?_
  ·show ω.f 670 [.vi 0,.vi 0,.vi (ω.w 5).toL.length,ω.w 5,ω.w 0,ω.w 1,ω.w 2,ω.w 3,ω.w 4,.vi (ω.w 5).toL.length]=_
   rw[hf,h470]
  ·refine(ite_f (x:= .need d26 (.ret 0 [cy0])) (e:= .op (.cmp .eql) [cg6,.ci (-1)]) ?_ ?_)
   ·show decide ((den ω cg6).toI= -1)=false
    rw[d3,O9];exact decide_eq_false (by omega)
   ·refine P5 (r:=(0,[.vi p,.vi (ω.w 5).toL.length,.vl M])) ?_ d5 ?_
    ·show Q9 _ [den ω cg6,den ω d27,ω.w 5]=_
     rw[d3,d4,e5,T4]
     rw[Q4]
     exact hit
    ·refine need_ok (and2 g7 ?_) (need_ok (and2 (and2 g7 ?_) (and2 ?_ ?_)) (need_ok (and2 (and2 g7 ?_) (and2 ?_ ?_)) (need_ok ?_ ?_)))
     ·show decide (dI ω aG0≤((ω.w 5).toL.length:Int))=true
      rw[i6];exact decide_eq_true (by omega)
     ·show decide (0≤dI ω bu1)=true
      rw[d8];exact decide_eq_true (by omega)
     ·show decide (dI ω bu1≤1000000)=true
      rw[d8];exact decide_eq_true (by omega)
     ·show decide (dI ω (.op .iadd [aG0,bu1])≤((dL ω bO6).length:Int))=true
      rw[i10,l9];exact decide_eq_true (K3 _)
     ·show decide (dI ω aG0≤((dL ω cR6).length:Int))=true
      rw[i6,hZ,j5,htl];exact decide_eq_true (by omega)
     ·show decide (((den ω b85).toL.length:Int)≤100)=true
      rw[l11,Q4,hfl];exact decide_eq_true (by omega)
     ·show(ω.f 631 [den ω b85]).toB=true
      rw[hf,l11]
      exact and2 rfl (cP2 ha fun v hv=>(s9.1 hv).1)
     ·show decide (dI ω aG0=((den ω c96).toL.length:Int))=true
      rw[i6,d12,Q4,am5,hfl];exact decide_eq_true rfl
     ·show some (0,[den ω c96])=_
      rw[d12]
theorem t_sstab{ω:Opq}(hf: ∀i a,ω.f i a=F i a)(hn:(ω.w 5).toL.length≤100)(ho:(isL (ω.w 5)&&(ω.w 5).toL.all okK)=true):O8 T_sstab ω=some (0,[F 625 [ω.w 0,ω.w 1,ω.w 2,ω.w 3,ω.w 4,ω.w 5,.vi 0,.vi (ω.w 5).toL.length]]):=by
 obtain⟨hl,ha⟩:=O4 ho
 have e5:ω.w 5= .vl (ω.w 5).toL:=isL_at hl
 unfold T_sstab
 refine need_ok ?_ ?_
 ·show(ω.f 628 [ω.w 5,.vi (ω.w 5).toL.length,.vi (ω.w 5).toL.length]).toB=true
  have:=cP4 ha rfl hn
  rw[←e5]at this
  rw[hf];exact this
 ·show some (0,[ω.f 625 [ω.w 0,ω.w 1,ω.w 2,ω.w 3,ω.w 4,ω.w 5,.vi 0,.vi (ω.w 5).toL.length]])=_
  rw[hf]
theorem ce9(g:Val→List Val)(l:List Val):a10 (fun i=>g (atV l i)) l.length=l.flatMap g:=by
  rw[af2,show(fun i=>g (atV l i))=fun i=>g (l.getD i (.vl []))from rfl,ap2 g (.vl []) l]
theorem ct2(f:List Val)(r:Val):(hadG f r).length≤1:=by unfold hadG;cases hasR f r<;>simp
theorem ah1(r:Val):Val.vl [P3 r 0,P3 r 1,P3 r 2,P3 r 3,P3 r 4,P3 r 5,P3 r 6]=Q8 r:=rfl
theorem t_had{ω:Opq}(hf: ∀i a,ω.f i a=F i a)(hn:(ω.w 5).toL.length≤400):O8 T_had ω=some (0,[F 680 [ω.w 0,ω.w 1,ω.w 2,ω.w 3,ω.w 4,ω.w 5]]):=by
 have hg: ∀i,(a10 (fun i=>hadG (fil ω) (atV (ω.w 5).toL i)) i).length≤i:=fun i=>by simpa using b86 (g:=fun i=>hadG (fil ω) (atV (ω.w 5).toL i)) (m:=1) (fun _=>ct2 _ _) i
 have hr:=ce9 (hadG (fil ω)) (ω.w 5).toL
 have e0:den ω c97=T1 (0,[.vi ((ω.w 5).toL.flatMap (hadG (fil ω))).length,.vi (ω.w 5).toL.length,.vl ((ω.w 5).toL.flatMap (hadG (fil ω)))]):=by
  show ω.f 681 [.vi 0,.vi 0,.vl [],.vi 0,.vi (ω.w 5).toL.length,ω.w 5,ω.w 0,ω.w 1,ω.w 2,ω.w 3,ω.w 4]=_
  rw[hf];rfl
 have e1:den ω c98= .vl ((ω.w 5).toL.flatMap (hadG (fil ω))):=by show S4 (den ω c97).toL 1 2=_;rw[e0];rfl
 unfold T_had
 refine P5 (r:=(0,[.vi ((ω.w 5).toL.flatMap (hadG (fil ω))).length,.vi (ω.w 5).toL.length,.vl ((ω.w 5).toL.flatMap (hadG (fil ω)))])) ?_ e0 (need_ok ?_ ?_)
 ·show Q9 _ [.vi 0,.vi 0,.vl []]=_
  refine aA8 (fun i acc=>[.vi acc.length,.vi i,.vl acc]) (a0:=[]) (g:=fun i=>hadG (fil ω) (atV (ω.w 5).toL i)) (n:=(ω.w 5).toL.length) rfl (fun i hi=> ?_) ?_
  ·have:=hg i
   have p1:(i:Int)<((ω.w 5).toL.length:Int):=by omega
   have p2:(0:Int)≤(i:Int):=by omega
   have hb:((a10 (fun i=>hadG (fil ω) (atV (ω.w 5).toL i)) i).length:Int)+1≤1000000:=by omega
   rw[List.nil_append]
   generalize a10 (fun i=>hadG (fil ω) (atV (ω.w 5).toL i)) i=acc at this hb
   have hb':((acc++[Q8 (atV (ω.w 5).toL i)]).length:Int)≤1000000:=by rw[j5];exact hb
   unfold d95
   simp only[O8,P2,den,dB,W0,R9,cs9,ct0,cN9,w0,w1,w2,w3,w4,w5,if_true,if_false,show 2000-2000=0 from rfl,show 2001-2000=1 from rfl,show 2002-2000=2 from rfl,m6,o7,O9,S0,Q4,Q0,R1,U7,p1,p2,decide_true,W2,W3,W4,Z6,Z7,Z8,Z9,ai5,hf,cN8,bb1,ah1,hb',G4,d52 (show i≤1000000 by omega)]
   unfold hadG
   cases hasR (fil ω) (atV (ω.w 5).toL i)<;>simp
  ·rw[hr]
   show O8 d95 (ω.upd 2000 [.vi _,.vi _,.vl _])=_
   unfold d95
   simp[O8,P2,den,dB,W0,R9]
 ·show decide ((S4 (den ω c97).toL 1 0).toI=((den ω c98).toL.length:Int))=true
  rw[e1,e0];exact decide_eq_true rfl
 ·show some (0,[den ω c98])=_
  rw[e1];rfl
end Go.Ev.S8
namespace Go.Ev.S8
open Go Go.Ev
theorem t_sameC{ω:Opq}(hf: ∀i a,ω.f i a=F i a)(hn:(ω.w 0).toL.length≤1000000):O8 T_sameC ω=some (0,[F 201 [ω.w 0,ω.w 1]]):=by
 unfold T_sameC dj4
 simp only[O8,a30,P2,den,dB,W0,List.cons_append,List.nil_append]
 by_cases hl:(ω.w 0).toL.length=(ω.w 1).toL.length
 ·have hl':((ω.w 0).toL.length:Int)=(ω.w 1).toL.length:=by rw[hl]
  rw[am1 (bad:=fun i=> !decide (b17 (atV (ω.w 0).toL i)=b17 (atV (ω.w 1).toL i))) (px:=fun k=>[.vb false,.vi k]) (n:=(ω.w 0).toL.length)]
  ·simp only[hf,F,aA5,aA6,ap6 b17 _ _ hl,aA7 b17 _ _ hl,hl']
   by_cases h:(ω.w 0).toL.map b17=(ω.w 1).toL.map b17<;>simp[a30,O8,h,den,P2,W0,T1,S4,hf,F,aA5,aA6,hl',eqB,ap6 b17 _ _ hl,bv3]
  ·intro i hi hb
   have hi':i<(ω.w 1).toL.length:=by omega
   simp only[K4,decide_eq_true_eq,aJ8]at hb
   simp[hi,hi',R9,a26 (show i≤10000000 by omega),W2,W3,W4,Z6,Z7,Z8,Z9,ai1,hb]
  ·intro i hi hb
   have hi':i<(ω.w 1).toL.length:=by omega
   simp only[n9,decide_eq_false_iff_not,aJ8]at hb
   simp[hi,hi',R9,W2,W3,W4,Z6,Z7,Z8,Z9,ai1]
   simpa using hb
  ·simp[R9]
 ·have hl': ¬((ω.w 0).toL.length:Int)=(ω.w 1).toL.length:=by omega
  simp[hl',F,aA5,aA6,bv3,eqB,cc0 _ hl,P2,den]
theorem t_sameR{ω:Opq}(hf: ∀i a,ω.f i a=F i a)(hn:(ω.w 0).toL.length≤1000000):O8 T_sameR ω=some (0,[F 3 [ω.w 0,ω.w 1]]):=by
 unfold T_sameR dj2
 simp only[O8,a30,P2,den,dB,W0,List.cons_append,List.nil_append]
 by_cases hl:(ω.w 0).toL.length=(ω.w 1).toL.length
 ·have hl':((ω.w 0).toL.length:Int)=(ω.w 1).toL.length:=by rw[hl]
  rw[am1 (bad:=fun i=> !decide (bm4 (atV (ω.w 0).toL i)=bm4 (atV (ω.w 1).toL i))) (px:=fun k=>[.vb false,.vi k]) (n:=(ω.w 0).toL.length)]
  ·simp only[hf,F,aA5,aA6,ap6 bm4 _ _ hl,aA7 bm4 _ _ hl,hl']
   by_cases h:(ω.w 0).toL.map bm4=(ω.w 1).toL.map bm4<;>simp[a30,O8,h,den,P2,W0,T1,S4,hf,F,aA5,aA6,hl',eqB,ap6 bm4 _ _ hl,c99]
  ·intro i hi hb
   have hi':i<(ω.w 1).toL.length:=by omega
   simp only[K4,decide_eq_true_eq,b98]at hb
   simp[hi,hi',R9,a26 (show i≤10000000 by omega),W2,W3,W4,Z6,Z7,Z8,Z9,ai1,hb]
  ·intro i hi hb
   have hi':i<(ω.w 1).toL.length:=by omega
   simp only[n9,decide_eq_false_iff_not,b98]at hb
   simp[hi,hi',R9,W2,W3,W4,Z6,Z7,Z8,Z9,ai1]
   simpa using hb
  ·simp[R9]
 ·have hl': ¬((ω.w 0).toL.length:Int)=(ω.w 1).toL.length:=by omega
  simp[hl',F,aA5,aA6,c99,eqB,cc0 _ hl,P2,den]
end Go.Ev.S8
namespace Go.Ev
open Go
def NK(l:List Val):Prop:= ∀r∈l,S7.okK r=true
theorem aE2{r:Val}(h:S7.okK r=true):Q8 r=r:=S7.okK_at h
theorem cP5{r s:Val}(hr:S7.okK r=true)(hs:S7.okK s=true)(h:bm4 r=bm4 s):r=s:=by
 unfold S7.okK at hr hs
 split at hr
 ·split at hs
  ·rename_i a1 a2 a3 a4 a5 a6 a7 _ b1 b2 b3 b4 b5 b6 b7
   have h:RowM.mk a1 a2 a3 a4 a5 a6 a7=RowM.mk b1 b2 b3 b4 b5 b6 b7:=h
   cases h;rfl
  ·cases hs
 ·cases hr
theorem aK1{l:List Val}{i:Nat}(h:i<l.length):atV l i∈l:=S7.atV_mem h
theorem cz6{l:List Val}(h:ND l): ∀i,i<l.length→aX8 l i=false:=by
 intro i hi
 rw[←m8,ba9]
 rintro⟨k,hk,e⟩
 unfold ND at h
 rw[List.Nodup,I0]at h
 have:=h k i (by rw[r5];omega) (by rw[r5];exact hi) hk
 have e1:atV l k=l[k]'(by omega):=by simp[atV,i3,show k<l.length by omega]
 have e2:atV l i=l[i]:=by simp[atV,i3,hi]
 rw[e1,e2]at e
 simp only[List.getElem_map]at this
 exact this e
theorem X3{l:List Val}:P4 l=true↔(∀r∈l,okV r=true)∧ND l:=by
 constructor
 ·intro h
  refine⟨fun r hr=> ?_,am9 h⟩
  unfold P4 at h
  rw[n9,A8]at h
  obtain⟨k,hk,rfl⟩:=S7.mem_atV hr
  have:=h k (r7.2 hk)
  rw[m8,bm5,N5]at this
  simpa using this.1
 ·rintro⟨h1,h2⟩
  unfold P4
  rw[n9,A8]
  intro i hi
  rw[r7]at hi
  rw[m8,bm5,h1 _ (aK1 hi),cz6 h2 i hi];rfl
theorem ct3{l:List Val}(h1: ∀c∈l,okC c=true)(h2:ND l):am8 l=true:=by
 unfold am8
 rw[n9,A8]
 intro i hi
 rw[r7]at hi
 rw[m8,cS0,h1 _ (aK1 hi),cz6 h2 i hi];rfl
theorem ct4{rows l:List Val}(h0:P4 rows=true)(h1: ∀c∈l,okC c=true)(h2:ND l)(h3: ∀c∈l,a24 c=true→hasV rows (P1 c)=true):a69 rows l=true:=by
 unfold a69
 refine dk0 h0 (ct3 h1 h2) ?_
 rw[n9,A8]
 intro i hi
 rw[r7]at hi
 rw[m8]
 unfold bQ3
 cases hd:a24 (atV l i)with
 |false=>rfl
 |true=>rw[h3 _ (aK1 hi) hd];rfl
theorem bb5{l:List Val}{p:PaneM}:hasV l p=true↔ ∃r∈l,P1 r=p:=by
 rw[ba3,y5]
 simp only[decide_eq_true_eq]
theorem cz7{l:List Val}{p:PaneM}(h:hasV l p=true):atV l (Y7 l p)∈l∧P1 (atV l (Y7 l p))=p:=by
 have hl:Y7 l p<l.length:=of_decide_eq_true h
 refine⟨aK1 hl,?_⟩
 have:=List.findIdx_getElem (w:=hl)
 have e:atV l (Y7 l p)=l[Y7 l p]:=by simp[atV,i3,hl]
 rw[e]
 exact of_decide_eq_true this
theorem cf0{r s:Val}(hp:P1 r=P1 s):b96 r s=true↔bm4 r=bm4 s:=by
 unfold b96
 rw[decide_eq_true_eq,b98]
 rw[cc1]at hp
 exact⟨fun h=>⟨hp,h⟩,fun h=>h.2⟩
theorem af7{a b:List Val}(ka:NK a)(kb:NK b)(na:ND a){c:Val}:c∈Y4 a b↔(∃r∈a,(∀s∈b,¬P1 s=P1 r)∧c=aU8 r)∨(∃r∈b,¬r∈a∧c=bG8 r):=by
 unfold Y4
 rw[A0,y6,y6]
 refine or_congr ?_ ?_
 ·refine exists_congr fun r=>and_congr_right fun hr=> ?_
  unfold ac7
  cases h:hasV b (P1 r)with
  |true=>
   obtain⟨s,hs,e⟩:=bb5.1 h
   simp only[cond_true,J6,false_iff,not_and]
   exact fun h2=>absurd e (h2 s hs)
  |false=>
   have: ∀s∈b,¬P1 s=P1 r:=fun s hs e=>by rw[bb5.2 ⟨s,hs,e⟩]at h;cases h
   simp only[cond_false,x7]
   exact⟨fun e=>⟨this,e⟩,fun e=>e.2⟩
 ·refine exists_congr fun r=>and_congr_right fun hr=> ?_
  have key:(hasV a (P1 r)&&b96 (atV a (Y7 a (P1 r))) r)=true↔r∈a:=by
   constructor
   ·intro h
    obtain⟨h1,h2⟩:=O4 h
    obtain⟨m1,m2⟩:=cz7 h1
    rw[←cP5 (ka _ m1) (kb r hr) ((cf0 m2).1 h2)]
    exact m1
   ·intro h
    have h1:=bb5.2 ⟨r,h,rfl⟩
    obtain⟨m1,m2⟩:=cz7 h1
    rw[h1,af3 na m1 h m2]
    exact(cf0 rfl).2 rfl
  unfold aX9
  cases h:(hasV a (P1 r)&&b96 (atV a (Y7 a (P1 r))) r)with
  |true=>
   rw[h]at key
   have:=key.1 rfl
   simp only[cond_true,J6,false_iff,not_and]
   exact fun h2=>absurd this h2
  |false=>
   rw[h]at key
   have: ¬r∈a:=fun h2=>by have:=key.2 h2;cases this
   simp only[cond_false,x7]
   exact⟨fun e=>⟨this,e⟩,fun e=>e.2⟩
theorem bI7(r:Val):P1 (bG8 r)=P1 r:=rfl
theorem cf1(r:Val):a24 (aU8 r)=true:=rfl
theorem ct5(r:Val):a24 (bG8 r)=false:=rfl
theorem bb6(r:Val):aG2 (bG8 r)=Q8 r:=rfl
theorem ct6(r:Val):okC (aU8 r)=true:=rfl
theorem cP6{r:Val}(h:S7.okK r=true)(h2:okV r=true):okC (bG8 r)=true:=by
 show okV (aG2 (bG8 r))=true
 rw[bb6,aE2 h];exact h2
theorem cf2{r:Val}(h:S7.okK r=true):S7.okK8 (aU8 r)=true:=by
 unfold S7.okK at h
 split at h
 ·rfl
 ·cases h
theorem ct7{r:Val}(h:S7.okK r=true):S7.okK8 (bG8 r)=true:=by
 unfold S7.okK at h
 split at h
 ·rfl
 ·cases h
theorem cf3{a b:List Val}(ka:NK a)(kb:NK b)(na:ND a): ∀c∈Y4 a b,S7.okK8 c=true:=by
 intro c hc
 rcases(af7 ka kb na).1 hc with⟨r,hr,_,rfl⟩|⟨r,hr,_,rfl⟩
 ·exact cf2 (ka r hr)
 ·exact ct7 (kb r hr)
theorem ac3{l:List Val}(hn: ∀x∈l,Z5 x=x):(a09 l).Perm l:=by
 have:=aD9 l
 rwa[C1 hn,List.map_id']at this
theorem ct8{l m:List Val}(h:l.Perm m)(hn: ∀x∈l,Z5 x=x)(hd:ND l):a09 l=a09 m:=by
 have hm: ∀x∈m,Z5 x=x:=fun x hx=>hn x (h.mem_iff.2 hx)
 have p1:=ac3 hn
 have p2:=ac3 hm
 refine List.Perm.eq_of_pairwise (le:=fun a b=>aH0 b a=false) (fun a b ha hb h1 h2=> ?_) (am4 l) (am4 m) (p1.trans (h.trans p2.symm))
 exact af3 hd (p1.mem_iff.1 ha) (h.mem_iff.2 (p2.mem_iff.1 hb)) (az8 h2 h1)
theorem bI8{l:List Val}(h:ND l):l.Nodup:=(List.pairwise_map.1 h).imp fun h e=>h (congrArg P1 e)
theorem cf4{l m:List Val}(hl:ND l)(hm:ND m)(h: ∀x,x∈l↔x∈m):l.Perm m:=(N6 (bI8 hl) (bI8 hm)).2 h
theorem aV8{l m:List Val}(h:l.Perm m)(k:NK m):NK l:=fun r hr=>k r (h.mem_iff.1 hr)
theorem aV9{l m:List Val}(h:l.Perm m)(k:P4 m=true):P4 l=true:=by
 rw[X3]at*
 exact⟨fun r hr=>k.1 r (h.mem_iff.1 hr),ah5 h k.2⟩
theorem bP7{a a' b b':List Val}(ha:a'.Perm a)(hb:b'.Perm b)(ka:NK a)(kb:NK b)(oa:P4 a=true)(ob:P4 b=true):a09 (Y4 a' b')=a09 (Y4 a b):=by
 have na:=(X3.1 oa).2
 refine ct8 (cf4 (ac2 (aV9 ha oa) (aV9 hb ob)) (ac2 oa ob) fun c=> ?_) (a43 _ _) (ac2 (aV9 ha oa) (aV9 hb ob))
 rw[af7 (aV8 ha ka) (aV8 hb kb) (ah5 ha na),af7 ka kb na]
 simp only[ha.mem_iff,hb.mem_iff]
theorem bP8{b b':List Val}(hb:b'.Perm b)(kb:NK b)(ob:P4 b=true):Y4 b b'=[]:=by
 rw[O2]
 intro c hc
 rcases(af7 kb (aV8 hb kb) (X3.1 ob).2).1 hc with⟨r,hr,h,_⟩|⟨r,hr,h,_⟩
 ·exact h r (hb.mem_iff.2 hr) rfl
 ·exact h (hb.mem_iff.1 hr)
theorem bm1{l:List Val}{r:Val}:a71 l r=true↔ ∃c∈l,P1 c=P1 r:=by
 unfold a71
 rw[y5]
 simp only[decide_eq_true_eq]
theorem bP9{rows l:List Val}{x:Val}:x∈af5 rows l↔(∃r∈rows,(∀c∈l,¬P1 c=P1 r)∧x=Q8 r)∨(∃c∈l,a24 c=false∧x=aG2 c):=by
 unfold af5
 rw[A0,y6,y6]
 refine or_congr ?_ ?_
 ·refine exists_congr fun r=>and_congr_right fun hr=> ?_
  unfold bv4
  cases h:a71 l r with
  |true=>
   obtain⟨c,hc,e⟩:=bm1.1 h
   simp only[cond_true,J6,false_iff,not_and]
   exact fun h2=>absurd e (h2 c hc)
  |false=>
   have: ∀c∈l,¬P1 c=P1 r:=fun c hc e=>by rw[bm1.2 ⟨c,hc,e⟩]at h;cases h
   simp only[cond_false,x7]
   exact⟨fun e=>⟨this,e⟩,fun e=>e.2⟩
 ·refine exists_congr fun c=>and_congr_right fun hc=> ?_
  unfold bG9
  cases h:a24 c with
  |true=>simp
  |false=>simp
theorem cf5{rows l:List Val}(h0:ND rows)(h1:ND l):ND (af5 rows l):=by
 refine ah5 (ce1 h0 h1).symm (bb0 l ?_ l.length)
 unfold ND at h0⊢
 rw[B6];exact h0
theorem d55{a b a' L:List Val}(Q:PaneM→Bool)(ka:NK a)(kb:NK b)(oa:P4 a=true)(ob:P4 b=true)
 (pa:a'.Perm (a.filter fun r=>Q (P1 r))) (pL:L.Perm ((Y4 a b).filter fun c=>Q (P1 c))):
 a69 a' L=true∧(af5 a' L).Perm (b.filter fun r=>Q (P1 r)):=by
 obtain⟨va,na⟩:=X3.1 oa
 obtain⟨vb,nb⟩:=X3.1 ob
 have fa:ND (a.filter fun r=>Q (P1 r)):=na.sublist (E5.map _)
 have fb:ND (b.filter fun r=>Q (P1 r)):=nb.sublist (E5.map _)
 have na':=ah5 pa fa
 have nL:ND L:=ah5 pL ((ac2 oa ob).sublist (E5.map _))
 have ma: ∀r,r∈a'↔r∈a∧Q (P1 r)=true:=fun r=>by rw[pa.mem_iff,s9]
 have mL: ∀c,c∈L↔((∃r∈a,(∀s∈b,¬P1 s=P1 r)∧c=aU8 r)∨(∃r∈b,¬r∈a∧c=bG8 r))∧Q (P1 c)=true:=fun c=>by
  rw[pL.mem_iff,s9,af7 ka kb na]
 constructor
 ·refine ct4 (X3.2 ⟨fun r hr=>va r ((ma r).1 hr).1,na'⟩) (fun c hc=> ?_) nL (fun c hc hd=> ?_)
  ·rcases((mL c).1 hc).1 with⟨r,hr,_,rfl⟩|⟨r,hr,_,rfl⟩
   ·exact ct6 r
   ·exact cP6 (kb r hr) (vb r hr)
  ·obtain⟨h,hq⟩:=(mL c).1 hc
   rcases h with⟨r,hr,_,rfl⟩|⟨r,hr,_,rfl⟩
   ·exact bb5.2 ⟨r,(ma r).2 ⟨hr,hq⟩,rfl⟩
   ·rw[ct5]at hd;cases hd
 ·refine cf4 (cf5 na' nL) fb fun x=> ?_
  rw[bP9,s9]
  constructor
  ·rintro(⟨r,hr,hc,rfl⟩|⟨c,hc,hd,rfl⟩)
   ·obtain⟨hr,hq⟩:=(ma r).1 hr
    rw[aE2 (ka r hr)]
    refine⟨?_,hq⟩
    rcases Classical.em (∃s∈b,P1 s=P1 r)with⟨s,hs,e⟩|h
    ·rcases Classical.em (s∈a)with h|h
     ·rw[←af3 na h hr e];exact hs
     ·exact absurd (by rw[bI7];exact e) (hc (bG8 s) ((mL _).2 ⟨.inr ⟨s,hs,h,rfl⟩,by rw[bI7,e];exact hq⟩))
    ·exact absurd rfl (hc (aU8 r) ((mL _).2 ⟨.inl ⟨r,hr,fun s hs e=>h ⟨s,hs,e⟩,rfl⟩,hq⟩))
   ·obtain⟨h,hq⟩:=(mL c).1 hc
    rcases h with⟨r,hr,_,rfl⟩|⟨r,hr,_,rfl⟩
    ·rw[cf1]at hd;cases hd
    ·rw[bb6,aE2 (kb r hr)]
     exact⟨hr,hq⟩
  ·rintro⟨hx,hq⟩
   rcases Classical.em (x∈a)with h|h
   ·refine .inl ⟨x,(ma x).2 ⟨h,hq⟩,fun c hc e=> ?_,(aE2 (ka x h)).symm⟩
    rcases((mL c).1 hc).1 with⟨r,hr,h2,rfl⟩|⟨r,hr,h2,rfl⟩
    ·exact h2 x hx e.symm
    ·rw[af3 nb hr hx e]at h2;exact h2 h
   ·exact .inr ⟨bG8 x,(mL _).2 ⟨.inr ⟨x,hx,h,rfl⟩,hq⟩,rfl,by rw[bb6,aE2 (kb x hx)]⟩
theorem aW0(l:List Val):(l.filter fun r=>(fun _:PaneM=>true) (P1 r))=l:=by simp
end Go.Ev
namespace Go.Ev
open Go
section
variable{ω:Opq}
theorem leT{e:SX}{n:Int}{l:List Val}(h:den ω e= .vl l)(h2:(l.length:Int)≤n):dB ω (.op (.cmp .leq) [zL e,.ci n])=true:=by
 show decide (((den ω e).toL.length:Int)≤n)=true
 rw[h];exact decide_eq_true h2
theorem leF{e:SX}{n:Int}{l:List Val}(h:den ω e= .vl l)(h2: ¬(l.length:Int)≤n):dB ω (.op (.cmp .leq) [zL e,.ci n])=false:=by
 show decide (((den ω e).toL.length:Int)≤n)=false
 rw[h];exact decide_eq_false h2
theorem neF{e:SX}(h:den ω e= .vi 0):dB ω (.op (.cmp .neq) [e,.ci 0])=false:=by
 show(!decide ((den ω e).toI=0))=false
 rw[h];rfl
theorem cS1{e:SX}(h:den ω e= .vb true):dB ω (.op .not [e])=false:=by
 show(!(den ω e).toB)=false
 rw[h];rfl
theorem d98{e:SX}(h:den ω e= .vb false):dB ω (.op .not [e])=true:=by
 show(!(den ω e).toB)=true
 rw[h];rfl
theorem bx1{x y:SX}(h1:dB ω x=true)(h2:dB ω y=true):dB ω (zn x y)=true:=S8.and2 h1 h2
theorem bQ0{e:SX}(h:den ω e= .vb true):dB ω e=true:=by
 show(den ω e).toB=true
 rw[h];rfl
end
theorem d56{ω:Opq}(hf: ∀i a,ω.f i a=F i a)(hn:dB ω (zn (.op (.cmp .eql) [.va 0,zl 1]) (zn (zn (zb (zl 1) 400) (.app 431 [.va 1])) (.app 491 [.va 1])))=true):
 dI ω (.va 0)=((dL ω (.va 1)).length:Int)∧ ∀D:List Val,D.Perm (ω.w 1).toL→ω.f 490 [.vl D]=ω.f 490 [ω.w 1]∧dB (ω.upd 1 [.vl D]) (zn (zb (zl 1) 400) (.app 431 [.va 1]))=true:=by
 have hn:(decide ((ω.w 0).toI=((ω.w 1).toL.length:Int))&&((decide (((ω.w 1).toL.length:Int)≤400)&&(ω.f 431 [ω.w 1]).toB)&&(ω.f 491 [ω.w 1]).toB))=true:=hn
 obtain⟨h1,h2⟩:=O4 hn
 obtain⟨h2,h3⟩:=O4 h2
 obtain⟨h4,h5⟩:=O4 h2
 rw[hf]at h3 h5
 refine⟨of_decide_eq_true h1,fun D hD=> ?_⟩
 have nd:ND (ω.w 1).toL:=of_decide_eq_true (p:=((ω.w 1).toL.map P1).Nodup) h3
 refine⟨?_,?_⟩
 ·rw[hf,hf]
  show Val.vl (S7.srt none D)= .vl (S7.srt none (ω.w 1).toL)
  rw[bI5 hD (ah5 hD nd)]
 ·show(decide ((D.length:Int)≤400)&&(ω.f 431 [.vl D]).toB)=true
  rw[hf]
  have h4:=of_decide_eq_true h4
  have:=hD.length_eq
  refine and2 (decide_eq_true (by omega)) (and2 rfl ?_)
  have hall:=j6.1 (S7.f431 h5).2
  exact j6.2 fun x hx=>hall x (hD.mem_iff.1 hx)
theorem cf6(a:List Val):a69 a []=P4 a:=by
 unfold a69
 cases P4 a<;>rfl
theorem dk1(a:List Val):F 220 [.vl a,.vl []]= .vb (P4 a):=congrArg Val.vb (cf6 a)
theorem d57{a b:List Val}(oa:P4 a=true)(ob:P4 b=true):F 208 [.vl a,.vl b]= .vl (a09 (Y4 a b)):=by
 show Val.vl (bif P4 a&&P4 b then a09 (Y4 a b)else [])=_
 rw[oa,ob];rfl
theorem d58{a b:List Val}(oa:P4 a=true)(ob:P4 b=true):F 209 [.vl a,.vl b]= .vi 0:=by
 show Val.vi (bif P4 a&&P4 b then 0 else 2)=_
 rw[oa,ob];rfl
theorem d59{a b:List Val}(h:(P4 a&&P4 b)=false):F 209 [.vl a,.vl b]= .vi 2:=by
 show Val.vi (bif P4 a&&P4 b then 0 else 2)=_
 rw[h];rfl
theorem dh2{a b:List Val}(h:(P4 a&&P4 b)=false):F 208 [.vl a,.vl b]= .vl []:=by
 show Val.vl (bif P4 a&&P4 b then a09 (Y4 a b)else [])=_
 rw[h];rfl
theorem d99{a l:List Val}(h:a69 a l=true):F 222 [.vl a,.vl l]= .vl (S7.srt none (af5 a l)):=by
 show Val.vl (bif a69 a l then S7.srt none (af5 a l)else [])=_
 rw[h];rfl
theorem da0{a l:List Val}(h:a69 a l=true):F 232 [.vl a,.vl l]= .vi 0:=by
 show Val.vi (bif a69 a l then 0 else 2)=_
 rw[h];rfl
theorem dk2(a:List Val):F 490 [.vl a]= .vl (S7.srt none a):=rfl
theorem v3(a:List Val):F 3 [.vl a,.vl a]= .vb true:=congrArg Val.vb (bF1 (c99 (.vl a)))
theorem dm5(a:List Val):F 201 [.vl a,.vl a]= .vb true:=congrArg Val.vb (bF1 (bv3 (.vl a)))
theorem d60{a:List Val}(h:NK a):F 431 [.vl a]= .vb true:=by
 show Val.vb (true&&a.all S7.okK)=_
 rw[j6.2 h];rfl
theorem da1{a:List Val}(h: ∀c∈a,S7.okK8 c=true):F 433 [.vl a]= .vb true:=by
 show Val.vb (true&&a.all S7.okK8)=_
 rw[j6.2 h];rfl
theorem dm6{a:List Val}(h: ∀c∈a,S8.okK c=true):F 631 [.vl a]= .vb true:=by
 show Val.vb (true&&a.all S8.okK)=_
 rw[j6.2 h];rfl
noncomputable def cS2(x y z u v:Val)(p:PaneM):Bool:=S8.hasV x.toI y.toS z.toS u.toI v.toI p.key p.b
theorem b21(f:List Val): ∀a:List Val,NK a→a.flatMap (S8.hadG f)=a.filter (S8.hasR f)
 | [],_=>rfl
 |r::a,h=>by
  rw[A4,b21 f a fun s hs=>h s (D5 _ hs),z8]
  unfold S8.hadG
  cases S8.hasR f r with
  |true=>rw[if_pos rfl,aE2 (h r C6)];rfl
  |false=>rfl
theorem dk3{a:List Val}(x y z u v:Val)(h:NK a):F 680 [x,y,z,u,v,.vl a]= .vl (a.filter fun r=>cS2 x y z u v (P1 r)):=
 congrArg Val.vl (b21 [x,y,z,u,v,.vl a] a h)
theorem dm7(x y z u v:Val)(l:List Val): ∃s,F 630 [x,y,z,u,v,.vl l]= .vl (S7.srt s (l.filter fun r=>cS2 x y z u v (P1 r))):=⟨_,rfl⟩
theorem ct9(r:Val):S8.pk (aU8 r)=S8.pk r:=rfl
theorem cP7(r:Val):S8.pk (bG8 r)=S8.pk r:=rfl
theorem d61{c:Val}(h:S7.okK8 c=true)(h2:(S8.pk c).length≤1000):S8.okK c=true:=S8.and2 h (decide_eq_true h2)
theorem d62{a:List Val}(h:(F 1 [.vl a]).toB=true): ∀r∈a,(S8.pk r).length≤1000:=by
 have h:(!a.any cJ8)=true:=h
 rw[n9,A8]at h
 intro r hr
 have:=h r hr
 rw[m8]at this
 have:=of_decide_eq_false this
 show(P3 r 0).toS.length≤1000
 omega
theorem aE3{a b:List Val}(h0:a.length≤30)(h1:b.length≤30)(oa:P4 a=true)(ob:P4 b=true):(a09 (Y4 a b)).length≤60:=by
 rw[(ac3 (a43 a b)).length_eq]
 have:=bl5 a b
 omega
theorem cf7{a b:List Val}(ka:NK a)(kb:NK b)(oa:P4 a=true): ∀c∈a09 (Y4 a b),S7.okK8 c=true:=fun c hc=>cf3 ka kb (X3.1 oa).2 c ((ac3 (a43 a b)).mem_iff.1 hc)
theorem dh3{a b a':List Val}(ka:NK a)(kb:NK b)(oa:P4 a=true)(ob:P4 b=true)(pa:a'.Perm a):
 a69 a' (a09 (Y4 a b))=true∧S7.srt none (af5 a' (a09 (Y4 a b)))=S7.srt none b:=by
 obtain⟨h1,h2⟩:=d55 (fun _=>true) ka kb oa ob (a':=a') (L:=a09 (Y4 a b)) (by rw[aW0];exact pa) (by rw[aW0];exact ac3 (a43 a b))
 rw[aW0]at h2
 exact⟨h1,bI5 h2 (ah5 h2 (X3.1 ob).2)⟩
theorem cu0(s:Option Bool)(l:List Val):(S7.srt s l).Perm l:=S7.srt_perm s l
set_option maxHeartbeats 1000000 in
theorem bm2{ω:Opq}(hf: ∀i a,ω.f i a=F i a)(k0:(F 431 [ω.w 0]).toB=true)(k1:(F 431 [ω.w 1]).toB=true)(k2:(F 431 [ω.w 2]).toB=true):O8 S8.T_deltaMakes ω=some (0,[.vb true]):=by
 obtain⟨e0,ka⟩:=S7.f431 k0
 obtain⟨e1,kb⟩:=S7.f431 k1
 obtain⟨e2,kc⟩:=S7.f431 k2
 generalize (ω.w 0).toL=a at e0 ka
 generalize (ω.w 1).toL=b at e1 kb
 generalize (ω.w 2).toL=c at e2 kc
 replace ka:NK a:=j6.1 ka
 replace kb:NK b:=j6.1 kb
 replace kc:NK c:=j6.1 kc
 have A:den ω (.va 0)= .vl a:=e0
 have B:den ω (.va 1)= .vl b:=e1
 have C:den ω (.va 2)= .vl c:=e2
 unfold S8.T_deltaMakes
 rcases i4 30 a.length with g0|g0
 ·exact S8.ite_f (leF A (by omega)) rfl
 refine S8.ite_t (leT A (by omega)) (S8.need_ok (leT A (by omega)) ?_)
 have q0: ∃x,den ω (.app 1 [.va 0])= .vb x∧(F 1 [.vl a]).toB=x:=⟨_,by show ω.f 1 [ω.w 0]=_;rw[hf,e0];rfl,rfl⟩
 obtain⟨x0,q0,q0'⟩:=q0
 cases x0 with
 |false=>exact S8.ite_t (d98 q0) rfl
 |true=>
 refine S8.ite_f (cS1 q0) ?_
 rcases i4 30 b.length with g1|g1
 ·exact S8.ite_f (leF B (by omega)) rfl
 refine S8.ite_t (leT B (by omega)) (S8.need_ok (leT B (by omega)) ?_)
 have q1: ∃x,den ω (.app 1 [.va 1])= .vb x∧(F 1 [.vl b]).toB=x:=⟨_,by show ω.f 1 [ω.w 1]=_;rw[hf,e1];rfl,rfl⟩
 obtain⟨x1,q1,q1'⟩:=q1
 cases x1 with
 |false=>exact S8.ite_t (d98 q1) rfl
 |true=>
 refine S8.ite_f (cS1 q1) ?_
 rcases i4 30 c.length with g2|g2
 ·exact S8.ite_f (leF C (by omega)) rfl
 refine S8.ite_t (leT C (by omega)) (S8.need_ok (leT C (by omega)) ?_)
 have q2: ∃x,den ω (.app 1 [.va 2])= .vb x:=⟨_,by show ω.f 1 [ω.w 2]=_;rw[hf,e2];rfl⟩
 obtain⟨x2,q2⟩:=q2
 cases x2 with
 |false=>exact S8.ite_t (d98 q2) rfl
 |true=>
 refine S8.ite_f (cS1 q2) ?_
 cases q4:dB ω (zb (.op .slen [.va 4]) 60)with
 |false=>exact S8.ite_f q4 rfl
 |true=>
 refine S8.ite_t q4 ?_
 cases q5:dB ω (.op .not [zb (.op .slen [.va 5]) 60])with
 |true=>exact S8.ite_t q5 rfl
 |false=>
 refine S8.ite_f q5 (S8.need_ok (bx1 (leT A (by omega)) (leT B (by omega))) (S8.need_ok (leT (l:=[]) rfl (by decide)) ?_))
 have h0:den ω S8.deltaMakes_0= .vb (P4 a):=by show ω.f 220 [ω.w 0,.vl []]=_;rw[hf,e0,dk1]
 have h2:den ω S8.deltaMakes_2= .vb (P4 b):=by show ω.f 220 [ω.w 1,.vl []]=_;rw[hf,e1,dk1]
 have h208:den ω (.app 208 [.va 0,.va 1])=F 208 [.vl a,.vl b]:=by show ω.f 208 [ω.w 0,ω.w 1]=_;rw[hf,e0,e1]
 have h209:den ω (.app 209 [.va 0,.va 1])=F 209 [.vl a,.vl b]:=by show ω.f 209 [ω.w 0,ω.w 1]=_;rw[hf,e0,e1]
 have z4:(P4 a&&P4 b)=false→dB ω S8.deltaMakes_4=true:=fun h=>by
  show decide ((((den ω (.app 208 [.va 0,.va 1])).toL.length:Nat):Int)=0)=true
  rw[h208,dh2 h];rfl
 have z1:(P4 a&&P4 b)=false→den ω S8.deltaMakes_1= .vb false:=fun h=>by
  show Val.vb (decide ((den ω (.app 209 [.va 0,.va 1])).toI=0))=_
  rw[h209,d59 h];rfl
 cases oa:P4 a with
 |false=>
  rw[oa]at h0
  refine S8.ite_f (by show(den ω S8.deltaMakes_0).toB=false;rw[h0];rfl) (S8.ite_f ?_ (S8.ite_t (z4 (by rw[oa];rfl)) ?_))
  ·show(!((den ω S8.deltaMakes_1).toB==false))=false
   rw[z1 (by rw[oa];rfl)];rfl
  ·show some (0,[den ω S8.deltaMakes_4])=_
   have:=z4 (by rw[oa];rfl)
   have e:den ω S8.deltaMakes_4= .vb (dB ω S8.deltaMakes_4):=rfl
   rw[e,this]
 |true=>
 rw[oa]at h0
 refine S8.ite_t (bQ0 h0) ?_
 cases ob:P4 b with
 |false=>
  rw[ob]at h2
  refine S8.ite_f ?_ (S8.ite_t (d98 h2) (S8.ite_t (z4 (by rw[oa,ob];rfl)) ?_))
  ·show(!((den ω S8.deltaMakes_1).toB==(bif (den ω S8.deltaMakes_0).toB then den ω S8.deltaMakes_2 else .vb false).toB))=false
   rw[z1 (by rw[oa,ob];rfl),h0,h2];rfl
  ·show some (0,[den ω S8.deltaMakes_4])=_
   have:=z4 (by rw[oa,ob];rfl)
   have e:den ω S8.deltaMakes_4= .vb (dB ω S8.deltaMakes_4):=rfl
   rw[e,this]
 |true=>
 rw[ob]at h2
 rw[d57 oa ob]at h208
 rw[d58 oa ob]at h209
 refine S8.ite_f ?_ (S8.ite_f (cS1 h2) ?_)
 ·have:den ω S8.deltaMakes_1= .vb true:=by
   show Val.vb (decide ((den ω (.app 209 [.va 0,.va 1])).toI=0))=_
   rw[h209];rfl
  show(!((den ω S8.deltaMakes_1).toB==(bif (den ω S8.deltaMakes_0).toB then den ω S8.deltaMakes_2 else .vb false).toB))=false
  rw[this,h0,h2];rfl
 have l1:=aE3 g0 g1 oa ob
 have l8:=cf7 ka kb oa
 obtain⟨r1,s1⟩:=dh3 ka kb oa ob (.refl a)
 have pb:=cu0 none b
 have ks:NK (S7.srt none b):=aV8 pb kb
 have os:=aV9 pb ob
 have d6:den ω S8.deltaMakes_6= .vl (S7.srt none b):=by
  show ω.f 222 [ω.w 0,den ω (.app 208 [.va 0,.va 1])]=_
  rw[hf,e0,h208,d99 r1,s1]
 have ls:(S7.srt none b).length=b.length:=pb.length_eq
 have n431a:den ω (.app 431 [.va 0])= .vb true:=by show ω.f 431 [ω.w 0]=_;rw[hf,e0,d60 ka]
 have n431b:den ω (.app 431 [.va 1])= .vb true:=by show ω.f 431 [ω.w 1]=_;rw[hf,e1,d60 kb]
 have a5:dB ω S8.deltaMakes_5=true:=leT A (by omega)
 refine S8.need_ok (bx1 (bx1 a5 (leT h208 (by omega))) (bx1 (bQ0 n431a) (bQ0 ?_))) (S8.need_ok (leT d6 (by omega)) (S8.ite_f (neF ?_) (S8.ite_f (neF ?_) (S8.ite_f ?_ (S8.need_ok (bQ0 n431b) (S8.need_ok (leT d6 (by omega)) (S8.ite_f (cS1 ?_) ?_)))))))
 ·show ω.f 433 [den ω (.app 208 [.va 0,.va 1])]=_
  rw[hf,h208,da1 l8]
 ·show ω.f 232 [ω.w 0,den ω (.app 208 [.va 0,.va 1])]=_
  rw[hf,e0,h208,da0 r1]
 ·show ω.f 209 [ω.w 1,den ω S8.deltaMakes_6]=_
  rw[hf,e1,d6,d58 ob os]
 ·show(!decide ((((ω.f 208 [ω.w 1,den ω S8.deltaMakes_6]).toL.length:Nat):Int)=0))=false
  rw[hf,e1,d6,d57 ob os,bP8 pb kb ob];rfl
 ·show ω.f 3 [den ω S8.deltaMakes_6,ω.f 490 [ω.w 1]]=_
  rw[hf,hf,d6,e1,dk2,v3]
 have d7:den ω S8.deltaMakes_7= .vl (a.filter fun r=>cS2 (ω.w 3) (ω.w 4) (ω.w 5) (ω.w 6) (ω.w 7) (P1 r)):=by
  show ω.f 680 [ω.w 3,ω.w 4,ω.w 5,ω.w 6,ω.w 7,ω.w 0]=_
  rw[hf,e0,dk3 _ _ _ _ _ ka]
 have d9:den ω S8.deltaMakes_9= .vl (b.filter fun r=>cS2 (ω.w 3) (ω.w 4) (ω.w 5) (ω.w 6) (ω.w 7) (P1 r)):=by
  show ω.f 680 [ω.w 3,ω.w 4,ω.w 5,ω.w 6,ω.w 7,ω.w 1]=_
  rw[hf,e1,dk3 _ _ _ _ _ kb]
 obtain⟨sc,d8⟩: ∃s,den ω S8.deltaMakes_8= .vl (S7.srt s ((a09 (Y4 a b)).filter fun r=>cS2 (ω.w 3) (ω.w 4) (ω.w 5) (ω.w 6) (ω.w 7) (P1 r))):=by
  obtain⟨s,h⟩:=dm7 (ω.w 3) (ω.w 4) (ω.w 5) (ω.w 6) (ω.w 7) (a09 (Y4 a b))
  refine⟨s,?_⟩
  show ω.f 630 [ω.w 3,ω.w 4,ω.w 5,ω.w 6,ω.w 7,den ω (.app 208 [.va 0,.va 1])]=_
  rw[hf,h208,h]
 generalize cS2 (ω.w 3) (ω.w 4) (ω.w 5) (ω.w 6) (ω.w 7)=Q at d7 d8 d9
 have p8:=cu0 sc ((a09 (Y4 a b)).filter fun r=>Q (P1 r))
 obtain⟨r2,s2⟩:=d55 Q ka kb oa ob (.refl _) (p8.trans ((ac3 (a43 a b)).filter _))
 have s2':=bI5 s2 (ah5 s2 ((X3.1 ob).2.sublist (E5.map _)))
 have l7:(a.filter fun r=>Q (P1 r)).length≤a.length:=K0 _ _
 have l9:(b.filter fun r=>Q (P1 r)).length≤b.length:=K0 _ _
 have ll8:=p8.length_eq
 have lf8:((a09 (Y4 a b)).filter fun r=>Q (P1 r)).length≤(a09 (Y4 a b)).length:=K0 _ _
 have k7:NK (a.filter fun r=>Q (P1 r)):=fun r hr=>ka r (s9.1 hr).1
 have k9:NK (b.filter fun r=>Q (P1 r)):=fun r hr=>kb r (s9.1 hr).1
 have d10:den ω S8.deltaMakes_10= .vl (S7.srt none (b.filter fun r=>Q (P1 r))):=by
  show ω.f 222 [den ω S8.deltaMakes_7,den ω S8.deltaMakes_8]=_
  rw[hf,d7,d8,d99 r2,s2']
 have l10:=(cu0 none (b.filter fun r=>Q (P1 r))).length_eq
 refine S8.need_ok (bx1 (leT h208 (by omega)) (bQ0 ?_)) (S8.need_ok (bx1 (bx1 (leT d7 (by omega)) (leT d8 (by omega))) (bx1 (bQ0 ?_) (bQ0 ?_))) (S8.ite_f (neF ?_) (S8.need_ok (bx1 (leT d9 (by omega)) (bQ0 ?_)) (S8.need_ok (leT d10 (by omega)) (S8.ite_f (cS1 ?_) (S8.need_ok (leT C (by omega)) ?_))))))
 ·show ω.f 631 [den ω (.app 208 [.va 0,.va 1])]=_
  rw[hf,h208,dm6 fun x hx=> ?_]
  refine d61 (l8 x hx) ?_
  rcases(af7 ka kb (X3.1 oa).2).1 ((ac3 (a43 a b)).mem_iff.1 hx)with⟨r,hr,_,rfl⟩|⟨r,hr,_,rfl⟩
  ·rw[ct9];exact d62 q0' r hr
  ·rw[cP7];exact d62 q1' r hr
 ·show ω.f 431 [den ω S8.deltaMakes_7]=_
  rw[hf,d7,d60 k7]
 ·show ω.f 433 [den ω S8.deltaMakes_8]=_
  rw[hf,d8,da1 fun x hx=>l8 x (s9.1 (p8.mem_iff.1 hx)).1]
 ·show ω.f 232 [den ω S8.deltaMakes_7,den ω S8.deltaMakes_8]=_
  rw[hf,d7,d8,da0 r2]
 ·show ω.f 431 [den ω S8.deltaMakes_9]=_
  rw[hf,d9,d60 k9]
 ·show ω.f 3 [den ω S8.deltaMakes_10,ω.f 490 [den ω S8.deltaMakes_9]]=_
  rw[hf,hf,d9,d10,dk2,v3]
 cases oc:P4 c with
 |false=>
  refine S8.ite_t ?_ rfl
  show(!decide ((ω.f 209 [ω.w 0,ω.w 2]).toI=0))=true
  rw[hf,e0,e2,d59 (by rw[oc,Bool.and_false])];rfl
 |true=>
 have h02:den ω (.app 208 [.va 0,.va 2])= .vl (a09 (Y4 a c)):=by show ω.f 208 [ω.w 0,ω.w 2]=_;rw[hf,e0,e2,d57 oa oc]
 have h21:den ω (.app 208 [.va 2,.va 1])= .vl (a09 (Y4 c b)):=by show ω.f 208 [ω.w 2,ω.w 1]=_;rw[hf,e2,e1,d57 oc ob]
 obtain⟨r3,s3⟩:=dh3 ka kc oa oc (.refl a)
 have pc:=cu0 none c
 obtain⟨r4,s4⟩:=dh3 kc kb oc ob pc
 have d11:den ω S8.deltaMakes_11= .vl (S7.srt none c):=by
  show ω.f 222 [ω.w 0,den ω (.app 208 [.va 0,.va 2])]=_
  rw[hf,e0,h02,d99 r3,s3]
 have d12:den ω S8.deltaMakes_12= .vl (S7.srt none b):=by
  show ω.f 222 [den ω S8.deltaMakes_11,den ω (.app 208 [.va 2,.va 1])]=_
  rw[hf,d11,h21,d99 r4,s4]
 have d13:den ω S8.deltaMakes_13= .vl (a09 (Y4 a b)):=by
  show ω.f 208 [ω.w 0,den ω S8.deltaMakes_12]=_
  rw[hf,e0,d12,d57 oa os,bP7 (.refl a) pb ka kb oa ob]
 have d14:den ω S8.deltaMakes_14= .vb true:=by
  show ω.f 201 [den ω S8.deltaMakes_13,den ω (.app 208 [.va 0,.va 1])]=_
  rw[hf,d13,h208,dm5]
 have l3:=aE3 g0 g2 oa oc
 have l4:=aE3 g2 g1 oc ob
 have lc:=pc.length_eq
 refine S8.ite_f (neF ?_) (S8.ite_f (neF ?_) (S8.need_ok (bx1 (bx1 a5 (leT h02 (by omega))) (bx1 (bQ0 n431a) (bQ0 ?_))) (S8.ite_f (neF ?_) (S8.need_ok (bx1 (bx1 (leT d11 (by omega)) (leT h21 (by omega))) (bx1 (bQ0 ?_) (bQ0 ?_))) (S8.ite_f (neF ?_) (S8.need_ok (leT d12 (by omega)) (S8.ite_t ?_ (S8.need_ok (leT d13 (by omega)) (S8.ite_t (bQ0 d14) ?_)))))))))
 ·show ω.f 209 [ω.w 0,ω.w 2]=_
  rw[hf,e0,e2,d58 oa oc]
 ·show ω.f 209 [ω.w 2,ω.w 1]=_
  rw[hf,e2,e1,d58 oc ob]
 ·show ω.f 433 [den ω (.app 208 [.va 0,.va 2])]=_
  rw[hf,h02,da1 (cf7 ka kc oa)]
 ·show ω.f 232 [ω.w 0,den ω (.app 208 [.va 0,.va 2])]=_
  rw[hf,e0,h02,da0 r3]
 ·show ω.f 431 [den ω S8.deltaMakes_11]=_
  rw[hf,d11,d60 (aV8 pc kc)]
 ·show ω.f 433 [den ω (.app 208 [.va 2,.va 1])]=_
  rw[hf,h21,da1 (cf7 kc kb oc)]
 ·show ω.f 232 [den ω S8.deltaMakes_11,den ω (.app 208 [.va 2,.va 1])]=_
  rw[hf,d11,h21,da0 r4]
 ·show decide ((ω.f 209 [ω.w 0,den ω S8.deltaMakes_12]).toI=0)=true
  rw[hf,e0,d12,d58 oa os];rfl
 ·show some (0,[den ω S8.deltaMakes_14])=_
  rw[d14]
end Go.Ev
