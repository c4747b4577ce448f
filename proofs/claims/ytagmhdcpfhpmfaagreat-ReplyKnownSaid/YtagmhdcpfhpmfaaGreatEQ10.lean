import Derived.Test.YtagmhdcpfhpmfaaGreatEQ9
set_option linter.unusedSimpArgs false
set_option linter.unusedVariables false
namespace Go.Ev
open Go
def sg(l:List Val)(i n:Nat):List Int:=((l.drop i).take n).map S5
theorem ao8(l:List Val)(i n m:Nat):sg l i n++sg l (i+n) m=sg l i (n+m):=by
 unfold sg
 rw[←u4,List.take_add,List.drop_drop]
theorem dj4(l:List Val):sg l 0 l.length=l.map S5:=by
 unfold sg;rw[List.drop_zero,List.take_length]
theorem cS3{l:List Val}{i:Nat}(h:i<l.length):sg l i 1=[bI l i]:=by
 unfold sg
 rw[List.take_one,List.head?_drop,j2 h]
 simp only[Option.toList_some,o9,List.map_nil,bI,atV,n6,j2 h,Option.getD_some]
 rfl
theorem bA1(x:Int): ∀n,beV x (n+1)=beV (x/256) n++[N4 (x % 256)]
 |0=>by simp[beV]
 |n+1=>by
  have h:=bA1 x n
  show N4 (x/256^(n+1) % 256)::beV x (n+1)=N4 (x/256/256^n % 256)::beV (x/256) n++[N4 (x % 256)]
  rw[h,Int.ediv_ediv,if_neg (by omega),E5,show(256:Int)*256^n=256^(n+1) by rw[Int.pow_succ,Int.mul_comm]]
  rfl
theorem cx7{l:List Val}(hl:okL l=true){i:Nat}: ∀{n:Nat},i+n≤l.length→(beV (ak7 l i n) n).map S5=sg l i n
 |0,_=>by simp[beV,sg]
 |n+1,h=>by
  have hb:=bH5 hl (show i+n<l.length by omega)
  have e1:ak7 l i (n+1)/256=ak7 l i n:=by show(ak7 l i n*256+bI l (i+n))/256=_;omega
  have e2:ak7 l i (n+1) % 256=bI l (i+n):=by show(ak7 l i n*256+bI l (i+n)) % 256=_;omega
  rw[bA1,e1,e2,u4,cx7 hl (by omega),←ao8,cS3 (by omega)]
  rfl
theorem aQ7(x:Int){n:Nat}(hn:n≤8):beV (IntKind.i64.wrap x) n=beV x n:=by
 rw[←K9 (IntKind.i64.wrap x) hn,←K9 x hn]
 congr 1
 rw[aI7,aI7]
 simp only[IntKind.wrap,IntKind.bits,IntKind.signed]
 simp
 omega
theorem S3{l:List Val}{s:Rd}{n:Nat}(h:(tkS l s n).bad=false):s.bad=false∧s.pos+n≤l.length∧tkS l s n=⟨s.pos+n,false⟩∧tkN l s n=ak7 l s.pos n:=by
 unfold tkS at h
 cases hc:U8 l s n with
 |false=>rw[hc]at h;cases h
 |true=>
  have h2:=hc
  simp only[U8,d6,i7,decide_eq_true_eq]at h2
  exact⟨h2.1,h2.2,by unfold tkS;rw[hc];rfl,by unfold tkN;rw[hc];rfl⟩
theorem cS4{l:List Val}{s:Rd}(h:(txS l s).bad=false):s.bad=false∧bg4 l s=true∧s.pos+2+txN l s≤l.length∧txS l s=⟨s.pos+2+txN l s,false⟩:=by
 unfold txS at h
 cases hc:bg4 l s with
 |false=>rw[hc]at h;cases h
 |true=>
  have h2:=hc
  simp only[bg4,U8,d6,i7,decide_eq_true_eq]at h2
  exact⟨h2.1.1,rfl,h2.2,by unfold txS;rw[hc];rfl⟩
theorem a95{l:List Val}(hl:okL l=true){s:Rd}{n:Nat}(h:(tkS l s n).bad=false):(beV (tkN l s n) n).map S5=sg l s.pos n:=by
 obtain⟨_,h2,_,h4⟩:=S3 h
 rw[h4];exact cx7 hl h2
theorem cM0{l:List Val}(hl:okL l=true){s:Rd}(h:(txS l s).bad=false):(aj5 (txV l s)).map S5=sg l s.pos (2+txN l s):=by
 obtain⟨h1,h2,h3,h4⟩:=cS4 h
 have h5:=h2
 simp only[bg4,d6,decide_eq_true_eq]at h5
 have hv:txV l s=((l.drop (s.pos+2)).take (txN l s)).map fun r=>UInt8.ofNat (r.toL.getD 0 default).toI.toNat:=by unfold txV;rw[h2];rfl
 have hn:=ao5 hl s 2
 have hlen:(txV l s).length=txN l s:=by rw[hv,s9,g9,m8];omega
 have hN:(txN l s:Int)=tkN l s 2:=by unfold txN;omega
 have hb:(tkS l s 2).bad=false:=by unfold tkS;rw[h5.1];rfl
 have h8:=cv9 hl
 simp only[ak8,j0,d6,decide_eq_true_eq]at h8
 rw[aj5,u4,hlen,hN,a95 hl hb,←ao8]
 congr 1
 rw[hv,v6,v6]
 unfold sg
 refine B1 fun r hr=> ?_
 have:=h8 r (C4 (C3 hr))
 show((UInt8.ofNat (r.toL.getD 0 default).toI.toNat).toNat:Int)=(r.toL.getD 0 default).toI
 rw[UInt8.toNat_ofNat_of_lt' (by show _<256;omega)]
 omega
theorem c39{l:List Val}(hl:okL l=true){s:Rd}(h:(pnS l s).bad=false):s.bad=false∧s.pos≤(pnS l s).pos∧(pnS l s).pos≤l.length∧(R9 (.vl (pnV l s))).map S5=sg l s.pos ((pnS l s).pos-s.pos):=by
 obtain⟨a1,a2,a3,_⟩:=S3 (s:=tkS l (txS l s) 8) h
 obtain⟨b1,b2,b3,_⟩:=S3 a1
 obtain⟨c1,_,c3,c4⟩:=cS4 b1
 have p1:(txS l s).pos=s.pos+2+txN l s:=by rw[c4]
 have p2:(tkS l (txS l s) 8).pos=s.pos+2+txN l s+8:=by rw[b3,p1]
 have p3:(pnS l s).pos=s.pos+2+txN l s+8+8:=by show(tkS l (tkS l (txS l s) 8) 8).pos=_;rw[a3,p2]
 refine⟨c1,by omega,by rw[p3];rw[p2]at a2;exact a2,?_⟩
 show(aj5 (txV l s)++beV (IntKind.i64.wrap (tkN l (txS l s) 8)) 8++beV (IntKind.i64.wrap (tkN l (tkS l (txS l s) 8) 8)) 8).map S5=_
 rw[aQ7 _ (d8 8),aQ7 _ (d8 8),u4,u4,cM0 hl b1,a95 hl a1,a95 hl h,p1,p2,
  show s.pos+2+txN l s=s.pos+(2+txN l s) by omega,ao8,show s.pos+(2+txN l s)+8=s.pos+(2+txN l s+8) by omega,ao8,p3]
 congr 1;omega
theorem cM1{l:List Val}(hl:okL l=true){s:Rd}(h:(rwS l s).bad=false):s.bad=false∧s.pos≤(rwS l s).pos∧(rwS l s).pos≤l.length∧(Z7 (.vl (rwV l s))).map S5=sg l s.pos ((rwS l s).pos-s.pos):=by
 obtain⟨a1,a2,a3,_⟩:=S3 (s:=tkS l (tkS l (tkS l (pnS l s) 8) 8) 8) h
 obtain⟨b1,b2,b3,_⟩:=S3 a1
 obtain⟨c1,c2,c3,_⟩:=S3 b1
 obtain⟨d1,d2,d3,_⟩:=S3 c1
 obtain⟨e1,e2,e3,e4⟩:=c39 hl d1
 have p1:(tkS l (pnS l s) 8).pos=(pnS l s).pos+8:=by rw[d3]
 have p2:(tkS l (tkS l (pnS l s) 8) 8).pos=(pnS l s).pos+8+8:=by rw[c3,p1]
 have p3:(tkS l (tkS l (tkS l (pnS l s) 8) 8) 8).pos=(pnS l s).pos+8+8+8:=by rw[b3,p2]
 have p4:(rwS l s).pos=(pnS l s).pos+8+8+8+8:=by show(tkS l (tkS l (tkS l (tkS l (pnS l s) 8) 8) 8) 8).pos=_;rw[a3,p3]
 refine⟨e1,by omega,by rw[p4];rw[p3]at a2;exact a2,?_⟩
 show(R9 (.vl (pnV l s))++(beV (IntKind.i64.wrap (tkN l (pnS l s) 8)) 8++beV (IntKind.i64.wrap (tkN l (tkS l (pnS l s) 8) 8)) 8++beV (IntKind.i64.wrap (tkN l (tkS l (tkS l (pnS l s) 8) 8) 8)) 8++beV (IntKind.i64.wrap (tkN l (tkS l (tkS l (tkS l (pnS l s) 8) 8) 8) 8)) 8)).map S5=_
 rw[aQ7 _ (d8 8),aQ7 _ (d8 8),aQ7 _ (d8 8),aQ7 _ (d8 8),u4,u4,u4,u4,e4,a95 hl c1,a95 hl b1,a95 hl a1,a95 hl h,p1,p2,p3,ao8,
  show(pnS l s).pos+8+8=(pnS l s).pos+(8+8) by omega,ao8,show(pnS l s).pos+(8+8)+8=(pnS l s).pos+(8+8+8) by omega,ao8]
 obtain⟨d,hd⟩: ∃d,(pnS l s).pos=s.pos+d:=⟨(pnS l s).pos-s.pos,by omega⟩
 rw[p4,hd,show s.pos+d-s.pos=d by omega,ao8]
 congr 1;omega
theorem c40{l:List Val}{f:Rd→Rd}{g:Rd→List Val}{W:Val→List Val}(hf: ∀s,(f s).bad=false→s.bad=false∧s.pos≤(f s).pos∧(f s).pos≤l.length∧(W (.vl (g s))).map S5=sg l s.pos ((f s).pos-s.pos)):
 ∀(n:Nat) (s:Rd) (acc:List Val),(lpR f g n s acc).2.1.bad=false→s.bad=false∧s.pos≤(lpR f g n s acc).2.1.pos∧ ∃rows,(lpR f g n s acc).2.2=acc++rows∧rows.length=n∧(rows.flatMap W).map S5=sg l s.pos ((lpR f g n s acc).2.1.pos-s.pos)
 |0,s,acc,h=>⟨h,d8 _,[],by simp[lpR],rfl,by simp[lpR,sg]⟩
 |n+1,s,acc,h=>by
  cases hb:s.bad with
  |true=>
   have e:lpR f g (n+1) s acc=(n+1,s,acc):=by simp only[lpR,hb,cond_true]
   rw[e]at h
   exact absurd hb (by rw[h];decide)
  |false=>
   have e:lpR f g (n+1) s acc=lpR f g n (f s) (acc++[.vl (g s)]):=by simp only[lpR,hb,cond_false]
   rw[e]at h
   obtain⟨h1,h2,rows,h3,h4,h5⟩:=c40 hf n (f s) _ h
   obtain⟨k1,k2,k3,k4⟩:=hf s h1
   refine⟨rfl,by rw[e];omega,.vl (g s)::rows,by rw[e,h3,m5];rfl,by simp[h4],?_⟩
   rw[e,v8,u4,k4,h5]
   obtain⟨d,hd⟩: ∃d,(f s).pos=s.pos+d:=⟨(f s).pos-s.pos,by omega⟩
   rw[hd,show s.pos+d-s.pos=d by omega,ao8]
   congr 1;rw[hd]at h2;omega
def prs(l:List Val):List Val:=[arg (J5 l) 0,arg (J5 l) 1,arg (J5 l) 2,arg (J5 l) 3,arg (J5 l) 4,arg (J5 l) 5,arg (J5 l) 6,arg (J5 l) 7,arg (J5 l) 8,arg (J5 l) 9,arg (J5 l) 11,arg (J5 l) 12]
theorem bf6{l:List Val}{s:Rd}{odd:Bool}{a:List Val}(h:(arg (a19 l s odd a) 10).toI=0):s.bad=false∧ ¬s.pos<l.length∧odd=false∧K0 (K4 a)=true∧a19 l s odd a=[arg a 0,arg a 1,arg a 2,arg a 3,arg a 4,arg a 5,arg a 6,arg a 7,arg a 8,arg a 9,.vi 0,arg a 10,arg a 11]:=by
 unfold a19 at h⊢
 cases hb:s.bad with
 |true=>rw[hb]at h;exact absurd (show(20:Int)=0 from h) (by decide)
 |false=>
  rw[hb]at h
  cases hp:decide (s.pos<l.length)with
  |true=>rw[hp]at h;exact absurd (show(21:Int)=0 from h) (by decide)
  |false=>
   rw[hp]at h
   cases ho:(odd|| !K0 (K4 a))with
   |true=>rw[ho]at h;exact absurd (show(81:Int)=0 from h) (by decide)
   |false=>
    simp only[Bool.or_eq_false_iff,B9]at ho
    exact⟨rfl,of_decide_eq_false hp,ho.1,ho.2,rfl⟩
def Pre(l:List Val)(s:Rd)(w:List Val):Prop:=w.map S5=sg l 0 s.pos
theorem a28{l:List Val}(hl:okL l=true){s:Rd}{n:Nat}{w:List Val}(h:Pre l s w)(hb:(tkS l s n).bad=false):Pre l (tkS l s n) (w++beV (tkN l s n) n):=by
 unfold Pre at*
 rw[u4,h,a95 hl hb,(S3 hb).2.2.1]
 have:=ao8 l 0 s.pos n
 rwa[l9]at this
theorem cx8{l:List Val}{f:Rd→Rd}{g:Rd→List Val}{W:Val→List Val}(hf: ∀s,(f s).bad=false→s.bad=false∧s.pos≤(f s).pos∧(f s).pos≤l.length∧(W (.vl (g s))).map S5=sg l s.pos ((f s).pos-s.pos))
 {n:Nat} {s:Rd} {w:List Val} (h:Pre l s w) (hb:(lpR f g n s []).2.1.bad=false):s.bad=false∧(lpR f g n s []).2.2.length=n∧Pre l (lpR f g n s []).2.1 (w++(lpR f g n s []).2.2.flatMap W):=by
 obtain⟨h1,h2,rows,h3,h4,h5⟩:=c40 hf n s [] hb
 rw[List.nil_append]at h3
 refine⟨h1,by rw[h3,h4],?_⟩
 unfold Pre at*
 rw[u4,h,h3,h5]
 obtain⟨d,hd⟩: ∃d,(lpR f g n s []).2.1.pos=s.pos+d:=⟨(lpR f g n s []).2.1.pos-s.pos,by omega⟩
 have:=ao8 l 0 s.pos d
 rw[l9]at this
 rw[hd,show s.pos+d-s.pos=d by omega,this]
theorem cx9{f:Rd→Rd}{g:Rd→List Val}(hf: ∀s,(f s).bad=false→s.bad=false): ∀(n:Nat) (s:Rd) (acc:List Val),(lpR f g n s acc).2.1.bad=false→s.bad=false
 |0,s,acc,h=>h
 |n+1,s,acc,h=>by
  cases hb:s.bad with
  |true=>
   have e:lpR f g (n+1) s acc=(n+1,s,acc):=by simp only[lpR,hb,cond_true]
   rw[e]at h
   exact absurd hb (by rw[h];decide)
  |false=>rfl
theorem dA6{l:List Val}(hl:okL l=true)(h: ¬l.length=0):Pre l (s1R l) [N4 (bI l 0)]∧(s1R l).bad=false:=by
 have h1:U8 l ⟨0,false⟩ 1=true:=by simp[U8];omega
 have e:s1R l=⟨1,false⟩:=by unfold s1R tkS;rw[h1];rfl
 rw[e]
 exact⟨(cS3 (show 0<l.length by omega)).symm,rfl⟩
theorem d75{l:List Val}(hl:okL l=true)(h: ¬l.length=0)(hb:(s2R l).bad=false):Pre l (s2R l) ([N4 (bI l 0)]++beV (tkN l (s1R l) 4) 4):=a28 hl (dA6 hl h).1 hb
theorem dA7{l:List Val}(hl:okL l=true)(h: ¬l.length=0)(hb:(s3R l).bad=false):Pre l (s3R l) ([N4 (bI l 0)]++beV (tkN l (s1R l) 4) 4++beV (tkN l (s2R l) 8) 8):=a28 hl (d75 hl h (S3 hb).1) hb
theorem dA8{l:List Val}(hl:okL l=true)(h: ¬l.length=0)(hb:(s4R l).bad=false):Pre l (s4R l) ([N4 (bI l 0)]++beV (tkN l (s1R l) 4) 4++beV (tkN l (s2R l) 8) 8++beV (tkN l (s3R l) 1) 1):=a28 hl (dA7 hl h (S3 hb).1) hb
theorem dy1{l:List Val}(hl:okL l=true)(h: ¬l.length=0)(hb:(s5R l).bad=false):Pre l (s5R l) ([N4 (bI l 0)]++beV (tkN l (s1R l) 4) 4++beV (tkN l (s2R l) 8) 8++beV (tkN l (s3R l) 1) 1++beV (tkN l (s4R l) 1) 1):=a28 hl (dA8 hl h (S3 hb).1) hb
theorem pre6{l:List Val}(hl:okL l=true){w:List Val}(p:Pre l (P6 l).2.1 w)(hb:(s6R l).bad=false):Pre l (s6R l) (w++beV (tkN l (P6 l).2.1 1) 1):=a28 hl p hb
theorem aA8{l:List Val}{s:Rd}{w:List Val}(h:Pre l s w)(h1:s.pos≤l.length)(h2: ¬s.pos<l.length):w.map S5=l.map S5:=by
 unfold Pre at h
 rw[h,show s.pos=l.length by omega,dj4]
theorem dy2(x:Int):beV x 1=[N4 (x % 256)]:=by simp[beV]
theorem c41{x:Int}(h0:0≤x)(h1: ¬1<x):beV x 1=[N4 (if decide (x=1)=true then 1 else 0)]:=by
 rw[dy2]
 by_cases h:x=1
 ·subst h;rfl
 ·have:x=0:=by omega
  subst this;rfl
theorem bf7{x:Int}{n:Nat}(h:x=(n:Int)):beV x 1=[N4 ((n:Int) % 256)]:=by rw[dy2,h]
theorem cM2{l:List Val}(hl:okL l=true): ∀s,(rwS l s).bad=false→s.bad=false∧s.pos≤(rwS l s).pos∧(rwS l s).pos≤l.length∧(Z7 (.vl (rwV l s))).map S5=sg l s.pos ((rwS l s).pos-s.pos):=fun _ h=>cM1 hl h
theorem dj5{l:List Val}(hl:okL l=true): ∀s,(pnS l s).bad=false→s.bad=false∧s.pos≤(pnS l s).pos∧(pnS l s).pos≤l.length∧(R9 (.vl (pnV l s))).map S5=sg l s.pos ((pnS l s).pos-s.pos):=fun _ h=>c39 hl h
theorem du6{l:List Val}(hl:okL l=true)(h0: ¬l.length=0)(hk:bI l 0=1)(he:J5 l=T9 l 1)(h:(arg (J5 l) 10).toI=0):K0 (K4 (prs l))=true∧(Q1 (prs l)).map S5=l.map S5:=by
 have hp:T9 l 1=a19 l (P6 l).2.1 (decide (1<tkN l (s3R l) 1)) [.vi 1,idV l,.vi 0,.vb (decide (tkN l (s3R l) 1=1)),.vi (tkN l (s2R l) 8),.vi 0,.vi 0,.vi 0,.vi 0,.vi 0,.vl (P6 l).2.2,.vl []]:=rfl
 rw[he,hp]at h
 obtain⟨b0,n0,o0,r0,e0⟩:=bf6 h
 have hprs:prs l=[.vi 1,idV l,.vi 0,.vb (decide (tkN l (s3R l) 1=1)),.vi (tkN l (s2R l) 8),.vi 0,.vi 0,.vi 0,.vi 0,.vi 0,.vl (P6 l).2.2,.vl []]:=by
  unfold prs;rw[he,hp,e0];rfl
 rw[hprs]
 refine⟨r0,?_⟩
 have q6:(P6 l).2.1.bad=false:=b0
 have q5:(s5R l).bad=false:=cx9 (fun s h=>(cM2 hl s h).1) _ _ _ q6
 have q4:(s4R l).bad=false:=(S3 q5).1
 have q3:(s3R l).bad=false:=(S3 q4).1
 have q2:(s2R l).bad=false:=(S3 q3).1
 obtain⟨_,c1,p⟩:(s5R l).bad=false∧(P6 l).2.2.length=a27 l∧Pre l (P6 l).2.1 ([N4 (bI l 0)]++beV (tkN l (s1R l) 4) 4++beV (tkN l (s2R l) 8) 8++beV (tkN l (s3R l) 1) 1++beV (tkN l (s4R l) 1) 1++(P6 l).2.2.flatMap Z7):=cx8 (cM2 hl) (n:=a27 l) (dy1 hl h0 q5) q6
 have f1: ¬1<tkN l (s3R l) 1:=of_decide_eq_false o0
 have w1:=c41 (ao5 hl (s3R l) 1).1 f1
 have w2:=bf7 (n:=(P6 l).2.2.length) (x:=tkN l (s4R l) 1) (by rw[a14 hl];exact congrArg (fun n:Nat=>(n:Int)) c1.symm)
 have e:=aA8 p (aj7 l) n0
 rw[w1,w2,hk]at e
 rw[←e]
 simp only[Q1,idV,H9,I1,G9,H8,I2,true_or,if_true,m5,(by decide: ¬((1:Int)=4)),if_false,u7]
 rfl
theorem du7{l:List Val}(hl:okL l=true)(h0: ¬l.length=0)(hk:bI l 0=2)(he:J5 l=T9 l 2)(h:(arg (J5 l) 10).toI=0):K0 (K4 (prs l))=true∧(Q1 (prs l)).map S5=l.map S5:=by
 have hp:T9 l 2=a19 l (tkS l (tkS l (tkS l (s2R l) 8) 8) 8) false [.vi 2,idV l,.vi 0,.vb false,.vi (tkN l (tkS l (s2R l) 8) 8),.vi 0,.vi (tkN l (tkS l (tkS l (s2R l) 8) 8) 8),.vi (tkN l (s2R l) 8),.vi 0,.vi 0,.vl [],.vl []]:=rfl
 rw[he,hp]at h
 obtain⟨b0,n0,o0,r0,e0⟩:=bf6 h
 have hprs:prs l=[.vi 2,idV l,.vi 0,.vb false,.vi (tkN l (tkS l (s2R l) 8) 8),.vi 0,.vi (tkN l (tkS l (tkS l (s2R l) 8) 8) 8),.vi (tkN l (s2R l) 8),.vi 0,.vi 0,.vl [],.vl []]:=by
  unfold prs;rw[he,hp,e0];rfl
 rw[hprs]
 refine⟨r0,?_⟩
 have q2:=(S3 b0).1
 have q1:=(S3 q2).1
 have q0:=(S3 q1).1
 have e:=aA8 (a28 hl (a28 hl (a28 hl (d75 hl h0 q0) q1) q2) b0) (N1 (N1 (N1 (a13 l) 8) 8) 8) n0
 rw[hk]at e
 rw[←e]
 simp only[Q1,idV,H9,I1,G9,H8,I2,m5]
 rfl
theorem du8{l:List Val}(hl:okL l=true)(h0: ¬l.length=0)(hk:bI l 0=3)(he:J5 l=T9 l 3)(h:(arg (J5 l) 10).toI=0):K0 (K4 (prs l))=true∧(Q1 (prs l)).map S5=l.map S5:=by
 have hp:T9 l 3=a19 l (tkS l (tkS l (tkS l (s2R l) 8) 8) 8) false [.vi 3,idV l,.vi 0,.vb false,.vi (tkN l (tkS l (s2R l) 8) 8),.vi 0,.vi (tkN l (tkS l (tkS l (s2R l) 8) 8) 8),.vi (tkN l (s2R l) 8),.vi 0,.vi 0,.vl [],.vl []]:=rfl
 rw[he,hp]at h
 obtain⟨b0,n0,o0,r0,e0⟩:=bf6 h
 have hprs:prs l=[.vi 3,idV l,.vi 0,.vb false,.vi (tkN l (tkS l (s2R l) 8) 8),.vi 0,.vi (tkN l (tkS l (tkS l (s2R l) 8) 8) 8),.vi (tkN l (s2R l) 8),.vi 0,.vi 0,.vl [],.vl []]:=by
  unfold prs;rw[he,hp,e0];rfl
 rw[hprs]
 refine⟨r0,?_⟩
 have q2:=(S3 b0).1
 have q1:=(S3 q2).1
 have q0:=(S3 q1).1
 have e:=aA8 (a28 hl (a28 hl (a28 hl (d75 hl h0 q0) q1) q2) b0) (N1 (N1 (N1 (a13 l) 8) 8) 8) n0
 rw[hk]at e
 rw[←e]
 simp only[Q1,idV,H9,I1,G9,H8,I2,m5]
 rfl
theorem du9{l:List Val}(hl:okL l=true)(h0: ¬l.length=0)(hk:bI l 0=4)(he:J5 l=T9 l 4)(h:(arg (J5 l) 10).toI=0):K0 (K4 (prs l))=true∧(Q1 (prs l)).map S5=l.map S5:=by
 have hp:T9 l 4=a19 l (X4 l).2.1 (decide (1<tkN l (s3R l) 1)) [.vi 4,idV l,.vi 0,.vb (decide (tkN l (s3R l) 1=1)),.vi (tkN l (s2R l) 8),.vi 0,.vi 0,.vi 0,.vi 0,.vi 0,.vl (P6 l).2.2,.vl (X4 l).2.2]:=rfl
 rw[he,hp]at h
 obtain⟨b0,n0,o0,r0,e0⟩:=bf6 h
 have hprs:prs l=[.vi 4,idV l,.vi 0,.vb (decide (tkN l (s3R l) 1=1)),.vi (tkN l (s2R l) 8),.vi 0,.vi 0,.vi 0,.vi 0,.vi 0,.vl (P6 l).2.2,.vl (X4 l).2.2]:=by
  unfold prs;rw[he,hp,e0];rfl
 rw[hprs]
 refine⟨r0,?_⟩
 have g0:(s6R l).bad=false:=cx9 (fun s h=>(dj5 hl s h).1) _ _ _ b0
 have q6:(P6 l).2.1.bad=false:=(S3 g0).1
 have q5:(s5R l).bad=false:=cx9 (fun s h=>(cM2 hl s h).1) _ _ _ q6
 have q4:(s4R l).bad=false:=(S3 q5).1
 have q3:(s3R l).bad=false:=(S3 q4).1
 have q2:(s2R l).bad=false:=(S3 q3).1
 obtain⟨_,c1,p⟩:(s5R l).bad=false∧(P6 l).2.2.length=a27 l∧Pre l (P6 l).2.1 ([N4 (bI l 0)]++beV (tkN l (s1R l) 4) 4++beV (tkN l (s2R l) 8) 8++beV (tkN l (s3R l) 1) 1++beV (tkN l (s4R l) 1) 1++(P6 l).2.2.flatMap Z7):=cx8 (cM2 hl) (n:=a27 l) (dy1 hl h0 q5) q6
 have f1: ¬1<tkN l (s3R l) 1:=of_decide_eq_false o0
 have w1:=c41 (ao5 hl (s3R l) 1).1 f1
 have w2:=bf7 (n:=(P6 l).2.2.length) (x:=tkN l (s4R l) 1) (by rw[a14 hl];exact congrArg (fun n:Nat=>(n:Int)) c1.symm)
 obtain⟨_,c2,p2⟩:(s6R l).bad=false∧(X4 l).2.2.length=a36 l∧Pre l (X4 l).2.1 ([N4 (bI l 0)]++beV (tkN l (s1R l) 4) 4++beV (tkN l (s2R l) 8) 8++beV (tkN l (s3R l) 1) 1++beV (tkN l (s4R l) 1) 1++(P6 l).2.2.flatMap Z7++beV (tkN l (P6 l).2.1 1) 1++(X4 l).2.2.flatMap R9):=cx8 (dj5 hl) (n:=a36 l) (pre6 hl p g0) b0
 have w3:=bf7 (n:=(X4 l).2.2.length) (x:=tkN l (P6 l).2.1 1) (by rw[aa7 hl];exact congrArg (fun n:Nat=>(n:Int)) c2.symm)
 have e:=aA8 p2 (bU7 l) n0
 rw[w1,w2,w3,hk]at e
 rw[←e]
 simp only[Q1,idV,H9,I1,G9,H8,I2,or_true,if_true,m5]
 rfl
theorem dv0{l:List Val}(hl:okL l=true)(h0: ¬l.length=0)(hk:bI l 0=5)(he:J5 l=T9 l 5)(h:(arg (J5 l) 10).toI=0):K0 (K4 (prs l))=true∧(Q1 (prs l)).map S5=l.map S5:=by
 have hp:T9 l 5=a19 l (tkS l (tkS l (tkS l (tkS l (s2R l) 8) 8) 8) 8) false [.vi 5,idV l,.vi 0,.vb false,.vi (tkN l (s2R l) 8),.vi (tkN l (tkS l (s2R l) 8) 8),.vi 0,.vi 0,.vi (tkN l (tkS l (tkS l (s2R l) 8) 8) 8),.vi (tkN l (tkS l (tkS l (tkS l (s2R l) 8) 8) 8) 8),.vl [],.vl []]:=rfl
 rw[he,hp]at h
 obtain⟨b0,n0,o0,r0,e0⟩:=bf6 h
 have hprs:prs l=[.vi 5,idV l,.vi 0,.vb false,.vi (tkN l (s2R l) 8),.vi (tkN l (tkS l (s2R l) 8) 8),.vi 0,.vi 0,.vi (tkN l (tkS l (tkS l (s2R l) 8) 8) 8),.vi (tkN l (tkS l (tkS l (tkS l (s2R l) 8) 8) 8) 8),.vl [],.vl []]:=by
  unfold prs;rw[he,hp,e0];rfl
 rw[hprs]
 refine⟨r0,?_⟩
 have q3:=(S3 b0).1
 have q2:=(S3 q3).1
 have q1:=(S3 q2).1
 have q0:=(S3 q1).1
 have e:=aA8 (a28 hl (a28 hl (a28 hl (a28 hl (d75 hl h0 q0) q1) q2) q3) b0) (N1 (N1 (N1 (N1 (a13 l) 8) 8) 8) 8) n0
 rw[hk]at e
 rw[←e]
 simp only[Q1,idV,H9,I1,G9,H8,I2,m5]
 rfl
theorem dv1{l:List Val}(hl:okL l=true)(h0: ¬l.length=0)(hk:bI l 0=6)(he:J5 l=T9 l 6)(h:(arg (J5 l) 10).toI=0):K0 (K4 (prs l))=true∧(Q1 (prs l)).map S5=l.map S5:=by
 have hp:T9 l 6=a19 l (s2R l) false [.vi 6,idV l,.vi 0,.vb false,.vi 0,.vi 0,.vi 0,.vi 0,.vi 0,.vi 0,.vl [],.vl []]:=rfl
 rw[he,hp]at h
 obtain⟨b0,n0,o0,r0,e0⟩:=bf6 h
 have hprs:prs l=[.vi 6,idV l,.vi 0,.vb false,.vi 0,.vi 0,.vi 0,.vi 0,.vi 0,.vi 0,.vl [],.vl []]:=by
  unfold prs;rw[he,hp,e0];rfl
 rw[hprs]
 refine⟨r0,?_⟩
 have q0:=b0
 have e:=aA8 (d75 hl h0 q0) (a13 l) n0
 rw[hk]at e
 rw[←e]
 simp only[Q1,idV,H9,I1,G9,H8,I2,m5]
 rfl
theorem dv2{l:List Val}(hl:okL l=true)(h0: ¬l.length=0)(hk:bI l 0=7)(he:J5 l=T9 l 7)(h:(arg (J5 l) 10).toI=0):K0 (K4 (prs l))=true∧(Q1 (prs l)).map S5=l.map S5:=by
 have hp:T9 l 7=a19 l (tkS l (tkS l (s2R l) 2) 8) false [.vi 7,idV l,.vi (tkN l (s2R l) 2),.vb false,.vi 0,.vi (tkN l (tkS l (s2R l) 2) 8),.vi 0,.vi 0,.vi 0,.vi 0,.vl [],.vl []]:=rfl
 rw[he,hp]at h
 obtain⟨b0,n0,o0,r0,e0⟩:=bf6 h
 have hprs:prs l=[.vi 7,idV l,.vi (tkN l (s2R l) 2),.vb false,.vi 0,.vi (tkN l (tkS l (s2R l) 2) 8),.vi 0,.vi 0,.vi 0,.vi 0,.vl [],.vl []]:=by
  unfold prs;rw[he,hp,e0];rfl
 rw[hprs]
 refine⟨r0,?_⟩
 have q1:=(S3 b0).1
 have q0:=(S3 q1).1
 have e:=aA8 (a28 hl (a28 hl (d75 hl h0 q0) q1) b0) (N1 (N1 (a13 l) 2) 8) n0
 rw[hk]at e
 rw[←e]
 simp only[Q1,idV,H9,I1,G9,H8,I2,m5]
 rfl
theorem back{l:List Val}(hl:okL l=true)(h:(arg (J5 l) 10).toI=0):K0 (K4 (prs l))=true∧(Q1 (prs l)).map S5=l.map S5:=by
 by_cases h0:l.length=0
 ·rw[T7 h0]at h;exact absurd h (by decide)
 by_cases h2:bI l 0<1∨7<bI l 0
 ·rw[M5 h0 h2]at h;exact absurd h (by decide)
 have he:=O0 h0 h2
 have:bI l 0=1∨bI l 0=2∨bI l 0=3∨bI l 0=4∨bI l 0=5∨bI l 0=6∨bI l 0=7:=by omega
 rcases this with k|k|k|k|k|k|k
 ·exact du6 hl h0 k (by rw[he,k]) h
 ·exact du7 hl h0 k (by rw[he,k]) h
 ·exact du8 hl h0 k (by rw[he,k]) h
 ·exact du9 hl h0 k (by rw[he,k]) h
 ·exact dv0 hl h0 k (by rw[he,k]) h
 ·exact dv1 hl h0 k (by rw[he,k]) h
 ·exact dv2 hl h0 k (by rw[he,k]) h
def Has(l:List Val)(i:Nat)(w:List Val):Prop:= ∃post,l.drop i=w++post
theorem a37{l:List Val}{i:Nat}{u v:List Val}(h:Has l i (u++v)):Has l i u∧Has l (i+u.length) v:=by
 obtain⟨p,h⟩:=h
 refine⟨⟨v++p,by rw[h,m5]⟩,p,?_⟩
 rw[←List.drop_drop,h,m5,B6]
theorem aj8(l:List Val):Has l 0 l:=⟨[],by simp⟩
theorem bU8{l:List Val}{i:Nat}{x:Int}(h:Has l i [N4 x]):i<l.length∧bI l i=x:=by
 obtain⟨p,h⟩:=h
 have h1:=congrArg List.length h
 simp only[m8,d7,List.length_cons,List.length_nil]at h1
 have h2:l[i]? =some (N4 x):=by
  have:=congrArg (fun z:List Val=>z[0]?) h
  simpa using this
 refine⟨by omega,?_⟩
 unfold bI atV
 rw[n6,h2];rfl
theorem cy0{l:List Val}{i:Nat}: ∀{n x:Nat},Has l i (beV (x:Int) n)→0<n→i+n≤l.length∧ak7 l i n=((x % 256^n:Nat):Int)
 |0,_,_,h=>absurd h (by decide)
 |n+1,x,h,_=>by
  rw[bA1]at h
  obtain⟨h1,h2⟩:=a37 h
  rw[J1]at h2
  obtain⟨h3,h4⟩:=bU8 h2
  have e1:(x:Int)/256=((x/256:Nat):Int):=by omega
  rw[e1]at h1
  have hn:ak7 l i n=((x/256 % 256^n:Nat):Int):=by
   cases n with
   |zero=>simp[ak7,Nat.mod_one]
   |succ n=>exact(cy0 h1 (by omega)).2
  refine⟨by omega,?_⟩
  show ak7 l i n*256+bI l (i+n)=_
  rw[hn,h4,show 256^(n+1)=256*256^n by rw[Nat.pow_succ,Nat.mul_comm],Nat.mod_mul]
  omega
theorem U9{l:List Val}{i n:Nat}{x:Int}(h:Has l i (beV x n))(h0:0≤x)(h1:x<256^n)(hn:0<n):tkS l ⟨i,false⟩ n=⟨i+n,false⟩∧tkN l ⟨i,false⟩ n=x:=by
 obtain⟨m,rfl⟩:=E1 h0
 obtain⟨h2,h3⟩:=cy0 h hn
 have hm:m<256^n:=by
  have:(m:Int)<((256^n:Nat):Int):=by rw[Int.natCast_pow];exact h1
  omega
 have hc:U8 l ⟨i,false⟩ n=true:=by simp[U8,h2]
 rw[C6 hm]at h3
 exact⟨by unfold tkS;rw[hc];rfl,by unfold tkN;rw[hc];exact h3⟩
theorem aQ8{l:List Val}{i:Nat}{x:Int}(h:Has l i (beV x 8))(hx:cQ9 x=true):tkS l ⟨i,false⟩ 8=⟨i+8,false⟩∧wI (tkN l ⟨i,false⟩ 8)= .vi x:=by
 simp only[cQ9,d6,decide_eq_true_eq]at hx
 rw[←K9 x (d8 8)]at h
 have e:(256:Int)^8=18446744073709551616:=by decide
 obtain⟨h1,h2⟩:=U9 h (by rw[aI7];omega) (by rw[aI7,e];omega) (by decide)
 refine⟨h1,?_⟩
 rw[h2]
 unfold wI
 congr 1
 rw[aI7]
 simp only[IntKind.wrap,IntKind.bits,IntKind.signed]
 simp
 omega
theorem J0(s:List UInt8):(aj5 s).length=2+s.length:=by rw[aj5,d7,s9,J1]
theorem dj6{l:List Val}{i:Nat}{s:List UInt8}(h:Has l i (aj5 s))(hs:s.length<65536):txS l ⟨i,false⟩=⟨i+(aj5 s).length,false⟩∧txV l ⟨i,false⟩=s:=by
 rw[aj5]at h
 obtain⟨h1,h2⟩:=a37 h
 rw[J1]at h2
 have e:(256:Int)^2=65536:=by decide
 obtain⟨h3,h4⟩:=U9 h1 (by omega) (by rw[e];omega) (by decide)
 obtain⟨p,h2⟩:=h2
 have h5:=congrArg List.length h2
 simp only[m8,d7,s9]at h5
 have hN:txN l ⟨i,false⟩=s.length:=by unfold txN;rw[h4];omega
 have hfit:U8 l ⟨i,false⟩ 2=true:=by
  cases hc:U8 l ⟨i,false⟩ 2 with
  |true=>rfl
  |false=>
   unfold tkS at h3
   rw[hc]at h3
   cases h3
 have h6:i+2≤l.length:=by
  simp only[U8,d6,decide_eq_true_eq]at hfit;exact hfit.2
 have ho:bg4 l ⟨i,false⟩=true:=by
  unfold bg4
  rw[hfit,hN,decide_eq_true (by show i+2+s.length≤l.length;omega)];rfl
 refine⟨?_,?_⟩
 ·unfold txS
  rw[ho,hN,J0]
  show Rd.mk (i+2+s.length) false=_
  congr 1;omega
 ·unfold txV
  rw[ho,hN]
  show((l.drop (i+2)).take s.length).map _=s
  rw[h2,G5 (by simp),B5 (by simp),v6]
  have: ∀b:UInt8,((fun r:Val=>UInt8.ofNat (r.toL.getD 0 default).toI.toNat)∘fun b:UInt8=>N4 b.toNat) b=b:=fun b=>by
   show UInt8.ofNat ((b.toNat:Int)).toNat=b
   rw[Int.toNat_natCast]
   exact UInt8.ofNat_toNat
  rw[B1 (fun b _=>this b),List.map_id']
theorem cS5{l:List Val}{i:Nat}{r:Val}(h:Has l i (R9 r))(hs:(O9 r 0).toS.length<65536)(hi:bT8 r=true):pnS l ⟨i,false⟩=⟨i+(R9 r).length,false⟩∧pnV l ⟨i,false⟩=[.vs (O9 r 0).toS,.vi (O9 r 1).toI,.vi (O9 r 2).toI]:=by
 simp only[bT8,d6]at hi
 unfold R9 at h
 obtain⟨h1,h2⟩:=a37 h
 obtain⟨h3,h4⟩:=a37 h1
 obtain⟨a1,a2⟩:=dj6 h3 hs
 obtain⟨b1,b2⟩:=aQ8 h4 hi.1
 rw[d7,J1,←n5]at h2
 obtain⟨c1,c2⟩:=aQ8 h2 hi.2
 refine⟨?_,?_⟩
 ·unfold pnS
  rw[a1,b1,c1]
  unfold R9
  rw[d7,d7,J1,J1]
  congr 1
 ·unfold pnV
  rw[a1,b1,a2,b2,c2]
theorem dj7{l:List Val}{i:Nat}{r:Val}(h:Has l i (Z7 r))(hs:(O9 r 0).toS.length<65536)(hi:d73 r=true):rwS l ⟨i,false⟩=⟨i+(Z7 r).length,false⟩∧rwV l ⟨i,false⟩=[.vs (O9 r 0).toS,.vi (O9 r 1).toI,.vi (O9 r 2).toI,.vi (O9 r 3).toI,.vi (O9 r 4).toI,.vi (O9 r 5).toI,.vi (O9 r 6).toI]:=by
 simp only[d73,d6]at hi
 obtain⟨hp,⟨⟨i3,i4⟩,i5⟩,i6⟩:=hi
 unfold Z7 at h
 obtain⟨h1,h2⟩:=a37 h
 obtain⟨a1,a2⟩:=cS5 h1 hs hp
 obtain⟨h2,g6⟩:=a37 h2
 obtain⟨h2,g5⟩:=a37 h2
 obtain⟨g3,g4⟩:=a37 h2
 rw[J1]at g4
 rw[d7,J1,J1,show i+(R9 r).length+(8+8)=i+(R9 r).length+8+8 by omega]at g5
 rw[d7,d7,J1,J1,J1,show i+(R9 r).length+(8+8+8)=i+(R9 r).length+8+8+8 by omega]at g6
 obtain⟨b1,b2⟩:=aQ8 g3 i3
 obtain⟨c1,c2⟩:=aQ8 g4 i4
 obtain⟨d1,d2⟩:=aQ8 g5 i5
 obtain⟨e1,e2⟩:=aQ8 g6 i6
 refine⟨?_,?_⟩
 ·unfold rwS
  rw[a1,b1,c1,d1,e1]
  unfold Z7
  rw[d7,d7,d7,d7,J1,J1,J1,J1]
  congr 1
 ·unfold rwV
  rw[a1,b1,c1,d1,a2,b2,c2,d2,e2];rfl
theorem c42{l:List Val}{f:Rd→Rd}{g:Rd→List Val}{W:Val→List Val}{G:Val→List Val}: ∀(rows:List Val) (i:Nat) (acc:List Val),(∀r∈rows,∀j,Has l j (W r)→f ⟨j,false⟩=⟨j+(W r).length,false⟩∧g ⟨j,false⟩=G r)→Has l i (rows.flatMap W)→
 lpR f g rows.length ⟨i,false⟩ acc=(0,⟨i+(rows.flatMap W).length,false⟩,acc++rows.map fun r=> .vl (G r))
 | [],i,acc,_,_=>by simp[lpR]
 |r::rows,i,acc,hr,h=>by
  rw[v8]at h
  obtain⟨h1,h2⟩:=a37 h
  obtain⟨k1,k2⟩:=hr r (E4 ..) i h1
  have ih:=c42 rows (i+(W r).length) (acc++[.vl (G r)]) (fun x hx=>hr x (E3 _ hx)) h2
  show lpR f g rows.length (f ⟨i,false⟩) (acc++[.vl (g ⟨i,false⟩)])=_
  rw[k1,k2,ih,v8,d7,o9,m5,n5]
  rfl
def G7(r:Val):List Val:=[.vs (O9 r 0).toS,.vi (O9 r 1).toI,.vi (O9 r 2).toI,.vi (O9 r 3).toI,.vi (O9 r 4).toI,.vi (O9 r 5).toI,.vi (O9 r 6).toI]
def G3(r:Val):List Val:=[.vs (O9 r 0).toS,.vi (O9 r 1).toI,.vi (O9 r 2).toI]
theorem aw3{l:List Val}{i n:Nat}{x:Int}{v:List Val}(h:Has l i (beV x n++v)):Has l i (beV x n)∧Has l (i+n) v:=by
 have:=a37 h
 rwa[J1]at this
theorem aT3{l:List Val}{i:Nat}{x:Int}{v:List Val}(h:Has l i ([N4 x]++v)):Has l i [N4 x]∧Has l (i+1) v:=a37 h
theorem av5{l:List Val}{i:Nat}{x:Int}(h:Has l i [N4 x]):tkS l ⟨i,false⟩ 1=⟨i+1,false⟩∧tkN l ⟨i,false⟩ 1=x:=by
 obtain⟨h1,h2⟩:=bU8 h
 have hc:U8 l ⟨i,false⟩ 1=true:=by simp[U8];omega
 exact⟨by unfold tkS;rw[hc];rfl,by unfold tkN;rw[hc];show ak7 l i 1=x;rw[dt6];exact h2⟩
theorem bU9{l:List Val}{x:Int}(h:Has l 0 [N4 x]):s1R l=⟨1,false⟩∧bI l 0=x∧ ¬l.length=0:=by
 obtain⟨h1,h2⟩:=bU8 h
 exact⟨(av5 h).1,h2,by omega⟩
theorem bf8{l:List Val}{n:Nat}{a:List Val}(h1: ¬n<l.length)(h2:K0 (K4 a)=true):a19 l ⟨n,false⟩ false a=[arg a 0,arg a 1,arg a 2,arg a 3,arg a 4,arg a 5,arg a 6,arg a 7,arg a 8,arg a 9,.vi 0,arg a 10,arg a 11]:=by
 unfold a19
 rw[decide_eq_false h1,h2];rfl
theorem bf9{l:List Val}{b0 b1 b2 b3 b4 b5 b6 b7 b8 b9 b10 b11:Val}(h:J5 l=[b0,b1,b2,b3,b4,b5,b6,b7,b8,b9,.vi 0,b10,b11]):(arg (J5 l) 10).toI=0∧prs l=[b0,b1,b2,b3,b4,b5,b6,b7,b8,b9,b10,b11]:=by
 unfold prs;rw[h];exact⟨rfl,rfl⟩
theorem bg0(v:List Val):S6 (.vl (v.map fun r=> .vl (G7 r)))=v.map aY1:=by
 show(v.map fun r=> .vl (G7 r)).map aY1=_
 rw[v6];rfl
theorem aA9(v:List Val):O6 (.vl (v.map fun r=> .vl (G3 r)))=v.map a71:=by
 show(v.map fun r=> .vl (G3 r)).map a71=_
 rw[v6];rfl
theorem cy1{v:List Val}(h:v.any S9=false)(hi:v.all d73=true)(l:List Val): ∀r∈v,∀j,Has l j (Z7 r)→rwS l ⟨j,false⟩=⟨j+(Z7 r).length,false⟩∧rwV l ⟨j,false⟩=G7 r:=by
 intro r hr j hh
 have h1:S9 r=false:=by
  simp only[z9]at h
  simpa using h r hr
 rw[a73]at h1
 exact dj7 hh (by omega) (j0.1 hi r hr)
theorem cM3{v:List Val}(h:v.any P9=false)(hi:v.all bT8=true)(l:List Val): ∀r∈v,∀j,Has l j (R9 r)→pnS l ⟨j,false⟩=⟨j+(R9 r).length,false⟩∧pnV l ⟨j,false⟩=G3 r:=by
 intro r hr j hh
 have h1:P9 r=false:=by
  simp only[z9]at h
  simpa using h r hr
 rw[X8]at h1
 exact cS5 hh (by omega) (j0.1 hi r hr)
def a49(a:List Val):Prop:=(0≤(arg a 1).toI∧(arg a 1).toI<4294967296)∧(0≤(arg a 2).toI∧(arg a 2).toI<65536)∧(0≤(arg a 4).toI∧(arg a 4).toI<18446744073709551616)∧(0≤(arg a 5).toI∧(arg a 5).toI<18446744073709551616)∧(0≤(arg a 6).toI∧(arg a 6).toI<18446744073709551616)∧(0≤(arg a 7).toI∧(arg a 7).toI<18446744073709551616)∧(0≤(arg a 8).toI∧(arg a 8).toI<18446744073709551616)∧(0≤(arg a 9).toI∧(arg a 9).toI<18446744073709551616)∧(arg a 10).toL.all d73=true∧(arg a 11).toL.all bT8=true
theorem p4{x:Int}(h:x<4294967296):x<256^4:=by rw[show(256:Int)^4=4294967296 by decide];exact h
theorem p2{x:Int}(h:x<65536):x<256^2:=by rw[show(256:Int)^2=65536 by decide];exact h
theorem p8{x:Int}(h:x<18446744073709551616):x<256^8:=by rw[show(256:Int)^8=18446744073709551616 by decide];exact h
theorem S2{a:List Val}(h:K0 (K4 a)=true):1≤(arg a 0).toI∧(arg a 0).toI≤7∧(arg a 10).toL.length+(arg a 11).toL.length≤64∧(arg a 10).toL.any S9=false∧(arg a 11).toL.any P9=false∧O4 (K4 a)=true:=by
 rw[P4]at h
 simp only[P2,d6,decide_eq_true_eq,i7]at h
 exact⟨h.1.1.1,h.1.1.2,h.2.1.1.1,h.2.1.1.2,h.2.1.2,h.2.2⟩
theorem dA9{w0 w1 w2 w3 w4 w5 w6 w7 w8 w9 w10 w11:Val}(hr:K0 (K4 [w0,w1,w2,w3,w4,w5,w6,w7,w8,w9,w10,w11])=true)(hk:w0.toI=1)(ho:a49 [w0,w1,w2,w3,w4,w5,w6,w7,w8,w9,w10,w11]):(arg (J5 (Q1 [w0,w1,w2,w3,w4,w5,w6,w7,w8,w9,w10,w11])) 10).toI=0∧K4 (prs (Q1 [w0,w1,w2,w3,w4,w5,w6,w7,w8,w9,w10,w11]))=K4 [w0,w1,w2,w3,w4,w5,w6,w7,w8,w9,w10,w11]:=by
 obtain⟨_,_,c3,c4,c5,c6⟩:=S2 hr
 have hrest:=c6
 simp[O4,K4,H9,I1,hk,S6,O6]at hrest
 have hrep:K4 [.vi 1,.vi w1.toI,.vi 0,.vb w3.toB,.vi w4.toI,.vi 0,.vi 0,.vi 0,.vi 0,.vi 0,.vl (w10.toL.map fun r=> .vl (G7 r)),.vl []]=K4 [w0,w1,w2,w3,w4,w5,w6,w7,w8,w9,w10,w11]:=by
  simp only[K4,H9,I1,RepM.mk.injEq,G9,H8,bg0,aA9]
  simp[hk,hrest,S6,O6]
 have hA:K0 (K4 [.vi 1,.vi w1.toI,.vi 0,.vb w3.toB,.vi w4.toI,.vi 0,.vi 0,.vi 0,.vi 0,.vi 0,.vl (w10.toL.map fun r=> .vl (G7 r)),.vl []])=true:=by rw[hrep];exact hr
 obtain⟨q1,q2,q4,q5,q6,q7,q8,q9,qr,qg⟩:=ho
 simp only[H9,I1]at q1 q2 q4 q5 q6 q7 q8 q9 qr qg c3 c4 c5
 obtain⟨L,hL⟩: ∃L,Q1 [w0,w1,w2,w3,w4,w5,w6,w7,w8,w9,w10,w11]=L:=⟨_,rfl⟩
 rw[hL]
 have h:=aj8 L
 have hw:L=[N4 1]++(beV w1.toI 4++(beV w4.toI 8++([N4 (if w3.toB=true then 1 else 0)]++([N4 ((w10.toL.length:Int) % 256)]++(w10.toL.flatMap Z7))))):=by
  rw[←hL]
  simp only[Q1,H9,I1,hk,(by decide: ¬((1:Int)=4)),(by decide: ¬((2:Int)=1∨(2:Int)=4)),(by decide: ¬((3:Int)=1∨(3:Int)=4)),(by decide: ¬((5:Int)=1∨(5:Int)=4)),(by decide: ¬((6:Int)=1∨(6:Int)=4)),(by decide: ¬((7:Int)=1∨(7:Int)=4)),(by decide: ¬((5:Int)=2∨(5:Int)=3)),(by decide: ¬((6:Int)=2∨(6:Int)=3)),(by decide: ¬((7:Int)=2∨(7:Int)=3)),(by decide: ¬((6:Int)=5)),(by decide: ¬((7:Int)=5)),(by decide: ¬((6:Int)=7)),true_or,or_true,if_true,if_false,u7,m5]
  rfl
 have hlen:=congrArg List.length hw
 simp only[d7,List.length_cons,List.length_nil,J1]at hlen
 have h:Has L 0 ([N4 1]++(beV w1.toI 4++(beV w4.toI 8++([N4 (if w3.toB=true then 1 else 0)]++([N4 ((w10.toL.length:Int) % 256)]++(w10.toL.flatMap Z7)))))):=by
  have h2:=h
  rw[hw]at h2
  rw[hw];exact h2
 obtain⟨h0,h⟩:=aT3 h
 obtain⟨e1,e2,e3⟩:=bU9 h0
 obtain⟨hid,h⟩:=aw3 h
 obtain⟨i1,i2⟩:=U9 hid q1.1 (p4 q1.2) (by decide)
 have i3:s2R L=⟨0+1+4,false⟩:=by unfold s2R;rw[e1];exact i1
 have i4:idV L= .vi w1.toI:=by unfold idV;rw[e1];exact congrArg Val.vi i2
 obtain⟨m0,h⟩:=aw3 h
 obtain⟨u0,v0⟩:=U9 m0 q4.1 (p8 q4.2) (by decide)
 obtain⟨m1,h⟩:=aT3 h
 obtain⟨u1,v1⟩:=av5 m1
 obtain⟨mc2,h⟩:=aT3 h
 obtain⟨uc2,vc2⟩:=av5 mc2
 have m2:=h
 have u2:=c42 w10.toL (0+1+4+8+1+1) [] (cy1 c4 qr L) m2
 have j3:s3R L=⟨0+1+4+8,false⟩:=by unfold s3R;rw[i3];exact u0
 have j4:s4R L=⟨0+1+4+8+1,false⟩:=by unfold s4R;rw[j3];exact u1
 have j5:s5R L=⟨0+1+4+8+1+1,false⟩:=by unfold s5R;rw[j4];exact uc2
 have jn:(tkN L (s4R L) 1).toNat=w10.toL.length:=by rw[j4,vc2];omega
 have jr:P6 L=(0,⟨0+1+4+8+1+1+(w10.toL.flatMap Z7).length,false⟩,w10.toL.map fun r=> .vl (G7 r)):=by
  unfold P6;rw[jn,j5];exact u2
 have jf:tkN L (s3R L) 1=if w3.toB=true then 1 else 0:=by rw[j3];exact v1
 have jo:decide (1<tkN L (s3R L) 1)=false:=by rw[jf];cases w3.toB<;>rfl
 have jl:decide (tkN L (s3R L) 1=1)=w3.toB:=by rw[jf];cases w3.toB<;>rfl
 have hp:J5 L=a19 L ⟨0+1+4+8+1+1+(w10.toL.flatMap Z7).length,false⟩ false [.vi 1,.vi w1.toI,.vi 0,.vb w3.toB,.vi w4.toI,.vi 0,.vi 0,.vi 0,.vi 0,.vi 0,.vl (w10.toL.map fun r=> .vl (G7 r)),.vl []]:=by
  rw[O0 e3 (by omega),e2]
  show a19 L (P6 L).2.1 (decide (1<tkN L (s3R L) 1)) _=_
  rw[jo,jl,jr,i3,v0,i4]
 rw[bf8 (by omega) hA]at hp
 obtain⟨g1,g2⟩:=bf9 hp
 exact⟨g1,by rw[g2];exact hrep⟩
theorem dB0{w0 w1 w2 w3 w4 w5 w6 w7 w8 w9 w10 w11:Val}(hr:K0 (K4 [w0,w1,w2,w3,w4,w5,w6,w7,w8,w9,w10,w11])=true)(hk:w0.toI=2)(ho:a49 [w0,w1,w2,w3,w4,w5,w6,w7,w8,w9,w10,w11]):(arg (J5 (Q1 [w0,w1,w2,w3,w4,w5,w6,w7,w8,w9,w10,w11])) 10).toI=0∧K4 (prs (Q1 [w0,w1,w2,w3,w4,w5,w6,w7,w8,w9,w10,w11]))=K4 [w0,w1,w2,w3,w4,w5,w6,w7,w8,w9,w10,w11]:=by
 obtain⟨_,_,c3,c4,c5,c6⟩:=S2 hr
 have hrest:=c6
 simp[O4,K4,H9,I1,hk,S6,O6]at hrest
 have hrep:K4 [.vi 2,.vi w1.toI,.vi 0,.vb false,.vi w4.toI,.vi 0,.vi w6.toI,.vi w7.toI,.vi 0,.vi 0,.vl [],.vl []]=K4 [w0,w1,w2,w3,w4,w5,w6,w7,w8,w9,w10,w11]:=by
  simp only[K4,H9,I1,RepM.mk.injEq,G9,H8,bg0,aA9]
  simp[hk,hrest,S6,O6]
 have hA:K0 (K4 [.vi 2,.vi w1.toI,.vi 0,.vb false,.vi w4.toI,.vi 0,.vi w6.toI,.vi w7.toI,.vi 0,.vi 0,.vl [],.vl []])=true:=by rw[hrep];exact hr
 obtain⟨q1,q2,q4,q5,q6,q7,q8,q9,qr,qg⟩:=ho
 simp only[H9,I1]at q1 q2 q4 q5 q6 q7 q8 q9 qr qg c3 c4 c5
 obtain⟨L,hL⟩: ∃L,Q1 [w0,w1,w2,w3,w4,w5,w6,w7,w8,w9,w10,w11]=L:=⟨_,rfl⟩
 rw[hL]
 have h:=aj8 L
 have hw:L=[N4 2]++(beV w1.toI 4++(beV w7.toI 8++(beV w4.toI 8++(beV w6.toI 8)))):=by
  rw[←hL]
  simp only[Q1,H9,I1,hk,(by decide: ¬((1:Int)=4)),(by decide: ¬((2:Int)=1∨(2:Int)=4)),(by decide: ¬((3:Int)=1∨(3:Int)=4)),(by decide: ¬((5:Int)=1∨(5:Int)=4)),(by decide: ¬((6:Int)=1∨(6:Int)=4)),(by decide: ¬((7:Int)=1∨(7:Int)=4)),(by decide: ¬((5:Int)=2∨(5:Int)=3)),(by decide: ¬((6:Int)=2∨(6:Int)=3)),(by decide: ¬((7:Int)=2∨(7:Int)=3)),(by decide: ¬((6:Int)=5)),(by decide: ¬((7:Int)=5)),(by decide: ¬((6:Int)=7)),true_or,or_true,if_true,if_false,u7,m5]
 have hlen:=congrArg List.length hw
 simp only[d7,List.length_cons,List.length_nil,J1]at hlen
 have h:Has L 0 ([N4 2]++(beV w1.toI 4++(beV w7.toI 8++(beV w4.toI 8++(beV w6.toI 8))))):=by
  have h2:=h
  rw[hw]at h2
  rw[hw];exact h2
 obtain⟨h0,h⟩:=aT3 h
 obtain⟨e1,e2,e3⟩:=bU9 h0
 obtain⟨hid,h⟩:=aw3 h
 obtain⟨i1,i2⟩:=U9 hid q1.1 (p4 q1.2) (by decide)
 have i3:s2R L=⟨0+1+4,false⟩:=by unfold s2R;rw[e1];exact i1
 have i4:idV L= .vi w1.toI:=by unfold idV;rw[e1];exact congrArg Val.vi i2
 obtain⟨m0,h⟩:=aw3 h
 obtain⟨u0,v0⟩:=U9 m0 q7.1 (p8 q7.2) (by decide)
 obtain⟨m1,h⟩:=aw3 h
 obtain⟨u1,v1⟩:=U9 m1 q4.1 (p8 q4.2) (by decide)
 have m2:=h
 obtain⟨u2,v2⟩:=U9 m2 q6.1 (p8 q6.2) (by decide)
 have hp:J5 L=a19 L ⟨0+1+4+8+8+8,false⟩ false [.vi 2,.vi w1.toI,.vi 0,.vb false,.vi w4.toI,.vi 0,.vi w6.toI,.vi w7.toI,.vi 0,.vi 0,.vl [],.vl []]:=by
  rw[O0 e3 (by omega),e2]
  rw[show T9 L 2=a19 L (tkS L (tkS L (tkS L (s2R L) 8) 8) 8) false [.vi 2,idV L,.vi 0,.vb false,.vi (tkN L (tkS L (s2R L) 8) 8),.vi 0,.vi (tkN L (tkS L (tkS L (s2R L) 8) 8) 8),.vi (tkN L (s2R L) 8),.vi 0,.vi 0,.vl [],.vl []]from rfl]
  simp only[i3,i4,u0,v0,u1,v1,u2,v2]
 rw[bf8 (by omega) hA]at hp
 obtain⟨g1,g2⟩:=bf9 hp
 exact⟨g1,by rw[g2];exact hrep⟩
theorem dB1{w0 w1 w2 w3 w4 w5 w6 w7 w8 w9 w10 w11:Val}(hr:K0 (K4 [w0,w1,w2,w3,w4,w5,w6,w7,w8,w9,w10,w11])=true)(hk:w0.toI=3)(ho:a49 [w0,w1,w2,w3,w4,w5,w6,w7,w8,w9,w10,w11]):(arg (J5 (Q1 [w0,w1,w2,w3,w4,w5,w6,w7,w8,w9,w10,w11])) 10).toI=0∧K4 (prs (Q1 [w0,w1,w2,w3,w4,w5,w6,w7,w8,w9,w10,w11]))=K4 [w0,w1,w2,w3,w4,w5,w6,w7,w8,w9,w10,w11]:=by
 obtain⟨_,_,c3,c4,c5,c6⟩:=S2 hr
 have hrest:=c6
 simp[O4,K4,H9,I1,hk,S6,O6]at hrest
 have hrep:K4 [.vi 3,.vi w1.toI,.vi 0,.vb false,.vi w4.toI,.vi 0,.vi w6.toI,.vi w7.toI,.vi 0,.vi 0,.vl [],.vl []]=K4 [w0,w1,w2,w3,w4,w5,w6,w7,w8,w9,w10,w11]:=by
  simp only[K4,H9,I1,RepM.mk.injEq,G9,H8,bg0,aA9]
  simp[hk,hrest,S6,O6]
 have hA:K0 (K4 [.vi 3,.vi w1.toI,.vi 0,.vb false,.vi w4.toI,.vi 0,.vi w6.toI,.vi w7.toI,.vi 0,.vi 0,.vl [],.vl []])=true:=by rw[hrep];exact hr
 obtain⟨q1,q2,q4,q5,q6,q7,q8,q9,qr,qg⟩:=ho
 simp only[H9,I1]at q1 q2 q4 q5 q6 q7 q8 q9 qr qg c3 c4 c5
 obtain⟨L,hL⟩: ∃L,Q1 [w0,w1,w2,w3,w4,w5,w6,w7,w8,w9,w10,w11]=L:=⟨_,rfl⟩
 rw[hL]
 have h:=aj8 L
 have hw:L=[N4 3]++(beV w1.toI 4++(beV w7.toI 8++(beV w4.toI 8++(beV w6.toI 8)))):=by
  rw[←hL]
  simp only[Q1,H9,I1,hk,(by decide: ¬((1:Int)=4)),(by decide: ¬((2:Int)=1∨(2:Int)=4)),(by decide: ¬((3:Int)=1∨(3:Int)=4)),(by decide: ¬((5:Int)=1∨(5:Int)=4)),(by decide: ¬((6:Int)=1∨(6:Int)=4)),(by decide: ¬((7:Int)=1∨(7:Int)=4)),(by decide: ¬((5:Int)=2∨(5:Int)=3)),(by decide: ¬((6:Int)=2∨(6:Int)=3)),(by decide: ¬((7:Int)=2∨(7:Int)=3)),(by decide: ¬((6:Int)=5)),(by decide: ¬((7:Int)=5)),(by decide: ¬((6:Int)=7)),true_or,or_true,if_true,if_false,u7,m5]
 have hlen:=congrArg List.length hw
 simp only[d7,List.length_cons,List.length_nil,J1]at hlen
 have h:Has L 0 ([N4 3]++(beV w1.toI 4++(beV w7.toI 8++(beV w4.toI 8++(beV w6.toI 8))))):=by
  have h2:=h
  rw[hw]at h2
  rw[hw];exact h2
 obtain⟨h0,h⟩:=aT3 h
 obtain⟨e1,e2,e3⟩:=bU9 h0
 obtain⟨hid,h⟩:=aw3 h
 obtain⟨i1,i2⟩:=U9 hid q1.1 (p4 q1.2) (by decide)
 have i3:s2R L=⟨0+1+4,false⟩:=by unfold s2R;rw[e1];exact i1
 have i4:idV L= .vi w1.toI:=by unfold idV;rw[e1];exact congrArg Val.vi i2
 obtain⟨m0,h⟩:=aw3 h
 obtain⟨u0,v0⟩:=U9 m0 q7.1 (p8 q7.2) (by decide)
 obtain⟨m1,h⟩:=aw3 h
 obtain⟨u1,v1⟩:=U9 m1 q4.1 (p8 q4.2) (by decide)
 have m2:=h
 obtain⟨u2,v2⟩:=U9 m2 q6.1 (p8 q6.2) (by decide)
 have hp:J5 L=a19 L ⟨0+1+4+8+8+8,false⟩ false [.vi 3,.vi w1.toI,.vi 0,.vb false,.vi w4.toI,.vi 0,.vi w6.toI,.vi w7.toI,.vi 0,.vi 0,.vl [],.vl []]:=by
  rw[O0 e3 (by omega),e2]
  rw[show T9 L 3=a19 L (tkS L (tkS L (tkS L (s2R L) 8) 8) 8) false [.vi 3,idV L,.vi 0,.vb false,.vi (tkN L (tkS L (s2R L) 8) 8),.vi 0,.vi (tkN L (tkS L (tkS L (s2R L) 8) 8) 8),.vi (tkN L (s2R L) 8),.vi 0,.vi 0,.vl [],.vl []]from rfl]
  simp only[i3,i4,u0,v0,u1,v1,u2,v2]
 rw[bf8 (by omega) hA]at hp
 obtain⟨g1,g2⟩:=bf9 hp
 exact⟨g1,by rw[g2];exact hrep⟩
theorem dB2{w0 w1 w2 w3 w4 w5 w6 w7 w8 w9 w10 w11:Val}(hr:K0 (K4 [w0,w1,w2,w3,w4,w5,w6,w7,w8,w9,w10,w11])=true)(hk:w0.toI=4)(ho:a49 [w0,w1,w2,w3,w4,w5,w6,w7,w8,w9,w10,w11]):(arg (J5 (Q1 [w0,w1,w2,w3,w4,w5,w6,w7,w8,w9,w10,w11])) 10).toI=0∧K4 (prs (Q1 [w0,w1,w2,w3,w4,w5,w6,w7,w8,w9,w10,w11]))=K4 [w0,w1,w2,w3,w4,w5,w6,w7,w8,w9,w10,w11]:=by
 obtain⟨_,_,c3,c4,c5,c6⟩:=S2 hr
 have hrest:=c6
 simp[O4,K4,H9,I1,hk,S6,O6]at hrest
 have hrep:K4 [.vi 4,.vi w1.toI,.vi 0,.vb w3.toB,.vi w4.toI,.vi 0,.vi 0,.vi 0,.vi 0,.vi 0,.vl (w10.toL.map fun r=> .vl (G7 r)),.vl (w11.toL.map fun r=> .vl (G3 r))]=K4 [w0,w1,w2,w3,w4,w5,w6,w7,w8,w9,w10,w11]:=by
  simp only[K4,H9,I1,RepM.mk.injEq,G9,H8,bg0,aA9]
  simp[hk,hrest,S6,O6]
 have hA:K0 (K4 [.vi 4,.vi w1.toI,.vi 0,.vb w3.toB,.vi w4.toI,.vi 0,.vi 0,.vi 0,.vi 0,.vi 0,.vl (w10.toL.map fun r=> .vl (G7 r)),.vl (w11.toL.map fun r=> .vl (G3 r))])=true:=by rw[hrep];exact hr
 obtain⟨q1,q2,q4,q5,q6,q7,q8,q9,qr,qg⟩:=ho
 simp only[H9,I1]at q1 q2 q4 q5 q6 q7 q8 q9 qr qg c3 c4 c5
 obtain⟨L,hL⟩: ∃L,Q1 [w0,w1,w2,w3,w4,w5,w6,w7,w8,w9,w10,w11]=L:=⟨_,rfl⟩
 rw[hL]
 have h:=aj8 L
 have hw:L=[N4 4]++(beV w1.toI 4++(beV w4.toI 8++([N4 (if w3.toB=true then 1 else 0)]++([N4 ((w10.toL.length:Int) % 256)]++(w10.toL.flatMap Z7++([N4 ((w11.toL.length:Int) % 256)]++(w11.toL.flatMap R9))))))):=by
  rw[←hL]
  simp only[Q1,H9,I1,hk,(by decide: ¬((1:Int)=4)),(by decide: ¬((2:Int)=1∨(2:Int)=4)),(by decide: ¬((3:Int)=1∨(3:Int)=4)),(by decide: ¬((5:Int)=1∨(5:Int)=4)),(by decide: ¬((6:Int)=1∨(6:Int)=4)),(by decide: ¬((7:Int)=1∨(7:Int)=4)),(by decide: ¬((5:Int)=2∨(5:Int)=3)),(by decide: ¬((6:Int)=2∨(6:Int)=3)),(by decide: ¬((7:Int)=2∨(7:Int)=3)),(by decide: ¬((6:Int)=5)),(by decide: ¬((7:Int)=5)),(by decide: ¬((6:Int)=7)),true_or,or_true,if_true,if_false,u7,m5]
  rfl
 have hlen:=congrArg List.length hw
 simp only[d7,List.length_cons,List.length_nil,J1]at hlen
 have h:Has L 0 ([N4 4]++(beV w1.toI 4++(beV w4.toI 8++([N4 (if w3.toB=true then 1 else 0)]++([N4 ((w10.toL.length:Int) % 256)]++(w10.toL.flatMap Z7++([N4 ((w11.toL.length:Int) % 256)]++(w11.toL.flatMap R9)))))))):=by
  have h2:=h
  rw[hw]at h2
  rw[hw];exact h2
 obtain⟨h0,h⟩:=aT3 h
 obtain⟨e1,e2,e3⟩:=bU9 h0
 obtain⟨hid,h⟩:=aw3 h
 obtain⟨i1,i2⟩:=U9 hid q1.1 (p4 q1.2) (by decide)
 have i3:s2R L=⟨0+1+4,false⟩:=by unfold s2R;rw[e1];exact i1
 have i4:idV L= .vi w1.toI:=by unfold idV;rw[e1];exact congrArg Val.vi i2
 obtain⟨m0,h⟩:=aw3 h
 obtain⟨u0,v0⟩:=U9 m0 q4.1 (p8 q4.2) (by decide)
 obtain⟨m1,h⟩:=aT3 h
 obtain⟨u1,v1⟩:=av5 m1
 obtain⟨mc2,h⟩:=aT3 h
 obtain⟨uc2,vc2⟩:=av5 mc2
 obtain⟨m2,h⟩:=a37 h
 have u2:=c42 w10.toL (0+1+4+8+1+1) [] (cy1 c4 qr L) m2
 obtain⟨mc3,h⟩:=aT3 h
 obtain⟨uc3,vc3⟩:=av5 mc3
 have m3:=h
 have u3:=c42 w11.toL (0+1+4+8+1+1+(w10.toL.flatMap Z7).length+1) [] (cM3 c5 qg L) m3
 have j3:s3R L=⟨0+1+4+8,false⟩:=by unfold s3R;rw[i3];exact u0
 have j4:s4R L=⟨0+1+4+8+1,false⟩:=by unfold s4R;rw[j3];exact u1
 have j5:s5R L=⟨0+1+4+8+1+1,false⟩:=by unfold s5R;rw[j4];exact uc2
 have jn:(tkN L (s4R L) 1).toNat=w10.toL.length:=by rw[j4,vc2];omega
 have jr:P6 L=(0,⟨0+1+4+8+1+1+(w10.toL.flatMap Z7).length,false⟩,w10.toL.map fun r=> .vl (G7 r)):=by
  unfold P6;rw[jn,j5];exact u2
 have jf:tkN L (s3R L) 1=if w3.toB=true then 1 else 0:=by rw[j3];exact v1
 have jo:decide (1<tkN L (s3R L) 1)=false:=by rw[jf];cases w3.toB<;>rfl
 have jl:decide (tkN L (s3R L) 1=1)=w3.toB:=by rw[jf];cases w3.toB<;>rfl
 have j6:s6R L=⟨0+1+4+8+1+1+(w10.toL.flatMap Z7).length+1,false⟩:=by unfold s6R;rw[jr];exact uc3
 have jm:(tkN L (P6 L).2.1 1).toNat=w11.toL.length:=by rw[jr];show(tkN L ⟨_,false⟩ 1).toNat=_;rw[vc3];omega
 have jg:X4 L=(0,⟨0+1+4+8+1+1+(w10.toL.flatMap Z7).length+1+(w11.toL.flatMap R9).length,false⟩,w11.toL.map fun r=> .vl (G3 r)):=by
  unfold X4;rw[jm,j6];exact u3
 have hp:J5 L=a19 L ⟨0+1+4+8+1+1+(w10.toL.flatMap Z7).length+1+(w11.toL.flatMap R9).length,false⟩ false [.vi 4,.vi w1.toI,.vi 0,.vb w3.toB,.vi w4.toI,.vi 0,.vi 0,.vi 0,.vi 0,.vi 0,.vl (w10.toL.map fun r=> .vl (G7 r)),.vl (w11.toL.map fun r=> .vl (G3 r))]:=by
  rw[O0 e3 (by omega),e2]
  show a19 L (X4 L).2.1 (decide (1<tkN L (s3R L) 1)) _=_
  rw[jo,jl,jr,jg,i3,v0,i4]
 rw[bf8 (by omega) hA]at hp
 obtain⟨g1,g2⟩:=bf9 hp
 exact⟨g1,by rw[g2];exact hrep⟩
theorem dB3{w0 w1 w2 w3 w4 w5 w6 w7 w8 w9 w10 w11:Val}(hr:K0 (K4 [w0,w1,w2,w3,w4,w5,w6,w7,w8,w9,w10,w11])=true)(hk:w0.toI=5)(ho:a49 [w0,w1,w2,w3,w4,w5,w6,w7,w8,w9,w10,w11]):(arg (J5 (Q1 [w0,w1,w2,w3,w4,w5,w6,w7,w8,w9,w10,w11])) 10).toI=0∧K4 (prs (Q1 [w0,w1,w2,w3,w4,w5,w6,w7,w8,w9,w10,w11]))=K4 [w0,w1,w2,w3,w4,w5,w6,w7,w8,w9,w10,w11]:=by
 obtain⟨_,_,c3,c4,c5,c6⟩:=S2 hr
 have hrest:=c6
 simp[O4,K4,H9,I1,hk,S6,O6]at hrest
 have hrep:K4 [.vi 5,.vi w1.toI,.vi 0,.vb false,.vi w4.toI,.vi w5.toI,.vi 0,.vi 0,.vi w8.toI,.vi w9.toI,.vl [],.vl []]=K4 [w0,w1,w2,w3,w4,w5,w6,w7,w8,w9,w10,w11]:=by
  simp only[K4,H9,I1,RepM.mk.injEq,G9,H8,bg0,aA9]
  simp[hk,hrest,S6,O6]
 have hA:K0 (K4 [.vi 5,.vi w1.toI,.vi 0,.vb false,.vi w4.toI,.vi w5.toI,.vi 0,.vi 0,.vi w8.toI,.vi w9.toI,.vl [],.vl []])=true:=by rw[hrep];exact hr
 obtain⟨q1,q2,q4,q5,q6,q7,q8,q9,qr,qg⟩:=ho
 simp only[H9,I1]at q1 q2 q4 q5 q6 q7 q8 q9 qr qg c3 c4 c5
 obtain⟨L,hL⟩: ∃L,Q1 [w0,w1,w2,w3,w4,w5,w6,w7,w8,w9,w10,w11]=L:=⟨_,rfl⟩
 rw[hL]
 have h:=aj8 L
 have hw:L=[N4 5]++(beV w1.toI 4++(beV w4.toI 8++(beV w5.toI 8++(beV w8.toI 8++(beV w9.toI 8))))):=by
  rw[←hL]
  simp only[Q1,H9,I1,hk,(by decide: ¬((1:Int)=4)),(by decide: ¬((2:Int)=1∨(2:Int)=4)),(by decide: ¬((3:Int)=1∨(3:Int)=4)),(by decide: ¬((5:Int)=1∨(5:Int)=4)),(by decide: ¬((6:Int)=1∨(6:Int)=4)),(by decide: ¬((7:Int)=1∨(7:Int)=4)),(by decide: ¬((5:Int)=2∨(5:Int)=3)),(by decide: ¬((6:Int)=2∨(6:Int)=3)),(by decide: ¬((7:Int)=2∨(7:Int)=3)),(by decide: ¬((6:Int)=5)),(by decide: ¬((7:Int)=5)),(by decide: ¬((6:Int)=7)),true_or,or_true,if_true,if_false,u7,m5]
 have hlen:=congrArg List.length hw
 simp only[d7,List.length_cons,List.length_nil,J1]at hlen
 have h:Has L 0 ([N4 5]++(beV w1.toI 4++(beV w4.toI 8++(beV w5.toI 8++(beV w8.toI 8++(beV w9.toI 8)))))):=by
  have h2:=h
  rw[hw]at h2
  rw[hw];exact h2
 obtain⟨h0,h⟩:=aT3 h
 obtain⟨e1,e2,e3⟩:=bU9 h0
 obtain⟨hid,h⟩:=aw3 h
 obtain⟨i1,i2⟩:=U9 hid q1.1 (p4 q1.2) (by decide)
 have i3:s2R L=⟨0+1+4,false⟩:=by unfold s2R;rw[e1];exact i1
 have i4:idV L= .vi w1.toI:=by unfold idV;rw[e1];exact congrArg Val.vi i2
 obtain⟨m0,h⟩:=aw3 h
 obtain⟨u0,v0⟩:=U9 m0 q4.1 (p8 q4.2) (by decide)
 obtain⟨m1,h⟩:=aw3 h
 obtain⟨u1,v1⟩:=U9 m1 q5.1 (p8 q5.2) (by decide)
 obtain⟨m2,h⟩:=aw3 h
 obtain⟨u2,v2⟩:=U9 m2 q8.1 (p8 q8.2) (by decide)
 have m3:=h
 obtain⟨u3,v3⟩:=U9 m3 q9.1 (p8 q9.2) (by decide)
 have hp:J5 L=a19 L ⟨0+1+4+8+8+8+8,false⟩ false [.vi 5,.vi w1.toI,.vi 0,.vb false,.vi w4.toI,.vi w5.toI,.vi 0,.vi 0,.vi w8.toI,.vi w9.toI,.vl [],.vl []]:=by
  rw[O0 e3 (by omega),e2]
  rw[show T9 L 5=a19 L (tkS L (tkS L (tkS L (tkS L (s2R L) 8) 8) 8) 8) false [.vi 5,idV L,.vi 0,.vb false,.vi (tkN L (s2R L) 8),.vi (tkN L (tkS L (s2R L) 8) 8),.vi 0,.vi 0,.vi (tkN L (tkS L (tkS L (s2R L) 8) 8) 8),.vi (tkN L (tkS L (tkS L (tkS L (s2R L) 8) 8) 8) 8),.vl [],.vl []]from rfl]
  simp only[i3,i4,u0,v0,u1,v1,u2,v2,u3,v3]
 rw[bf8 (by omega) hA]at hp
 obtain⟨g1,g2⟩:=bf9 hp
 exact⟨g1,by rw[g2];exact hrep⟩
theorem dB4{w0 w1 w2 w3 w4 w5 w6 w7 w8 w9 w10 w11:Val}(hr:K0 (K4 [w0,w1,w2,w3,w4,w5,w6,w7,w8,w9,w10,w11])=true)(hk:w0.toI=6)(ho:a49 [w0,w1,w2,w3,w4,w5,w6,w7,w8,w9,w10,w11]):(arg (J5 (Q1 [w0,w1,w2,w3,w4,w5,w6,w7,w8,w9,w10,w11])) 10).toI=0∧K4 (prs (Q1 [w0,w1,w2,w3,w4,w5,w6,w7,w8,w9,w10,w11]))=K4 [w0,w1,w2,w3,w4,w5,w6,w7,w8,w9,w10,w11]:=by
 obtain⟨_,_,c3,c4,c5,c6⟩:=S2 hr
 have hrest:=c6
 simp[O4,K4,H9,I1,hk,S6,O6]at hrest
 have hrep:K4 [.vi 6,.vi w1.toI,.vi 0,.vb false,.vi 0,.vi 0,.vi 0,.vi 0,.vi 0,.vi 0,.vl [],.vl []]=K4 [w0,w1,w2,w3,w4,w5,w6,w7,w8,w9,w10,w11]:=by
  simp only[K4,H9,I1,RepM.mk.injEq,G9,H8,bg0,aA9]
  simp[hk,hrest,S6,O6]
 have hA:K0 (K4 [.vi 6,.vi w1.toI,.vi 0,.vb false,.vi 0,.vi 0,.vi 0,.vi 0,.vi 0,.vi 0,.vl [],.vl []])=true:=by rw[hrep];exact hr
 obtain⟨q1,q2,q4,q5,q6,q7,q8,q9,qr,qg⟩:=ho
 simp only[H9,I1]at q1 q2 q4 q5 q6 q7 q8 q9 qr qg c3 c4 c5
 obtain⟨L,hL⟩: ∃L,Q1 [w0,w1,w2,w3,w4,w5,w6,w7,w8,w9,w10,w11]=L:=⟨_,rfl⟩
 rw[hL]
 have h:=aj8 L
 have hw:L=[N4 6]++(beV w1.toI 4):=by
  rw[←hL]
  simp only[Q1,H9,I1,hk,(by decide: ¬((1:Int)=4)),(by decide: ¬((2:Int)=1∨(2:Int)=4)),(by decide: ¬((3:Int)=1∨(3:Int)=4)),(by decide: ¬((5:Int)=1∨(5:Int)=4)),(by decide: ¬((6:Int)=1∨(6:Int)=4)),(by decide: ¬((7:Int)=1∨(7:Int)=4)),(by decide: ¬((5:Int)=2∨(5:Int)=3)),(by decide: ¬((6:Int)=2∨(6:Int)=3)),(by decide: ¬((7:Int)=2∨(7:Int)=3)),(by decide: ¬((6:Int)=5)),(by decide: ¬((7:Int)=5)),(by decide: ¬((6:Int)=7)),true_or,or_true,if_true,if_false,u7,m5]
 have hlen:=congrArg List.length hw
 simp only[d7,List.length_cons,List.length_nil,J1]at hlen
 have h:Has L 0 ([N4 6]++(beV w1.toI 4)):=by
  have h2:=h
  rw[hw]at h2
  rw[hw];exact h2
 obtain⟨h0,h⟩:=aT3 h
 obtain⟨e1,e2,e3⟩:=bU9 h0
 have hid:=h
 obtain⟨i1,i2⟩:=U9 hid q1.1 (p4 q1.2) (by decide)
 have i3:s2R L=⟨0+1+4,false⟩:=by unfold s2R;rw[e1];exact i1
 have i4:idV L= .vi w1.toI:=by unfold idV;rw[e1];exact congrArg Val.vi i2
 have hp:J5 L=a19 L ⟨0+1+4,false⟩ false [.vi 6,.vi w1.toI,.vi 0,.vb false,.vi 0,.vi 0,.vi 0,.vi 0,.vi 0,.vi 0,.vl [],.vl []]:=by
  rw[O0 e3 (by omega),e2]
  rw[show T9 L 6=a19 L (s2R L) false [.vi 6,idV L,.vi 0,.vb false,.vi 0,.vi 0,.vi 0,.vi 0,.vi 0,.vi 0,.vl [],.vl []]from rfl]
  simp only[i3,i4]
 rw[bf8 (by omega) hA]at hp
 obtain⟨g1,g2⟩:=bf9 hp
 exact⟨g1,by rw[g2];exact hrep⟩
theorem dB5{w0 w1 w2 w3 w4 w5 w6 w7 w8 w9 w10 w11:Val}(hr:K0 (K4 [w0,w1,w2,w3,w4,w5,w6,w7,w8,w9,w10,w11])=true)(hk:w0.toI=7)(ho:a49 [w0,w1,w2,w3,w4,w5,w6,w7,w8,w9,w10,w11]):(arg (J5 (Q1 [w0,w1,w2,w3,w4,w5,w6,w7,w8,w9,w10,w11])) 10).toI=0∧K4 (prs (Q1 [w0,w1,w2,w3,w4,w5,w6,w7,w8,w9,w10,w11]))=K4 [w0,w1,w2,w3,w4,w5,w6,w7,w8,w9,w10,w11]:=by
 obtain⟨_,_,c3,c4,c5,c6⟩:=S2 hr
 have hrest:=c6
 simp[O4,K4,H9,I1,hk,S6,O6]at hrest
 have hrep:K4 [.vi 7,.vi w1.toI,.vi w2.toI,.vb false,.vi 0,.vi w5.toI,.vi 0,.vi 0,.vi 0,.vi 0,.vl [],.vl []]=K4 [w0,w1,w2,w3,w4,w5,w6,w7,w8,w9,w10,w11]:=by
  simp only[K4,H9,I1,RepM.mk.injEq,G9,H8,bg0,aA9]
  simp[hk,hrest,S6,O6]
 have hA:K0 (K4 [.vi 7,.vi w1.toI,.vi w2.toI,.vb false,.vi 0,.vi w5.toI,.vi 0,.vi 0,.vi 0,.vi 0,.vl [],.vl []])=true:=by rw[hrep];exact hr
 obtain⟨q1,q2,q4,q5,q6,q7,q8,q9,qr,qg⟩:=ho
 simp only[H9,I1]at q1 q2 q4 q5 q6 q7 q8 q9 qr qg c3 c4 c5
 obtain⟨L,hL⟩: ∃L,Q1 [w0,w1,w2,w3,w4,w5,w6,w7,w8,w9,w10,w11]=L:=⟨_,rfl⟩
 rw[hL]
 have h:=aj8 L
 have hw:L=[N4 7]++(beV w1.toI 4++(beV w2.toI 2++(beV w5.toI 8))):=by
  rw[←hL]
  simp only[Q1,H9,I1,hk,(by decide: ¬((1:Int)=4)),(by decide: ¬((2:Int)=1∨(2:Int)=4)),(by decide: ¬((3:Int)=1∨(3:Int)=4)),(by decide: ¬((5:Int)=1∨(5:Int)=4)),(by decide: ¬((6:Int)=1∨(6:Int)=4)),(by decide: ¬((7:Int)=1∨(7:Int)=4)),(by decide: ¬((5:Int)=2∨(5:Int)=3)),(by decide: ¬((6:Int)=2∨(6:Int)=3)),(by decide: ¬((7:Int)=2∨(7:Int)=3)),(by decide: ¬((6:Int)=5)),(by decide: ¬((7:Int)=5)),(by decide: ¬((6:Int)=7)),true_or,or_true,if_true,if_false,u7,m5]
 have hlen:=congrArg List.length hw
 simp only[d7,List.length_cons,List.length_nil,J1]at hlen
 have h:Has L 0 ([N4 7]++(beV w1.toI 4++(beV w2.toI 2++(beV w5.toI 8)))):=by
  have h2:=h
  rw[hw]at h2
  rw[hw];exact h2
 obtain⟨h0,h⟩:=aT3 h
 obtain⟨e1,e2,e3⟩:=bU9 h0
 obtain⟨hid,h⟩:=aw3 h
 obtain⟨i1,i2⟩:=U9 hid q1.1 (p4 q1.2) (by decide)
 have i3:s2R L=⟨0+1+4,false⟩:=by unfold s2R;rw[e1];exact i1
 have i4:idV L= .vi w1.toI:=by unfold idV;rw[e1];exact congrArg Val.vi i2
 obtain⟨m0,h⟩:=aw3 h
 obtain⟨u0,v0⟩:=U9 m0 q2.1 (p2 q2.2) (by decide)
 have m1:=h
 obtain⟨u1,v1⟩:=U9 m1 q5.1 (p8 q5.2) (by decide)
 have hp:J5 L=a19 L ⟨0+1+4+2+8,false⟩ false [.vi 7,.vi w1.toI,.vi w2.toI,.vb false,.vi 0,.vi w5.toI,.vi 0,.vi 0,.vi 0,.vi 0,.vl [],.vl []]:=by
  rw[O0 e3 (by omega),e2]
  rw[show T9 L 7=a19 L (tkS L (tkS L (s2R L) 2) 8) false [.vi 7,idV L,.vi (tkN L (s2R L) 2),.vb false,.vi 0,.vi (tkN L (tkS L (s2R L) 2) 8),.vi 0,.vi 0,.vi 0,.vi 0,.vl [],.vl []]from rfl]
  simp only[i3,i4,u0,v0,u1,v1]
 rw[bf8 (by omega) hA]at hp
 obtain⟨g1,g2⟩:=bf9 hp
 exact⟨g1,by rw[g2];exact hrep⟩
theorem fwd{w0 w1 w2 w3 w4 w5 w6 w7 w8 w9 w10 w11:Val}(hr:K0 (K4 [w0,w1,w2,w3,w4,w5,w6,w7,w8,w9,w10,w11])=true)(ho:a49 [w0,w1,w2,w3,w4,w5,w6,w7,w8,w9,w10,w11]):(arg (J5 (Q1 [w0,w1,w2,w3,w4,w5,w6,w7,w8,w9,w10,w11])) 10).toI=0∧K4 (prs (Q1 [w0,w1,w2,w3,w4,w5,w6,w7,w8,w9,w10,w11]))=K4 [w0,w1,w2,w3,w4,w5,w6,w7,w8,w9,w10,w11]:=by
 obtain⟨k1,k2,_⟩:=S2 hr
 simp only[H9]at k1 k2
 have:w0.toI=1∨w0.toI=2∨w0.toI=3∨w0.toI=4∨w0.toI=5∨w0.toI=6∨w0.toI=7:=by omega
 rcases this with k|k|k|k|k|k|k
 ·exact dA9 hr k ho
 ·exact dB0 hr k ho
 ·exact dB1 hr k ho
 ·exact dB2 hr k ho
 ·exact dB3 hr k ho
 ·exact dB4 hr k ho
 ·exact dB5 hr k ho
theorem cy2{ω:Opq}(hf: ∀i a,ω.f i a=F i a)(hn:(ω.w 0).toL.length≤1000):G6 aH4 ω=some (0,[F 1 [ω.w 0]]):=by
 unfold aH4
 simp only[G6,J8,I9,den,dB,K1,List.cons_append,List.nil_append]
 rw[O5 (bad:=fun i=>aP9 (atV (ω.w 0).toL i)) (px:=fun k=>[.vb false,.vi k]) (n:=(ω.w 0).toL.length)]
 ·simp only[hf,F,H9,I1,N5,N2]
  cases h:(ω.w 0).toL.any aP9<;>simp[J8,G6,h,den,I9,K1,X2,P3,hf,F,N5,H9,I1]
 ·intro i hi hb
  simp[hi,K5,K3 (show i≤10000000 by omega),aP9,aV0,atV,O9]at hb⊢
  omega
 ·intro i hi hb
  simp[hi,K5,aP9,aV0,atV,O9]at hb⊢
  omega
 ·simp[K5]
theorem dv3{ω:Opq}(hf: ∀i a,ω.f i a=F i a)(hn:(ω.w 0).toL.length≤1000):G6 cJ5 ω=some (0,[F 2 [ω.w 0]]):=by
 unfold cJ5
 simp only[G6,J8,I9,den,dB,K1,List.cons_append,List.nil_append]
 rw[O5 (bad:=fun i=>aP9 (atV (ω.w 0).toL i)) (px:=fun k=>[.vb false,.vi k]) (n:=(ω.w 0).toL.length)]
 ·simp only[hf,F,H9,I1,N5,N2]
  cases h:(ω.w 0).toL.any aP9<;>simp[J8,G6,h,den,I9,K1,X2,P3,hf,F,N5,H9,I1]
 ·intro i hi hb
  simp[hi,K5,K3 (show i≤10000000 by omega),aP9,aV0,atV,O9]at hb⊢
  omega
 ·intro i hi hb
  simp[hi,K5,aP9,aV0,atV,O9]at hb⊢
  omega
 ·simp[K5]
theorem dv4{ω:Opq}:G6 cJ1 ω=some (0,[F 20 [ω.w 0,.vi 1]]):=by
 simp[cJ1,G6,I9,den,K1,F,H9,I1,beV,N4,wu8,aI7,cJ7]
 try omega
theorem dv5{ω:Opq}:G6 cJ2 ω=some (0,[F 20 [ω.w 0,.vi 2]]):=by
 simp[cJ2,G6,I9,den,K1,F,H9,I1,beV,N4,wu8,aI7,cJ7,d17]
 try omega
theorem dv6{ω:Opq}:G6 cJ3 ω=some (0,[F 20 [ω.w 0,.vi 4]]):=by
 simp[cJ3,G6,I9,den,K1,F,H9,I1,beV,N4,wu8,aI7,cJ7,d17,cR0,cR1]
 omega
theorem dv7{ω:Opq}:G6 cJ4 ω=some (0,[F 20 [ω.w 0,.vi 8]]):=by
 simp[cJ4,G6,I9,den,K1,F,H9,I1,beV,N4,wu8,aI7,cJ7,d17,cR0,cR1,dh1,dh2,dh3,dh4]
theorem cM4{ω:Opq}(hf: ∀i a,ω.f i a=F i a):G6 aX9 ω=some (0,[F 20 [.vi (IntKind.u64.wrap (ω.w 0).toI),.vi 8]]):=by
 simp[aX9,G6,I9,den,K1,hf]
theorem cy3{ω:Opq}(hf: ∀i a,ω.f i a=F i a)(h:(ω.w 0).toS.length≤65535):G6 aH5 ω=some (0,[.vi 0,F 21 [ω.w 0]]):=by
 have h2:((ω.w 0).toS.length:Int)≤65535:=by omega
 have h3:2+((ω.w 0).toS.length:Int)≤1000000:=by omega
 simp[aH5,G6,I9,den,dB,K1,hf,h2,Int.not_lt.2 h2,F,H9,I1,J1,d18,aj5,N4,h3]
theorem d45{ω:Opq}(h:(ω.w 0).toL.length+(ω.w 1).toL.length≤100000):G6 by1 ω=some (0,[.vl ((ω.w 0).toL++(ω.w 1).toL)]):=by
 unfold by1
 have a0:arI .add .i64 0 ((ω.w 0).toL.length:Int)=((ω.w 0).toL.length:Nat):=by simp only[arI];rw[wrap_i64]<;>omega
 have a1:arI .add .i64 (((ω.w 0).toL.length:Nat):Int) ((ω.w 1).toL.length:Int)=(((ω.w 0).toL.length+(ω.w 1).toL.length:Nat):Int):=by simp only[arI];rw[wrap_i64]<;>omega
 have b0:arI .sub .i64 (((ω.w 0).toL.length+(ω.w 1).toL.length:Nat):Int) 0=(((ω.w 0).toL.length+(ω.w 1).toL.length:Nat):Int):=by simp only[arI];rw[wrap_i64]<;>omega
 simp only[G6,I9,den,dB,K1,I2,G9,H8,a0,a1,b0,I7,J3,I3,List.nil_append,d6,decide_eq_true_eq,Int.toNat_natCast,C8,d7]
 repeat' split
 all_goals first|rfl|(exfalso;omega)
theorem d46{ω:Opq}(h:(ω.w 0).toL.length+(ω.w 1).toL.length+(ω.w 2).toL.length≤100000):G6 by2 ω=some (0,[.vl (((ω.w 0).toL++(ω.w 1).toL)++(ω.w 2).toL)]):=by
 unfold by2
 have a0:arI .add .i64 0 ((ω.w 0).toL.length:Int)=((ω.w 0).toL.length:Nat):=by simp only[arI];rw[wrap_i64]<;>omega
 have a1:arI .add .i64 (((ω.w 0).toL.length:Nat):Int) ((ω.w 1).toL.length:Int)=(((ω.w 0).toL.length+(ω.w 1).toL.length:Nat):Int):=by simp only[arI];rw[wrap_i64]<;>omega
 have a2:arI .add .i64 (((ω.w 0).toL.length+(ω.w 1).toL.length:Nat):Int) ((ω.w 2).toL.length:Int)=(((ω.w 0).toL.length+(ω.w 1).toL.length+(ω.w 2).toL.length:Nat):Int):=by simp only[arI];rw[wrap_i64]<;>omega
 have b0:arI .sub .i64 (((ω.w 0).toL.length+(ω.w 1).toL.length+(ω.w 2).toL.length:Nat):Int) 0=(((ω.w 0).toL.length+(ω.w 1).toL.length+(ω.w 2).toL.length:Nat):Int):=by simp only[arI];rw[wrap_i64]<;>omega
 simp only[G6,I9,den,dB,K1,I2,G9,H8,a0,a1,a2,b0,I7,J3,I3,List.nil_append,d6,decide_eq_true_eq,Int.toNat_natCast,C8,d7]
 repeat' split
 all_goals first|rfl|(exfalso;omega)
theorem d47{ω:Opq}(h:(ω.w 0).toL.length+(ω.w 1).toL.length+(ω.w 2).toL.length+(ω.w 3).toL.length≤100000):G6 by3 ω=some (0,[.vl ((((ω.w 0).toL++(ω.w 1).toL)++(ω.w 2).toL)++(ω.w 3).toL)]):=by
 unfold by3
 have a0:arI .add .i64 0 ((ω.w 0).toL.length:Int)=((ω.w 0).toL.length:Nat):=by simp only[arI];rw[wrap_i64]<;>omega
 have a1:arI .add .i64 (((ω.w 0).toL.length:Nat):Int) ((ω.w 1).toL.length:Int)=(((ω.w 0).toL.length+(ω.w 1).toL.length:Nat):Int):=by simp only[arI];rw[wrap_i64]<;>omega
 have a2:arI .add .i64 (((ω.w 0).toL.length+(ω.w 1).toL.length:Nat):Int) ((ω.w 2).toL.length:Int)=(((ω.w 0).toL.length+(ω.w 1).toL.length+(ω.w 2).toL.length:Nat):Int):=by simp only[arI];rw[wrap_i64]<;>omega
 have a3:arI .add .i64 (((ω.w 0).toL.length+(ω.w 1).toL.length+(ω.w 2).toL.length:Nat):Int) ((ω.w 3).toL.length:Int)=(((ω.w 0).toL.length+(ω.w 1).toL.length+(ω.w 2).toL.length+(ω.w 3).toL.length:Nat):Int):=by simp only[arI];rw[wrap_i64]<;>omega
 have b0:arI .sub .i64 (((ω.w 0).toL.length+(ω.w 1).toL.length+(ω.w 2).toL.length+(ω.w 3).toL.length:Nat):Int) 0=(((ω.w 0).toL.length+(ω.w 1).toL.length+(ω.w 2).toL.length+(ω.w 3).toL.length:Nat):Int):=by simp only[arI];rw[wrap_i64]<;>omega
 simp only[G6,I9,den,dB,K1,I2,G9,H8,a0,a1,a2,a3,b0,I7,J3,I3,List.nil_append,d6,decide_eq_true_eq,Int.toNat_natCast,C8,d7]
 repeat' split
 all_goals first|rfl|(exfalso;omega)
theorem cM5{ω:Opq}(hf: ∀i a,ω.f i a=F i a):G6 av1 ω=some (0,[F 8 [ω.w 0,ω.w 1,ω.w 2,ω.w 3,ω.w 4,ω.w 5,ω.w 6,ω.w 7,ω.w 8,ω.w 9,ω.w 10,ω.w 11]]):=by
 by_cases h1:(ω.w 10).toL.length≤80
 ·by_cases h2:(ω.w 11).toL.length≤80
  ·have e1:((ω.w 10).toL.length:Int)≤80:=by omega
   have e2:((ω.w 11).toL.length:Int)≤80:=by omega
   have e3:((ω.w 10).toL.length:Int)≤1000:=by omega
   have e4:((ω.w 11).toL.length:Int)≤1000:=by omega
   cases h:(ω.w 10).toL.any aP9<;>simp[av1,G6,I9,den,dB,K1,hf,F,H9,I1,ad0,h1,h2,h,e1,e2,e3,e4]
  ·have e1:((ω.w 10).toL.length:Int)≤80:=by omega
   have e2: ¬((ω.w 11).toL.length:Int)≤80:=by omega
   simp[av1,G6,I9,den,dB,K1,hf,F,H9,I1,ad0,h1,h2,e1,e2]
 ·have e1: ¬((ω.w 10).toL.length:Int)≤80:=by omega
  simp[av1,G6,I9,den,dB,K1,hf,F,H9,I1,ad0,h1,e1]
theorem dj8{ω:Opq}(h:0≤(ω.w 0).toI):G6 c31 ω=some (0,[F 20 [ω.w 0,.vi 2]]):=by
 simp[c31,G6,I9,den,dB,K1,F,H9,I1,beV,N4,wu8,bU1,bU2,dt4,h]
 try omega
theorem dj9{ω:Opq}(h:0≤(ω.w 0).toI):G6 c32 ω=some (0,[F 20 [ω.w 0,.vi 4]]):=by
 simp[c32,G6,I9,den,dB,K1,F,H9,I1,beV,N4,wu8,bU1,bU2,dt4,h]
 try omega
theorem dk0{ω:Opq}(h:0≤(ω.w 0).toI):G6 c33 ω=some (0,[F 20 [ω.w 0,.vi 8]]):=by
 simp[c33,G6,I9,den,dB,K1,F,H9,I1,beV,N4,wu8,bU1,bU2,dt4,h]
 try omega
theorem dk1{ω:Opq}(hf: ∀i a,ω.f i a=F i a):G6 c34 ω=some (0,[F 20 [.vi (IntKind.u64.wrap (ω.w 0).toI),.vi 8]]):=by
 have:0≤IntKind.u64.wrap (ω.w 0).toI:=by rw[aI7];omega
 simp[c34,G6,I9,den,dB,K1,hf,this]
theorem dk2{ω:Opq}(hf: ∀i a,ω.f i a=F i a)(h:(ω.w 0).toS.length≤65535):G6 c35 ω=some (0,[.vi 0,F 21 [ω.w 0]]):=by
 have h2:((ω.w 0).toS.length:Int)≤65535:=by omega
 have h3:2+((ω.w 0).toS.length:Int)≤1000000:=by omega
 have h4:0≤IntKind.u64.wrap ((ω.w 0).toS.length:Int):=by rw[aI7];omega
 simp[c35,G6,I9,den,dB,K1,hf,h2,Int.not_lt.2 h2,F,H9,I1,J1,K9,aj5,N4,h3,h4]
theorem d48{ω:Opq}(h:(ω.w 0).toL.length+(ω.w 1).toL.length+(ω.w 2).toL.length+(ω.w 3).toL.length≤100000):G6 by4 ω=some (0,[.vl ((((ω.w 0).toL++(ω.w 1).toL)++(ω.w 2).toL)++(ω.w 3).toL)]):=by
 unfold by4
 simp only[G6,I9,den,dB,K1,I2,G9,H8,I7,J3,I3,List.nil_append,d6,decide_eq_true_eq,Int.toNat_natCast,C8,d7]
 repeat' split
 all_goals first|rfl|(exfalso;omega)
theorem dk3{ω:Opq}(hf: ∀i a,ω.f i a=F i a)(h:(ω.w 0).toS.length≤65535):G6 c36 ω=some (0,[F 22 [ω.w 0,ω.w 1,ω.w 2]]):=by
 have h2:((ω.w 0).toS.length:Int)≤65535:=by omega
 have h3:(((aj5 (ω.w 0).toS).length+8:Nat):Int)≤1000000:=by rw[aj5,d7,s9,J1];omega
 have h4:(((aj5 (ω.w 0).toS).length+8+8:Nat):Int)≤1000000:=by rw[aj5,d7,s9,J1];omega
 have e8:(8:Int).toNat=8:=rfl
 simp only[c36,G6,I9,den,dB,K1,hf,h2,F,H9,I1,J1,e8,I2,G9,H8,I3,decide_true,if_true,d7,h3,h4,K9 _ (d8 8)]
theorem d49{ω:Opq}(hf: ∀i a,ω.f i a=F i a)(h:(ω.w 0).toI=(ω.w 1).toL.length)(hn:(ω.w 1).toL.length≤1000000):G6 by5 ω=some (0,[]):=by
 unfold by5
 simp only[G6,J8,I9,den,dB,K1,List.cons_append,List.nil_append]
 rw[ao3 (fun i=>[.vi i,aS5 (ω.w 1) i]) (n:=(ω.w 1).toL.length) (j:=0) (p:=[.vi (ω.w 1).toL.length,aS5 (ω.w 1) (ω.w 1).toL.length]) (by simp[aS5])]
 ·simp[hf,F,H9,I1,h,J8,G6,I9]
 ·intro i hi
  simp[hi,K5,h,K3 (show i≤10000000 by omega),aS5,bm3,N4]
 ·simp[K5,h]
theorem Q5{a:List Val}(h:ad0 a=true):(arg a 10).toL.length≤80∧(arg a 11).toL.length≤80∧(arg a 10).toL.any aP9=false∧(arg a 11).toL.any aP9=false:=by
 simp only[ad0,d6,decide_eq_true_eq,i7]at h
 exact⟨h.1.1.1,h.1.1.2,h.1.2,h.2⟩
theorem ak3(ω:Opq)(l:List Val):(ω.upd 2000 l).w 10=ω.w 10:=rfl
theorem ak4(ω:Opq)(l:List Val):(ω.upd 2000 l).w 11=ω.w 11:=rfl
theorem aT4(ω:Opq)(x:Val)(l:List Val):(ω.upd 2000 (x::l)).w 2000=x:=rfl
theorem aT5(ω:Opq)(x y:Val)(l:List Val):(ω.upd 2000 (x::y::l)).w 2001=y:=rfl
theorem aT6(ω:Opq)(x y z:Val)(l:List Val):(ω.upd 2000 (x::y::z::l)).w 2002=z:=rfl
theorem M3(r:Val):(R9 r).length=18+(O9 r 0).toS.length:=by
 rw[R9,d7,d7,J0,J1,J1];omega
theorem O1(r:Val):(Z7 r).length=50+(O9 r 0).toS.length:=by
 rw[Z7];simp only[d7,M3,J1];omega
theorem X1{l:List Val}(h:l.any aP9=false)(i:Nat):(O9 (atV l i) 0).toS.length≤60:=by
 rw[z9]at h
 by_cases hi:i<l.length
 ·have:=h (atV l i) (by rw[atV,n6,j2 hi];exact List.getElem_mem hi)
  simpa[aP9]using this
 ·have:atV l i= .vl []:=by rw[atV,n6,j8 (by omega)];rfl
  rw[this];exact m7 _
theorem ca2(j:Nat)(x y:Val)(p:List Val):P3 (X2 (j,x::y::p)).toL 1 1=y:=rfl
theorem ca3(j:Nat)(x y z:Val)(p:List Val):P3 (X2 (j,x::y::z::p)).toL 1 2=z:=rfl
theorem a60{step:List Val→Option (Nat×List Val)}{n:Nat}{a0:List Val}{g:Nat→List Val}(mk:Nat→List Val→List Val){s0:List Val}(h0:s0=mk 0 a0)
 (h1: ∀i,i<n→step (mk i (a0++ax0 g i))=some (0,mk (i+1) (a0++ax0 g i++g i))) (h2:step (mk n (a0++ax0 g n))=some (1,mk n (a0++ax0 g n))):Y6 step s0=some (0,mk n (a0++ax0 g n)):=bf1 mk h0 h1 h2
theorem ao9(g:Val→List Val)(l:List Val):ax0 (fun i=>g (atV l i)) l.length=l.flatMap g:=by
  rw[ar0];exact ar1 g (.vl []) l
theorem a96(k:Int):beV k 1=[N4 (k % 256)]:=by simp[beV]
theorem dk4{ω:Opq}(hf: ∀i a,ω.f i a=F i a)(hk:(ω.w 0).toI=2)(hw:ad0 [ω.w 0,ω.w 1,ω.w 2,ω.w 3,ω.w 4,ω.w 5,ω.w 6,ω.w 7,ω.w 8,ω.w 9,ω.w 10,ω.w 11]=true):G6 cr9 ω=some (0,[F 6 [ω.w 0,ω.w 1,ω.w 2,ω.w 3,ω.w 4,ω.w 5,ω.w 6,ω.w 7,ω.w 8,ω.w 9,ω.w 10,ω.w 11],F 5 [ω.w 0,ω.w 1,ω.w 2,ω.w 3,ω.w 4,ω.w 5,ω.w 6,ω.w 7,ω.w 8,ω.w 9,ω.w 10,ω.w 11]]):=by
 obtain⟨q1,q2,q3,q4⟩:=Q5 hw
 simp only[H9,I1]at q1 q2 q3 q4
 have e1:(1:Int).toNat=1:=rfl
 have e2:(2:Int).toNat=2:=rfl
 have e4:(4:Int).toNat=4:=rfl
 have e8:(8:Int).toNat=8:=rfl
 obtain⟨B,hB⟩: ∃B:Int,(1000000:Int)=B:=⟨_,rfl⟩
 obtain⟨D,hD⟩: ∃B:Int,(100000:Int)=B:=⟨_,rfl⟩
 have hR:K0 (K4 [.vi 2,ω.w 1,ω.w 2,ω.w 3,ω.w 4,ω.w 5,ω.w 6,ω.w 7,ω.w 8,ω.w 9,ω.w 10,ω.w 11])=K0 (K4 [ω.w 0,ω.w 1,ω.w 2,ω.w 3,ω.w 4,ω.w 5,ω.w 6,ω.w 7,ω.w 8,ω.w 9,ω.w 10,ω.w 11]):=by
  simp only[K4,H9,I1,G9,hk]
 have n1:((ω.w 10).toL.length:Int)≤1000:=by omega
 have n2:((ω.w 11).toL.length:Int)≤1000:=by omega
 simp only[cr9,cr5,cr6,cr7,cr8,hB,hD,G6,J8,I9,den,dB,K1,hf,H8,G9,I2,I7,I3,J3,I5,d6,decide_eq_true_eq,List.cons_append,List.nil_append]
 refine(if_pos ⟨n1,n2⟩).trans ?_
 cases hr:K0 (K4 [ω.w 0,ω.w 1,ω.w 2,ω.w 3,ω.w 4,ω.w 5,ω.w 6,ω.w 7,ω.w 8,ω.w 9,ω.w 10,ω.w 11])with
 |false=>simp only[F,hR,hr,i9,if_true,H8,cond_false]
 |true=>
 have hr':(F 4 [.vi 2,ω.w 1,ω.w 2,ω.w 3,ω.w 4,ω.w 5,ω.w 6,ω.w 7,ω.w 8,ω.w 9,ω.w 10,ω.w 11]).toB=true:=by simp only[F,hR,hr,H8]
 have h5:F 5 [ω.w 0,ω.w 1,ω.w 2,ω.w 3,ω.w 4,ω.w 5,ω.w 6,ω.w 7,ω.w 8,ω.w 9,ω.w 10,ω.w 11]= .vl (Q1 [ω.w 0,ω.w 1,ω.w 2,ω.w 3,ω.w 4,ω.w 5,ω.w 6,ω.w 7,ω.w 8,ω.w 9,ω.w 10,ω.w 11]):=by simp only[F,hr,cond_true]
 have h6:F 6 [ω.w 0,ω.w 1,ω.w 2,ω.w 3,ω.w 4,ω.w 5,ω.w 6,ω.w 7,ω.w 8,ω.w 9,ω.w 10,ω.w 11]= .vi 0:=by simp only[F,hr,cond_true]
 rw[hr',h5,h6]
 simp only[j7,e9,if_false,F,H9,I1,G9,I2]
 refine(if_pos (by simp only[d7,List.length_cons,List.length_nil,J1,J0,e1,e2,e4,e8];omega)).trans ?_
 refine(if_pos (by simp only[d7,List.length_cons,List.length_nil,J1,J0,e1,e2,e4,e8];omega)).trans ?_
 refine(if_pos (by simp only[d7,List.length_cons,List.length_nil,J1,J0,e1,e2,e4,e8];omega)).trans ?_
 refine(if_pos (by simp only[d7,List.length_cons,List.length_nil,J1,J0,e1,e2,e4,e8];omega)).trans ?_
 simp only[e1,e2,e4,e8,K9 _ (d8 8),K9 _ (show 4≤8 by decide),K9 _ (show 2≤8 by decide),a96]
 simp[Q1,H9,I1,hk,N4]
theorem dk5{ω:Opq}(hf: ∀i a,ω.f i a=F i a)(hk:(ω.w 0).toI=3)(hw:ad0 [ω.w 0,ω.w 1,ω.w 2,ω.w 3,ω.w 4,ω.w 5,ω.w 6,ω.w 7,ω.w 8,ω.w 9,ω.w 10,ω.w 11]=true):G6 cs5 ω=some (0,[F 6 [ω.w 0,ω.w 1,ω.w 2,ω.w 3,ω.w 4,ω.w 5,ω.w 6,ω.w 7,ω.w 8,ω.w 9,ω.w 10,ω.w 11],F 5 [ω.w 0,ω.w 1,ω.w 2,ω.w 3,ω.w 4,ω.w 5,ω.w 6,ω.w 7,ω.w 8,ω.w 9,ω.w 10,ω.w 11]]):=by
 obtain⟨q1,q2,q3,q4⟩:=Q5 hw
 simp only[H9,I1]at q1 q2 q3 q4
 have e1:(1:Int).toNat=1:=rfl
 have e2:(2:Int).toNat=2:=rfl
 have e4:(4:Int).toNat=4:=rfl
 have e8:(8:Int).toNat=8:=rfl
 obtain⟨B,hB⟩: ∃B:Int,(1000000:Int)=B:=⟨_,rfl⟩
 obtain⟨D,hD⟩: ∃B:Int,(100000:Int)=B:=⟨_,rfl⟩
 have hR:K0 (K4 [.vi 3,ω.w 1,ω.w 2,ω.w 3,ω.w 4,ω.w 5,ω.w 6,ω.w 7,ω.w 8,ω.w 9,ω.w 10,ω.w 11])=K0 (K4 [ω.w 0,ω.w 1,ω.w 2,ω.w 3,ω.w 4,ω.w 5,ω.w 6,ω.w 7,ω.w 8,ω.w 9,ω.w 10,ω.w 11]):=by
  simp only[K4,H9,I1,G9,hk]
 have n1:((ω.w 10).toL.length:Int)≤1000:=by omega
 have n2:((ω.w 11).toL.length:Int)≤1000:=by omega
 simp only[cs5,cs0,cs1,cs3,cs4,hB,hD,G6,J8,I9,den,dB,K1,hf,H8,G9,I2,I7,I3,J3,I5,d6,decide_eq_true_eq,List.cons_append,List.nil_append]
 refine(if_pos ⟨n1,n2⟩).trans ?_
 cases hr:K0 (K4 [ω.w 0,ω.w 1,ω.w 2,ω.w 3,ω.w 4,ω.w 5,ω.w 6,ω.w 7,ω.w 8,ω.w 9,ω.w 10,ω.w 11])with
 |false=>simp only[F,hR,hr,i9,if_true,H8,cond_false]
 |true=>
 have hr':(F 4 [.vi 3,ω.w 1,ω.w 2,ω.w 3,ω.w 4,ω.w 5,ω.w 6,ω.w 7,ω.w 8,ω.w 9,ω.w 10,ω.w 11]).toB=true:=by simp only[F,hR,hr,H8]
 have h5:F 5 [ω.w 0,ω.w 1,ω.w 2,ω.w 3,ω.w 4,ω.w 5,ω.w 6,ω.w 7,ω.w 8,ω.w 9,ω.w 10,ω.w 11]= .vl (Q1 [ω.w 0,ω.w 1,ω.w 2,ω.w 3,ω.w 4,ω.w 5,ω.w 6,ω.w 7,ω.w 8,ω.w 9,ω.w 10,ω.w 11]):=by simp only[F,hr,cond_true]
 have h6:F 6 [ω.w 0,ω.w 1,ω.w 2,ω.w 3,ω.w 4,ω.w 5,ω.w 6,ω.w 7,ω.w 8,ω.w 9,ω.w 10,ω.w 11]= .vi 0:=by simp only[F,hr,cond_true]
 rw[hr',h5,h6]
 simp only[j7,e9,if_false,F,H9,I1,G9,I2]
 refine(if_pos (by simp only[d7,List.length_cons,List.length_nil,J1,J0,e1,e2,e4,e8];omega)).trans ?_
 refine(if_pos (by simp only[d7,List.length_cons,List.length_nil,J1,J0,e1,e2,e4,e8];omega)).trans ?_
 refine(if_pos (by simp only[d7,List.length_cons,List.length_nil,J1,J0,e1,e2,e4,e8];omega)).trans ?_
 refine(if_pos (by simp only[d7,List.length_cons,List.length_nil,J1,J0,e1,e2,e4,e8];omega)).trans ?_
 simp only[e1,e2,e4,e8,K9 _ (d8 8),K9 _ (show 4≤8 by decide),K9 _ (show 2≤8 by decide),a96]
 simp[Q1,H9,I1,hk,N4]
theorem dk6{ω:Opq}(hf: ∀i a,ω.f i a=F i a)(hk:(ω.w 0).toI=5)(hw:ad0 [ω.w 0,ω.w 1,ω.w 2,ω.w 3,ω.w 4,ω.w 5,ω.w 6,ω.w 7,ω.w 8,ω.w 9,ω.w 10,ω.w 11]=true):G6 ct9 ω=some (0,[F 6 [ω.w 0,ω.w 1,ω.w 2,ω.w 3,ω.w 4,ω.w 5,ω.w 6,ω.w 7,ω.w 8,ω.w 9,ω.w 10,ω.w 11],F 5 [ω.w 0,ω.w 1,ω.w 2,ω.w 3,ω.w 4,ω.w 5,ω.w 6,ω.w 7,ω.w 8,ω.w 9,ω.w 10,ω.w 11]]):=by
 obtain⟨q1,q2,q3,q4⟩:=Q5 hw
 simp only[H9,I1]at q1 q2 q3 q4
 have e1:(1:Int).toNat=1:=rfl
 have e2:(2:Int).toNat=2:=rfl
 have e4:(4:Int).toNat=4:=rfl
 have e8:(8:Int).toNat=8:=rfl
 obtain⟨B,hB⟩: ∃B:Int,(1000000:Int)=B:=⟨_,rfl⟩
 obtain⟨D,hD⟩: ∃B:Int,(100000:Int)=B:=⟨_,rfl⟩
 have hR:K0 (K4 [.vi 5,ω.w 1,ω.w 2,ω.w 3,ω.w 4,ω.w 5,ω.w 6,ω.w 7,ω.w 8,ω.w 9,ω.w 10,ω.w 11])=K0 (K4 [ω.w 0,ω.w 1,ω.w 2,ω.w 3,ω.w 4,ω.w 5,ω.w 6,ω.w 7,ω.w 8,ω.w 9,ω.w 10,ω.w 11]):=by
  simp only[K4,H9,I1,G9,hk]
 have n1:((ω.w 10).toL.length:Int)≤1000:=by omega
 have n2:((ω.w 11).toL.length:Int)≤1000:=by omega
 simp only[ct9,ct4,ct5,ct6,ct7,ct8,hB,hD,G6,J8,I9,den,dB,K1,hf,H8,G9,I2,I7,I3,J3,I5,d6,decide_eq_true_eq,List.cons_append,List.nil_append]
 refine(if_pos ⟨n1,n2⟩).trans ?_
 cases hr:K0 (K4 [ω.w 0,ω.w 1,ω.w 2,ω.w 3,ω.w 4,ω.w 5,ω.w 6,ω.w 7,ω.w 8,ω.w 9,ω.w 10,ω.w 11])with
 |false=>simp only[F,hR,hr,i9,if_true,H8,cond_false]
 |true=>
 have hr':(F 4 [.vi 5,ω.w 1,ω.w 2,ω.w 3,ω.w 4,ω.w 5,ω.w 6,ω.w 7,ω.w 8,ω.w 9,ω.w 10,ω.w 11]).toB=true:=by simp only[F,hR,hr,H8]
 have h5:F 5 [ω.w 0,ω.w 1,ω.w 2,ω.w 3,ω.w 4,ω.w 5,ω.w 6,ω.w 7,ω.w 8,ω.w 9,ω.w 10,ω.w 11]= .vl (Q1 [ω.w 0,ω.w 1,ω.w 2,ω.w 3,ω.w 4,ω.w 5,ω.w 6,ω.w 7,ω.w 8,ω.w 9,ω.w 10,ω.w 11]):=by simp only[F,hr,cond_true]
 have h6:F 6 [ω.w 0,ω.w 1,ω.w 2,ω.w 3,ω.w 4,ω.w 5,ω.w 6,ω.w 7,ω.w 8,ω.w 9,ω.w 10,ω.w 11]= .vi 0:=by simp only[F,hr,cond_true]
 rw[hr',h5,h6]
 simp only[j7,e9,if_false,F,H9,I1,G9,I2]
 refine(if_pos (by simp only[d7,List.length_cons,List.length_nil,J1,J0,e1,e2,e4,e8];omega)).trans ?_
 refine(if_pos (by simp only[d7,List.length_cons,List.length_nil,J1,J0,e1,e2,e4,e8];omega)).trans ?_
 refine(if_pos (by simp only[d7,List.length_cons,List.length_nil,J1,J0,e1,e2,e4,e8];omega)).trans ?_
 refine(if_pos (by simp only[d7,List.length_cons,List.length_nil,J1,J0,e1,e2,e4,e8];omega)).trans ?_
 refine(if_pos (by simp only[d7,List.length_cons,List.length_nil,J1,J0,e1,e2,e4,e8];omega)).trans ?_
 simp only[e1,e2,e4,e8,K9 _ (d8 8),K9 _ (show 4≤8 by decide),K9 _ (show 2≤8 by decide),a96]
 simp[Q1,H9,I1,hk,N4]
theorem dk7{ω:Opq}(hf: ∀i a,ω.f i a=F i a)(hk:(ω.w 0).toI=6)(hw:ad0 [ω.w 0,ω.w 1,ω.w 2,ω.w 3,ω.w 4,ω.w 5,ω.w 6,ω.w 7,ω.w 8,ω.w 9,ω.w 10,ω.w 11]=true):G6 cu1 ω=some (0,[F 6 [ω.w 0,ω.w 1,ω.w 2,ω.w 3,ω.w 4,ω.w 5,ω.w 6,ω.w 7,ω.w 8,ω.w 9,ω.w 10,ω.w 11],F 5 [ω.w 0,ω.w 1,ω.w 2,ω.w 3,ω.w 4,ω.w 5,ω.w 6,ω.w 7,ω.w 8,ω.w 9,ω.w 10,ω.w 11]]):=by
 obtain⟨q1,q2,q3,q4⟩:=Q5 hw
 simp only[H9,I1]at q1 q2 q3 q4
 have e1:(1:Int).toNat=1:=rfl
 have e2:(2:Int).toNat=2:=rfl
 have e4:(4:Int).toNat=4:=rfl
 have e8:(8:Int).toNat=8:=rfl
 obtain⟨B,hB⟩: ∃B:Int,(1000000:Int)=B:=⟨_,rfl⟩
 obtain⟨D,hD⟩: ∃B:Int,(100000:Int)=B:=⟨_,rfl⟩
 have hR:K0 (K4 [.vi 6,ω.w 1,ω.w 2,ω.w 3,ω.w 4,ω.w 5,ω.w 6,ω.w 7,ω.w 8,ω.w 9,ω.w 10,ω.w 11])=K0 (K4 [ω.w 0,ω.w 1,ω.w 2,ω.w 3,ω.w 4,ω.w 5,ω.w 6,ω.w 7,ω.w 8,ω.w 9,ω.w 10,ω.w 11]):=by
  simp only[K4,H9,I1,G9,hk]
 have n1:((ω.w 10).toL.length:Int)≤1000:=by omega
 have n2:((ω.w 11).toL.length:Int)≤1000:=by omega
 simp only[cu1,cu0,hB,hD,G6,J8,I9,den,dB,K1,hf,H8,G9,I2,I7,I3,J3,I5,d6,decide_eq_true_eq,List.cons_append,List.nil_append]
 refine(if_pos ⟨n1,n2⟩).trans ?_
 cases hr:K0 (K4 [ω.w 0,ω.w 1,ω.w 2,ω.w 3,ω.w 4,ω.w 5,ω.w 6,ω.w 7,ω.w 8,ω.w 9,ω.w 10,ω.w 11])with
 |false=>simp only[F,hR,hr,i9,if_true,H8,cond_false]
 |true=>
 have hr':(F 4 [.vi 6,ω.w 1,ω.w 2,ω.w 3,ω.w 4,ω.w 5,ω.w 6,ω.w 7,ω.w 8,ω.w 9,ω.w 10,ω.w 11]).toB=true:=by simp only[F,hR,hr,H8]
 have h5:F 5 [ω.w 0,ω.w 1,ω.w 2,ω.w 3,ω.w 4,ω.w 5,ω.w 6,ω.w 7,ω.w 8,ω.w 9,ω.w 10,ω.w 11]= .vl (Q1 [ω.w 0,ω.w 1,ω.w 2,ω.w 3,ω.w 4,ω.w 5,ω.w 6,ω.w 7,ω.w 8,ω.w 9,ω.w 10,ω.w 11]):=by simp only[F,hr,cond_true]
 have h6:F 6 [ω.w 0,ω.w 1,ω.w 2,ω.w 3,ω.w 4,ω.w 5,ω.w 6,ω.w 7,ω.w 8,ω.w 9,ω.w 10,ω.w 11]= .vi 0:=by simp only[F,hr,cond_true]
 rw[hr',h5,h6]
 simp only[j7,e9,if_false,F,H9,I1,G9,I2]
 refine(if_pos (by simp only[d7,List.length_cons,List.length_nil,J1,J0,e1,e2,e4,e8];omega)).trans ?_
 simp only[e1,e2,e4,e8,K9 _ (d8 8),K9 _ (show 4≤8 by decide),K9 _ (show 2≤8 by decide),a96]
 simp[Q1,H9,I1,hk,N4]
theorem dk8{ω:Opq}(hf: ∀i a,ω.f i a=F i a)(hk:(ω.w 0).toI=7)(hw:ad0 [ω.w 0,ω.w 1,ω.w 2,ω.w 3,ω.w 4,ω.w 5,ω.w 6,ω.w 7,ω.w 8,ω.w 9,ω.w 10,ω.w 11]=true):G6 cu5 ω=some (0,[F 6 [ω.w 0,ω.w 1,ω.w 2,ω.w 3,ω.w 4,ω.w 5,ω.w 6,ω.w 7,ω.w 8,ω.w 9,ω.w 10,ω.w 11],F 5 [ω.w 0,ω.w 1,ω.w 2,ω.w 3,ω.w 4,ω.w 5,ω.w 6,ω.w 7,ω.w 8,ω.w 9,ω.w 10,ω.w 11]]):=by
 obtain⟨q1,q2,q3,q4⟩:=Q5 hw
 simp only[H9,I1]at q1 q2 q3 q4
 have e1:(1:Int).toNat=1:=rfl
 have e2:(2:Int).toNat=2:=rfl
 have e4:(4:Int).toNat=4:=rfl
 have e8:(8:Int).toNat=8:=rfl
 obtain⟨B,hB⟩: ∃B:Int,(1000000:Int)=B:=⟨_,rfl⟩
 obtain⟨D,hD⟩: ∃B:Int,(100000:Int)=B:=⟨_,rfl⟩
 have hR:K0 (K4 [.vi 7,ω.w 1,ω.w 2,ω.w 3,ω.w 4,ω.w 5,ω.w 6,ω.w 7,ω.w 8,ω.w 9,ω.w 10,ω.w 11])=K0 (K4 [ω.w 0,ω.w 1,ω.w 2,ω.w 3,ω.w 4,ω.w 5,ω.w 6,ω.w 7,ω.w 8,ω.w 9,ω.w 10,ω.w 11]):=by
  simp only[K4,H9,I1,G9,hk]
 have n1:((ω.w 10).toL.length:Int)≤1000:=by omega
 have n2:((ω.w 11).toL.length:Int)≤1000:=by omega
 simp only[cu5,cu2,cu3,cu4,hB,hD,G6,J8,I9,den,dB,K1,hf,H8,G9,I2,I7,I3,J3,I5,d6,decide_eq_true_eq,List.cons_append,List.nil_append]
 refine(if_pos ⟨n1,n2⟩).trans ?_
 cases hr:K0 (K4 [ω.w 0,ω.w 1,ω.w 2,ω.w 3,ω.w 4,ω.w 5,ω.w 6,ω.w 7,ω.w 8,ω.w 9,ω.w 10,ω.w 11])with
 |false=>simp only[F,hR,hr,i9,if_true,H8,cond_false]
 |true=>
 have hr':(F 4 [.vi 7,ω.w 1,ω.w 2,ω.w 3,ω.w 4,ω.w 5,ω.w 6,ω.w 7,ω.w 8,ω.w 9,ω.w 10,ω.w 11]).toB=true:=by simp only[F,hR,hr,H8]
 have h5:F 5 [ω.w 0,ω.w 1,ω.w 2,ω.w 3,ω.w 4,ω.w 5,ω.w 6,ω.w 7,ω.w 8,ω.w 9,ω.w 10,ω.w 11]= .vl (Q1 [ω.w 0,ω.w 1,ω.w 2,ω.w 3,ω.w 4,ω.w 5,ω.w 6,ω.w 7,ω.w 8,ω.w 9,ω.w 10,ω.w 11]):=by simp only[F,hr,cond_true]
 have h6:F 6 [ω.w 0,ω.w 1,ω.w 2,ω.w 3,ω.w 4,ω.w 5,ω.w 6,ω.w 7,ω.w 8,ω.w 9,ω.w 10,ω.w 11]= .vi 0:=by simp only[F,hr,cond_true]
 rw[hr',h5,h6]
 simp only[j7,e9,if_false,F,H9,I1,G9,I2]
 refine(if_pos (by simp only[d7,List.length_cons,List.length_nil,J1,J0,e1,e2,e4,e8];omega)).trans ?_
 refine(if_pos (by simp only[d7,List.length_cons,List.length_nil,J1,J0,e1,e2,e4,e8];omega)).trans ?_
 refine(if_pos (by simp only[d7,List.length_cons,List.length_nil,J1,J0,e1,e2,e4,e8];omega)).trans ?_
 simp only[e1,e2,e4,e8,K9 _ (d8 8),K9 _ (show 4≤8 by decide),K9 _ (show 2≤8 by decide),a96]
 simp[Q1,H9,I1,hk,N4]
theorem dk9{ω:Opq}(hf: ∀i a,ω.f i a=F i a)(hk:(ω.w 0).toI=1)(hw:ad0 [ω.w 0,ω.w 1,ω.w 2,ω.w 3,ω.w 4,ω.w 5,ω.w 6,ω.w 7,ω.w 8,ω.w 9,ω.w 10,ω.w 11]=true):G6 cr4 ω=some (0,[F 6 [ω.w 0,ω.w 1,ω.w 2,ω.w 3,ω.w 4,ω.w 5,ω.w 6,ω.w 7,ω.w 8,ω.w 9,ω.w 10,ω.w 11],F 5 [ω.w 0,ω.w 1,ω.w 2,ω.w 3,ω.w 4,ω.w 5,ω.w 6,ω.w 7,ω.w 8,ω.w 9,ω.w 10,ω.w 11]]):=by
 obtain⟨q1,q2,q3,q4⟩:=Q5 hw
 simp only[H9,I1]at q1 q2 q3 q4
 have e1:(1:Int).toNat=1:=rfl
 have e2:(2:Int).toNat=2:=rfl
 have e4:(4:Int).toNat=4:=rfl
 have e8:(8:Int).toNat=8:=rfl
 obtain⟨B,hB⟩: ∃B:Int,(1000000:Int)=B:=⟨_,rfl⟩
 obtain⟨D,hD⟩: ∃B:Int,(100000:Int)=B:=⟨_,rfl⟩
 have hR:K0 (K4 [.vi 1,ω.w 1,ω.w 2,ω.w 3,ω.w 4,ω.w 5,ω.w 6,ω.w 7,ω.w 8,ω.w 9,ω.w 10,ω.w 11])=K0 (K4 [ω.w 0,ω.w 1,ω.w 2,ω.w 3,ω.w 4,ω.w 5,ω.w 6,ω.w 7,ω.w 8,ω.w 9,ω.w 10,ω.w 11]):=by
  simp only[K4,H9,I1,G9,hk]
 have n1:((ω.w 10).toL.length:Int)≤1000:=by omega
 have n2:((ω.w 11).toL.length:Int)≤1000:=by omega
 simp only[cr4,cq7,c29,cq8,cq9,ax1,cr0,cr1,cr2,ax2,cr3,bP1,hB,hD,G6,J8,I9,den,dB,K1,hf,H8,G9,I2,I7,I3,J3,I5,d6,decide_eq_true_eq,List.cons_append,List.nil_append]
 refine(if_pos ⟨n1,n2⟩).trans ?_
 cases hr:K0 (K4 [ω.w 0,ω.w 1,ω.w 2,ω.w 3,ω.w 4,ω.w 5,ω.w 6,ω.w 7,ω.w 8,ω.w 9,ω.w 10,ω.w 11])with
 |false=>simp only[F,hR,hr,i9,if_true,H8,cond_false]
 |true=>
 have hr':(F 4 [.vi 1,ω.w 1,ω.w 2,ω.w 3,ω.w 4,ω.w 5,ω.w 6,ω.w 7,ω.w 8,ω.w 9,ω.w 10,ω.w 11]).toB=true:=by simp only[F,hR,hr,H8]
 have h5:F 5 [ω.w 0,ω.w 1,ω.w 2,ω.w 3,ω.w 4,ω.w 5,ω.w 6,ω.w 7,ω.w 8,ω.w 9,ω.w 10,ω.w 11]= .vl (Q1 [ω.w 0,ω.w 1,ω.w 2,ω.w 3,ω.w 4,ω.w 5,ω.w 6,ω.w 7,ω.w 8,ω.w 9,ω.w 10,ω.w 11]):=by simp only[F,hr,cond_true]
 have h6:F 6 [ω.w 0,ω.w 1,ω.w 2,ω.w 3,ω.w 4,ω.w 5,ω.w 6,ω.w 7,ω.w 8,ω.w 9,ω.w 10,ω.w 11]= .vi 0:=by simp only[F,hr,cond_true]
 rw[hr',h5,h6]
 simp only[j7,e9,if_false,F,H9,I1,G9,I2]
 have g1:=Q9 (g:=fun i=>Z7 (atV (ω.w 10).toL i)) (m:=110) (fun i=>by rw[O1];have:=X1 q3 i;omega) (ω.w 10).toL.length
 have g2:=Q9 (g:=fun i=>R9 (atV (ω.w 11).toL i)) (m:=110) (fun i=>by rw[M3];have:=X1 q4 i;omega) (ω.w 11).toL.length
 refine ifp (by simp only[d7,List.length_cons,List.length_nil,J1,J0,e1,e2,e4,e8];omega) ?_
 refine ifp (by simp only[d7,List.length_cons,List.length_nil,J1,J0,e1,e2,e4,e8];omega) ?_
 cases hb:(ω.w 3).toB
 all_goals
  simp only[e9,if_false,if_true]
  refine ifp (by simp only[d7,List.length_cons,List.length_nil,J1,J0,e1,e2,e4,e8];omega) ?_
  refine ifp (by simp only[d7,List.length_cons,List.length_nil,J1,J0,e1,e2,e4,e8];omega) ?_
  rw[a60 (fun i acc=>[.vi i,.vi acc.length,.vl acc]) (n:=(ω.w 10).toL.length) (g:=fun i=>Z7 (atV (ω.w 10).toL i))]
  case h0=>exact rfl
  case h1=>
   intro i hi
   have hg:=Q9 (g:=fun i=>Z7 (atV (ω.w 10).toL i)) (m:=110) (fun i=>by rw[O1];have:=X1 q3 i;omega) i
   have hkey:=X1 q3 i
   generalize ax0 (fun i=>Z7 (atV (ω.w 10).toL i)) i=acc at hg⊢
   simp only[cz6,cQ7,hB,hD,G6,I9,den,dB,K1,ac7,aT4,aT5,aT6,ak3,ak4,G9,H8,I2,P1,I7,I3,J3,I5,d6,decide_eq_true_eq,M8,M9,N0,N6,N7,N8,N9,hf,F,H9,I1]
   refine ifp (by omega) ?_
   refine ifp (by omega) ?_
   refine ifp (by omega) ?_
   refine ifp (by simp only[d7,List.length_cons,List.length_nil,J1,J0,M3,O1,e1,e2,e4,e8];omega) ?_
   refine ifp (⟨trivial,by simp only[d7,List.length_cons,List.length_nil,J1,J0,M3,O1,e1,e2,e4,e8];omega⟩) ?_
   refine ifp (by simp only[d7,List.length_cons,List.length_nil,J1,J0,M3,O1,e1,e2,e4,e8];omega) ?_
   refine ifp (by simp only[d7,List.length_cons,List.length_nil,J1,J0,M3,O1,e1,e2,e4,e8];omega) ?_
   simp only[K3 (show i≤10000000 by omega),Z7,R9,K9 _ (d8 8),m5,e8]
  case h2=>
   simp only[cz6,cQ7,hB,hD,G6,I9,den,dB,K1,ac7,aT4,aT5,aT6,ak3,ak4,G9,H8,I2,P1,I7,I3,J3,I5,d6,decide_eq_true_eq,M8,M9,N0,N6,N7,N8,N9,hf,F,H9,I1]
   rw[if_neg (by omega)]
  simp only[hB,hD,R5,hf,F,H9,I1,a26,List.length_cons,List.length_nil,Nat.reduceAdd,Nat.reduceSub,if_true,J8,G6,I9,den,dB,K1,ca2,ca3,a12,List.cons_append,List.nil_append,G9,H8,I2,I5,I3,d6,decide_eq_true_eq]
  simp only[e1,e2,e4,e8,K9 _ (d8 8),K9 _ (show 4≤8 by decide),K9 _ (show 2≤8 by decide),a96,ao9,wu8]
  simp[Q1,H9,I1,hk,hb,N4]
theorem dl0{ω:Opq}(hf: ∀i a,ω.f i a=F i a)(hk:(ω.w 0).toI=4)(hw:ad0 [ω.w 0,ω.w 1,ω.w 2,ω.w 3,ω.w 4,ω.w 5,ω.w 6,ω.w 7,ω.w 8,ω.w 9,ω.w 10,ω.w 11]=true):G6 ct3 ω=some (0,[F 6 [ω.w 0,ω.w 1,ω.w 2,ω.w 3,ω.w 4,ω.w 5,ω.w 6,ω.w 7,ω.w 8,ω.w 9,ω.w 10,ω.w 11],F 5 [ω.w 0,ω.w 1,ω.w 2,ω.w 3,ω.w 4,ω.w 5,ω.w 6,ω.w 7,ω.w 8,ω.w 9,ω.w 10,ω.w 11]]):=by
 obtain⟨q1,q2,q3,q4⟩:=Q5 hw
 simp only[H9,I1]at q1 q2 q3 q4
 have e1:(1:Int).toNat=1:=rfl
 have e2:(2:Int).toNat=2:=rfl
 have e4:(4:Int).toNat=4:=rfl
 have e8:(8:Int).toNat=8:=rfl
 obtain⟨B,hB⟩: ∃B:Int,(1000000:Int)=B:=⟨_,rfl⟩
 obtain⟨D,hD⟩: ∃B:Int,(100000:Int)=B:=⟨_,rfl⟩
 have hR:K0 (K4 [.vi 4,ω.w 1,ω.w 2,ω.w 3,ω.w 4,ω.w 5,ω.w 6,ω.w 7,ω.w 8,ω.w 9,ω.w 10,ω.w 11])=K0 (K4 [ω.w 0,ω.w 1,ω.w 2,ω.w 3,ω.w 4,ω.w 5,ω.w 6,ω.w 7,ω.w 8,ω.w 9,ω.w 10,ω.w 11]):=by
  simp only[K4,H9,I1,G9,hk]
 have n1:((ω.w 10).toL.length:Int)≤1000:=by omega
 have n2:((ω.w 11).toL.length:Int)≤1000:=by omega
 simp only[ct3,cs6,c30,cs7,cs8,ax3,cs9,ct0,ct1,ax4,ct2,bP2,bP3,aa3,bP4,bP5,aa4,bP6,bP7,hB,hD,G6,J8,I9,den,dB,K1,hf,H8,G9,I2,I7,I3,J3,I5,d6,decide_eq_true_eq,List.cons_append,List.nil_append]
 refine(if_pos ⟨n1,n2⟩).trans ?_
 cases hr:K0 (K4 [ω.w 0,ω.w 1,ω.w 2,ω.w 3,ω.w 4,ω.w 5,ω.w 6,ω.w 7,ω.w 8,ω.w 9,ω.w 10,ω.w 11])with
 |false=>simp only[F,hR,hr,i9,if_true,H8,cond_false]
 |true=>
 have hr':(F 4 [.vi 4,ω.w 1,ω.w 2,ω.w 3,ω.w 4,ω.w 5,ω.w 6,ω.w 7,ω.w 8,ω.w 9,ω.w 10,ω.w 11]).toB=true:=by simp only[F,hR,hr,H8]
 have h5:F 5 [ω.w 0,ω.w 1,ω.w 2,ω.w 3,ω.w 4,ω.w 5,ω.w 6,ω.w 7,ω.w 8,ω.w 9,ω.w 10,ω.w 11]= .vl (Q1 [ω.w 0,ω.w 1,ω.w 2,ω.w 3,ω.w 4,ω.w 5,ω.w 6,ω.w 7,ω.w 8,ω.w 9,ω.w 10,ω.w 11]):=by simp only[F,hr,cond_true]
 have h6:F 6 [ω.w 0,ω.w 1,ω.w 2,ω.w 3,ω.w 4,ω.w 5,ω.w 6,ω.w 7,ω.w 8,ω.w 9,ω.w 10,ω.w 11]= .vi 0:=by simp only[F,hr,cond_true]
 rw[hr',h5,h6]
 simp only[j7,e9,if_false,F,H9,I1,G9,I2]
 have g1:=Q9 (g:=fun i=>Z7 (atV (ω.w 10).toL i)) (m:=110) (fun i=>by rw[O1];have:=X1 q3 i;omega) (ω.w 10).toL.length
 have g2:=Q9 (g:=fun i=>R9 (atV (ω.w 11).toL i)) (m:=110) (fun i=>by rw[M3];have:=X1 q4 i;omega) (ω.w 11).toL.length
 refine ifp (by simp only[d7,List.length_cons,List.length_nil,J1,J0,e1,e2,e4,e8];omega) ?_
 refine ifp (by simp only[d7,List.length_cons,List.length_nil,J1,J0,e1,e2,e4,e8];omega) ?_
 cases hb:(ω.w 3).toB
 all_goals
  simp only[e9,if_false,if_true]
  refine ifp (by simp only[d7,List.length_cons,List.length_nil,J1,J0,e1,e2,e4,e8];omega) ?_
  refine ifp (by simp only[d7,List.length_cons,List.length_nil,J1,J0,e1,e2,e4,e8];omega) ?_
  rw[a60 (fun i acc=>[.vi i,.vi acc.length,.vl acc]) (n:=(ω.w 10).toL.length) (g:=fun i=>Z7 (atV (ω.w 10).toL i))]
  case h0=>exact rfl
  case h1=>
   intro i hi
   have hg:=Q9 (g:=fun i=>Z7 (atV (ω.w 10).toL i)) (m:=110) (fun i=>by rw[O1];have:=X1 q3 i;omega) i
   have hkey:=X1 q3 i
   generalize ax0 (fun i=>Z7 (atV (ω.w 10).toL i)) i=acc at hg⊢
   simp only[cz6,cQ7,hB,hD,G6,I9,den,dB,K1,ac7,aT4,aT5,aT6,ak3,ak4,G9,H8,I2,P1,I7,I3,J3,I5,d6,decide_eq_true_eq,M8,M9,N0,N6,N7,N8,N9,hf,F,H9,I1]
   refine ifp (by omega) ?_
   refine ifp (by omega) ?_
   refine ifp (by omega) ?_
   refine ifp (by simp only[d7,List.length_cons,List.length_nil,J1,J0,M3,O1,e1,e2,e4,e8];omega) ?_
   refine ifp (⟨trivial,by simp only[d7,List.length_cons,List.length_nil,J1,J0,M3,O1,e1,e2,e4,e8];omega⟩) ?_
   refine ifp (by simp only[d7,List.length_cons,List.length_nil,J1,J0,M3,O1,e1,e2,e4,e8];omega) ?_
   refine ifp (by simp only[d7,List.length_cons,List.length_nil,J1,J0,M3,O1,e1,e2,e4,e8];omega) ?_
   simp only[K3 (show i≤10000000 by omega),Z7,R9,K9 _ (d8 8),m5,e8]
  case h2=>
   simp only[cz6,cQ7,hB,hD,G6,I9,den,dB,K1,ac7,aT4,aT5,aT6,ak3,ak4,G9,H8,I2,P1,I7,I3,J3,I5,d6,decide_eq_true_eq,M8,M9,N0,N6,N7,N8,N9,hf,F,H9,I1]
   rw[if_neg (by omega)]
  simp only[hB,hD,R5,hf,F,H9,I1,a26,List.length_cons,List.length_nil,Nat.reduceAdd,Nat.reduceSub,if_true,J8,G6,I9,den,dB,K1,ca2,ca3,a12,List.cons_append,List.nil_append,G9,H8,I2,I5,I3,d6,decide_eq_true_eq]
  refine ifp ⟨trivial,by simp only[d7,List.length_cons,List.length_nil,J1,J0,M3,O1,e1,e2,e4,e8];omega⟩ ?_
  rw[a60 (fun i acc=>[.vi i,.vi acc.length,.vl acc]) (n:=(ω.w 11).toL.length) (g:=fun i=>R9 (atV (ω.w 11).toL i))]
  case h0=>exact rfl
  case h1=>
   intro i hi
   have hg:=Q9 (g:=fun i=>R9 (atV (ω.w 11).toL i)) (m:=110) (fun i=>by rw[M3];have:=X1 q4 i;omega) i
   have hkey:=X1 q4 i
   generalize ax0 (fun i=>R9 (atV (ω.w 11).toL i)) i=acc at hg⊢
   simp only[cz6,cQ7,hB,hD,G6,I9,den,dB,K1,ac7,aT4,aT5,aT6,ak3,ak4,G9,H8,I2,P1,I7,I3,J3,I5,d6,decide_eq_true_eq,M8,M9,N0,N6,N7,N8,N9,hf,F,H9,I1]
   refine ifp (by omega) ?_
   refine ifp (by omega) ?_
   refine ifp (by omega) ?_
   refine ifp (by simp only[d7,List.length_cons,List.length_nil,J1,J0,M3,O1,e1,e2,e4,e8];omega) ?_
   refine ifp (⟨trivial,by simp only[d7,List.length_cons,List.length_nil,J1,J0,M3,O1,e1,e2,e4,e8];omega⟩) ?_
   simp only[K3 (show i≤10000000 by omega),Z7,R9,K9 _ (d8 8),m5,e8]
  case h2=>
   simp only[cz6,cQ7,hB,hD,G6,I9,den,dB,K1,ac7,aT4,aT5,aT6,ak3,ak4,G9,H8,I2,P1,I7,I3,J3,I5,d6,decide_eq_true_eq,M8,M9,N0,N6,N7,N8,N9,hf,F,H9,I1]
   rw[if_neg (by omega)]
  simp only[hB,hD,R5,hf,F,H9,I1,a26,List.length_cons,List.length_nil,Nat.reduceAdd,Nat.reduceSub,if_true,J8,G6,I9,den,dB,K1,ca2,ca3,a12,List.cons_append,List.nil_append,G9,H8,I2,I5,I3,d6,decide_eq_true_eq]
  simp only[e1,e2,e4,e8,K9 _ (d8 8),K9 _ (show 4≤8 by decide),K9 _ (show 2≤8 by decide),a96,ao9,wu8]
  simp[Q1,H9,I1,hk,hb,N4]
theorem dl1{ω:Opq}(hf: ∀i a,ω.f i a=F i a)(hk: ¬(1≤(ω.w 0).toI∧(ω.w 0).toI≤7))(hw:ad0 [ω.w 0,ω.w 1,ω.w 2,ω.w 3,ω.w 4,ω.w 5,ω.w 6,ω.w 7,ω.w 8,ω.w 9,ω.w 10,ω.w 11]=true):G6 cq6 ω=some (0,[F 6 [ω.w 0,ω.w 1,ω.w 2,ω.w 3,ω.w 4,ω.w 5,ω.w 6,ω.w 7,ω.w 8,ω.w 9,ω.w 10,ω.w 11],F 5 [ω.w 0,ω.w 1,ω.w 2,ω.w 3,ω.w 4,ω.w 5,ω.w 6,ω.w 7,ω.w 8,ω.w 9,ω.w 10,ω.w 11]]):=by
 have hr:K0 (K4 [ω.w 0,ω.w 1,ω.w 2,ω.w 3,ω.w 4,ω.w 5,ω.w 6,ω.w 7,ω.w 8,ω.w 9,ω.w 10,ω.w 11])=false:=by
  rw[P4]
  simp only[H9,I1]
  by_cases h1:1≤(ω.w 0).toI
  ·have h2: ¬(ω.w 0).toI≤7:=by omega
   simp[h2]
  ·simp[h1]
 obtain⟨q1,q2,_,_⟩:=Q5 hw
 simp only[H9,I1]at q1 q2
 have n1:((ω.w 10).toL.length:Int)≤1000:=by omega
 have n2:((ω.w 11).toL.length:Int)≤1000:=by omega
 have h4:F 4 [ω.w 0,ω.w 1,ω.w 2,ω.w 3,ω.w 4,ω.w 5,ω.w 6,ω.w 7,ω.w 8,ω.w 9,ω.w 10,ω.w 11]= .vb false:=by simp only[F,hr]
 have h5:F 5 [ω.w 0,ω.w 1,ω.w 2,ω.w 3,ω.w 4,ω.w 5,ω.w 6,ω.w 7,ω.w 8,ω.w 9,ω.w 10,ω.w 11]= .vl []:=by simp only[F,hr,cond_false]
 have h6:F 6 [ω.w 0,ω.w 1,ω.w 2,ω.w 3,ω.w 4,ω.w 5,ω.w 6,ω.w 7,ω.w 8,ω.w 9,ω.w 10,ω.w 11]= .vi 81:=by simp only[F,hr,cond_false]
 simp only[cq6,G6,I9,den,dB,K1,hf,n1,n2,I3,G9,d6,decide_eq_true_eq,decide_true,and_self,E2,h4,h5,h6,H8,if_true,i9]
theorem P5{a b:List Val}(h1:ak8 a=true)(h2:ak8 b=true):ak8 (a++b)=true:=by
 simp only[ak8,A4,d6]at*;exact⟨h1,h2⟩
theorem a97{x:Int}(h0:0≤x)(h1:x<256):ak8 [N4 x]=true:=by
 show((decide (0≤x)&&decide (x<256))&&true)=true
 rw[decide_eq_true h0,decide_eq_true h1];rfl
theorem T8(x:Int): ∀n,ak8 (beV x n)=true
 |0=>rfl
 |n+1=>P5 (a:=[N4 (x/256^n % 256)]) (a97 (by omega) (by omega)) (T8 x n)
theorem c43: ∀s:List UInt8,ak8 (s.map fun b=>N4 b.toNat)=true
 | []=>rfl
 |b::s=>P5 (a:=[N4 (b.toNat:Int)]) (a97 (by omega) (by have:=b.toNat_lt;omega)) (c43 s)
theorem d50(s:List UInt8):ak8 (aj5 s)=true:=by
 unfold aj5
 exact P5 (T8 _ _) (c43 s)
theorem cy4(r:Val):ak8 (R9 r)=true:=by
 unfold R9
 exact P5 (P5 (d50 _) (T8 _ _)) (T8 _ _)
theorem d51(r:Val):ak8 (Z7 r)=true:=by
 unfold Z7
 exact P5 (cy4 r) (P5 (P5 (P5 (T8 _ _) (T8 _ _)) (T8 _ _)) (T8 _ _))
theorem bg1{W:Val→List Val}(h: ∀r,ak8 (W r)=true): ∀l:List Val,ak8 (l.flatMap W)=true
 | []=>rfl
 |r::l=>by rw[v8];exact P5 (h r) (bg1 h l)
theorem dl2{a:List Val}(h:K0 (K4 a)=true):ak8 (Q1 a)=true:=by
 obtain⟨h1,h2,_⟩:=S2 h
 have z:ak8 []=true:=rfl
 unfold Q1
 refine P5 (P5 (a97 (by omega) (by omega)) (T8 _ _)) ?_
 split
 ·refine P5 (P5 (P5 (P5 (T8 _ _) ?_) (a97 (by omega) (by omega))) (bg1 d51 _)) ?_
  ·split
   ·exact a97 (by omega) (by omega)
   ·exact a97 (by omega) (by omega)
  ·split
   ·exact P5 (a97 (by omega) (by omega)) (bg1 cy4 _)
   ·exact z
 ·split
  ·exact P5 (P5 (T8 _ _) (T8 _ _)) (T8 _ _)
  ·split
   ·exact P5 (P5 (P5 (T8 _ _) (T8 _ _)) (T8 _ _)) (T8 _ _)
   ·split
    ·exact P5 (T8 _ _) (T8 _ _)
    ·exact z
theorem bV0{W:Val→List Val}{m:Nat}: ∀{l:List Val},(∀r∈l,(W r).length≤m)→(l.flatMap W).length≤m*l.length
 | [],_=>by simp
 |r::l,h=>by
  have h1:=h r (E4 ..)
  have h2:=bV0 (l:=l) (fun x hx=>h x (E3 _ hx))
  rw[v8,d7,List.length_cons,Nat.mul_add];omega
theorem d52{a:List Val}(h:K0 (K4 a)=true):(Q1 a).length≤5300:=by
 obtain⟨_,_,h3,h4,h5,_⟩:=S2 h
 have r1:((arg a 10).toL.flatMap Z7).length≤82*(arg a 10).toL.length:=bV0 fun r hr=>by
  have h6:S9 r=false:=by
   simp only[z9]at h4
   simpa using h4 r hr
  rw[a73]at h6
  rw[O1];omega
 have r2:((arg a 11).toL.flatMap R9).length≤50*(arg a 11).toL.length:=bV0 fun r hr=>by
  have h6:P9 r=false:=by
   simp only[z9]at h5
   simpa using h5 r hr
  rw[X8]at h6
  rw[M3];omega
 unfold Q1
 simp only[d7,List.length_cons,List.length_nil,J1]
 repeat' split
 all_goals (try simp only[d7,List.length_cons,List.length_nil,J1])
 all_goals omega
theorem cy5{a:List Val}(h:K0 (K4 a)=true):ad0 a=true:=by
 obtain⟨_,_,h3,h4,h5,_⟩:=S2 h
 have k1:(arg a 10).toL.any aP9=false:=by
  simp only[z9]at h4⊢
  intro r hr
  have h6:S9 r=false:=by simpa using h4 r hr
  rw[a73]at h6
  simp only[aP9,decide_eq_true_eq];omega
 have k2:(arg a 11).toL.any aP9=false:=by
  simp only[z9]at h5⊢
  intro r hr
  have h6:P9 r=false:=by simpa using h5 r hr
  rw[X8]at h6
  simp only[aP9,decide_eq_true_eq];omega
 unfold ad0
 rw[k1,k2,decide_eq_true (by omega),decide_eq_true (by omega)];rfl
theorem cy6{l:List Val}{s:Rd}{odd:Bool}{a:List Val}(h: ¬(arg (a19 l s odd a) 10).toI=0): ∃e,a19 l s odd a=aI5 e:=by
 unfold a19 at h⊢
 cases hb:s.bad with
 |true=>exact⟨_,rfl⟩
 |false=>
  cases hp:decide (s.pos<l.length)with
  |true=>exact⟨_,rfl⟩
  |false=>
   cases ho:(odd|| !K0 (K4 a))with
   |true=>exact⟨_,rfl⟩
   |false=>rw[hb,hp,ho]at h;exact absurd rfl h
theorem cM6{l:List Val}(h: ¬(arg (J5 l) 10).toI=0): ∃e,J5 l=aI5 e:=by
 unfold J5 T9 at h⊢
 repeat' split at h
 all_goals (try simp only[*,if_true,if_false])
 all_goals first
  |exact⟨_,rfl⟩
  |exact cy6 h
  |skip
theorem F4s(a:List Val):F 4 a= .vb (K0 (K4 a)):=rfl
theorem F5s(a:List Val):F 5 a= .vl (bif K0 (K4 a)then Q1 a else []):=rfl
theorem F6s(a:List Val):F 6 a= .vi (bif K0 (K4 a)then 0 else 81):=rfl
theorem F8s(a:List Val):F 8 a= .vb (ad0 a):=rfl
theorem dB6(a b:Val):F 12 [a,b]= .vb (eqB (a40 a) (a40 b)):=rfl
theorem bV1{ω:Opq}(hf: ∀i a,ω.f i a=F i a)(hb:ak8 (ω.w 12).toL=true)(ho:a49 [ω.w 0,ω.w 1,ω.w 2,ω.w 3,ω.w 4,ω.w 5,ω.w 6,ω.w 7,ω.w 8,ω.w 9,ω.w 10,ω.w 11]):G6 ae5 ω=some (0,[.vb true]):=by
 obtain⟨B,hB⟩: ∃B:Int,(1000000:Int)=B:=⟨_,rfl⟩
 simp only[ae5,az2,N3,az3,az4,az5,az6,az7,a69,az8,az9,an4,an5,an6,an7,a25,hB,G6,I9,den,dB,K1,a21,hf]
 cases hw:ad0 [ω.w 0,ω.w 1,ω.w 2,ω.w 3,ω.w 4,ω.w 5,ω.w 6,ω.w 7,ω.w 8,ω.w 9,ω.w 10,ω.w 11]with
 |false=>
  have h8:F 8 [ω.w 0,ω.w 1,ω.w 2,ω.w 3,ω.w 4,ω.w 5,ω.w 6,ω.w 7,ω.w 8,ω.w 9,ω.w 10,ω.w 11]= .vb false:=by rw[F8s,hw]
  simp only[h8,H8,i9,if_true]
 |true=>
 have h8:F 8 [ω.w 0,ω.w 1,ω.w 2,ω.w 3,ω.w 4,ω.w 5,ω.w 6,ω.w 7,ω.w 8,ω.w 9,ω.w 10,ω.w 11]= .vb true:=by rw[F8s,hw]
 simp only[h8,H8,G9,I2,j7,e9,if_false,J3,I3,I5,O2,d6,decide_eq_true_eq]
 by_cases h12:3000<((ω.w 12).toL.length:Int)
 ·exact ifp h12 rfl
 refine ifn h12 ?_
 obtain⟨q1,q2,_,_⟩:=Q5 hw
 simp only[H9,I1]at q1 q2
 refine ifp (by omega) ?_
 have hl:okL (ω.w 12).toL=true:=by
  unfold okL;rw[hb,decide_eq_true (by omega)];rfl
 have r1:(F 61 [ω.w 12]).toL.length≤255:=aQ5 hl
 have r2:(F 62 [ω.w 12]).toL.length≤255:=aQ6 hl
 have hB2: ∀T:Option (Nat×List Val),T=(if((ω.w 12).toL.length:Int)≤B∧ak8 (ω.w 12).toL=true then(if((!decide ((F 60 [ω.w 12]).toI=0))=true)then(if((F 61 [ω.w 12]).toL.length:Int)≤B∧((F 62 [ω.w 12]).toL.length:Int)≤B then(if(F 7 [F 50 [ω.w 12],F 51 [ω.w 12],F 52 [ω.w 12],F 53 [ω.w 12],F 54 [ω.w 12],F 55 [ω.w 12],F 56 [ω.w 12],F 57 [ω.w 12],F 58 [ω.w 12],F 59 [ω.w 12],F 61 [ω.w 12],F 62 [ω.w 12],.vi 0,.vi 0,.vi 0,.vb false,.vi 0,.vi 0,.vi 0,.vi 0,.vi 0,.vi 0,.vl [],.vl []]).toB=true then some (0,[F 7 [F 50 [ω.w 12],F 51 [ω.w 12],F 52 [ω.w 12],F 53 [ω.w 12],F 54 [ω.w 12],F 55 [ω.w 12],F 56 [ω.w 12],F 57 [ω.w 12],F 58 [ω.w 12],F 59 [ω.w 12],F 61 [ω.w 12],F 62 [ω.w 12],.vi 0,.vi 0,.vi 0,.vb false,.vi 0,.vi 0,.vi 0,.vi 0,.vi 0,.vi 0,.vl [],.vl []]])else some (0,[.vb false]))else none)else(if(F 8 [F 50 [ω.w 12],F 51 [ω.w 12],F 52 [ω.w 12],F 53 [ω.w 12],F 54 [ω.w 12],F 55 [ω.w 12],F 56 [ω.w 12],F 57 [ω.w 12],F 58 [ω.w 12],F 59 [ω.w 12],F 61 [ω.w 12],F 62 [ω.w 12]]).toB=true then(if(F 6 [F 50 [ω.w 12],F 51 [ω.w 12],F 52 [ω.w 12],F 53 [ω.w 12],F 54 [ω.w 12],F 55 [ω.w 12],F 56 [ω.w 12],F 57 [ω.w 12],F 58 [ω.w 12],F 59 [ω.w 12],F 61 [ω.w 12],F 62 [ω.w 12]]).toI=0 then(if((F 61 [ω.w 12]).toL.length:Int)≤1000∧((F 62 [ω.w 12]).toL.length:Int)≤1000 then(if(F 4 [F 50 [ω.w 12],F 51 [ω.w 12],F 52 [ω.w 12],F 53 [ω.w 12],F 54 [ω.w 12],F 55 [ω.w 12],F 56 [ω.w 12],F 57 [ω.w 12],F 58 [ω.w 12],F 59 [ω.w 12],F 61 [ω.w 12],F 62 [ω.w 12]]).toB=true then(if((F 5 [F 50 [ω.w 12],F 51 [ω.w 12],F 52 [ω.w 12],F 53 [ω.w 12],F 54 [ω.w 12],F 55 [ω.w 12],F 56 [ω.w 12],F 57 [ω.w 12],F 58 [ω.w 12],F 59 [ω.w 12],F 61 [ω.w 12],F 62 [ω.w 12]]).toL.length:Int)≤B then(if(F 12 [F 5 [F 50 [ω.w 12],F 51 [ω.w 12],F 52 [ω.w 12],F 53 [ω.w 12],F 54 [ω.w 12],F 55 [ω.w 12],F 56 [ω.w 12],F 57 [ω.w 12],F 58 [ω.w 12],F 59 [ω.w 12],F 61 [ω.w 12],F 62 [ω.w 12]],ω.w 12]).toB=true then some (0,[F 12 [F 5 [F 50 [ω.w 12],F 51 [ω.w 12],F 52 [ω.w 12],F 53 [ω.w 12],F 54 [ω.w 12],F 55 [ω.w 12],F 56 [ω.w 12],F 57 [ω.w 12],F 58 [ω.w 12],F 59 [ω.w 12],F 61 [ω.w 12],F 62 [ω.w 12]],ω.w 12]])else some (0,[.vb false]))else none)else some (0,[.vb false]))else none)else some (0,[.vb false]))else none))else none)→T=some (0,[.vb true]):=by
  intro T hT
  rw[hT]
  refine ifp ⟨by omega,hb⟩ ?_
  by_cases he:(arg (J5 (ω.w 12).toL) 10).toI=0
  ·have h60:(F 60 [ω.w 12]).toI=0:=he
   obtain⟨b1,b2⟩:=back hl he
   have hV:[F 50 [ω.w 12],F 51 [ω.w 12],F 52 [ω.w 12],F 53 [ω.w 12],F 54 [ω.w 12],F 55 [ω.w 12],F 56 [ω.w 12],F 57 [ω.w 12],F 58 [ω.w 12],F 59 [ω.w 12],F 61 [ω.w 12],F 62 [ω.w 12]]=prs (ω.w 12).toL:=rfl
   refine ifn (by rw[h60];decide) ?_
   rw[hV,F8s,cy5 b1,F6s,b1,F4s,b1,F5s,b1]
   have hlen:(Q1 (prs (ω.w 12).toL)).length=(ω.w 12).toL.length:=by
    have:=congrArg List.length b2
    simpa using this
   have h13:F 12 [.vl (Q1 (prs (ω.w 12).toL)),ω.w 12]= .vb true:=by
    rw[dB6]
    exact congrArg Val.vb (d15 b2)
   simp only[cond_true,h13,H8,G9,I2,if_true]
   refine ifp (by omega) ?_
   exact ifp (by omega) rfl
  ·obtain⟨e,hz⟩:=cM6 he
   have h7:F 7 [F 50 [ω.w 12],F 51 [ω.w 12],F 52 [ω.w 12],F 53 [ω.w 12],F 54 [ω.w 12],F 55 [ω.w 12],F 56 [ω.w 12],F 57 [ω.w 12],F 58 [ω.w 12],F 59 [ω.w 12],F 61 [ω.w 12],F 62 [ω.w 12],.vi 0,.vi 0,.vi 0,.vb false,.vi 0,.vi 0,.vi 0,.vi 0,.vi 0,.vi 0,.vl [],.vl []]= .vb true:=by
    show Val.vb (eqB (K4 [arg (J5 (ω.w 12).toL) 0,arg (J5 (ω.w 12).toL) 1,arg (J5 (ω.w 12).toL) 2,arg (J5 (ω.w 12).toL) 3,arg (J5 (ω.w 12).toL) 4,arg (J5 (ω.w 12).toL) 5,arg (J5 (ω.w 12).toL) 6,arg (J5 (ω.w 12).toL) 7,arg (J5 (ω.w 12).toL) 8,arg (J5 (ω.w 12).toL) 9,arg (J5 (ω.w 12).toL) 11,arg (J5 (ω.w 12).toL) 12]) (K4 [.vi 0,.vi 0,.vi 0,.vb false,.vi 0,.vi 0,.vi 0,.vi 0,.vi 0,.vi 0,.vl [],.vl []]))=_
    rw[hz]
    exact congrArg Val.vb (Q0 _)
   have h60: ¬(F 60 [ω.w 12]).toI=0:=he
   refine ifp (by rw[decide_eq_false h60];rfl) ?_
   refine ifp (by omega) ?_
   rw[h7];rfl
 cases hr:K0 (K4 [ω.w 0,ω.w 1,ω.w 2,ω.w 3,ω.w 4,ω.w 5,ω.w 6,ω.w 7,ω.w 8,ω.w 9,ω.w 10,ω.w 11])with
 |false=>
  have h4:F 4 [ω.w 0,ω.w 1,ω.w 2,ω.w 3,ω.w 4,ω.w 5,ω.w 6,ω.w 7,ω.w 8,ω.w 9,ω.w 10,ω.w 11]= .vb false:=by rw[F4s,hr]
  have h6:F 6 [ω.w 0,ω.w 1,ω.w 2,ω.w 3,ω.w 4,ω.w 5,ω.w 6,ω.w 7,ω.w 8,ω.w 9,ω.w 10,ω.w 11]= .vi 81:=by rw[F6s,hr];rfl
  simp only[h4,h6,H8,G9,(by decide: ¬((81:Int)=0)),decide_false,beq_self_eq_true,j7,e9,if_false]
  exact hB2 _ rfl
 |true=>
  have h4:F 4 [ω.w 0,ω.w 1,ω.w 2,ω.w 3,ω.w 4,ω.w 5,ω.w 6,ω.w 7,ω.w 8,ω.w 9,ω.w 10,ω.w 11]= .vb true:=by rw[F4s,hr]
  have h6:F 6 [ω.w 0,ω.w 1,ω.w 2,ω.w 3,ω.w 4,ω.w 5,ω.w 6,ω.w 7,ω.w 8,ω.w 9,ω.w 10,ω.w 11]= .vi 0:=by rw[F6s,hr];rfl
  have h5:F 5 [ω.w 0,ω.w 1,ω.w 2,ω.w 3,ω.w 4,ω.w 5,ω.w 6,ω.w 7,ω.w 8,ω.w 9,ω.w 10,ω.w 11]= .vl (Q1 [ω.w 0,ω.w 1,ω.w 2,ω.w 3,ω.w 4,ω.w 5,ω.w 6,ω.w 7,ω.w 8,ω.w 9,ω.w 10,ω.w 11]):=by rw[F5s,hr];rfl
  obtain⟨f1,f2⟩:=fwd hr ho
  have p1:=d52 hr
  have p2:=dl2 hr
  have hl2:okL (Q1 [ω.w 0,ω.w 1,ω.w 2,ω.w 3,ω.w 4,ω.w 5,ω.w 6,ω.w 7,ω.w 8,ω.w 9,ω.w 10,ω.w 11])=true:=by
   unfold okL;rw[p2,decide_eq_true (by omega)];rfl
  have h60:(F 60 [.vl (Q1 [ω.w 0,ω.w 1,ω.w 2,ω.w 3,ω.w 4,ω.w 5,ω.w 6,ω.w 7,ω.w 8,ω.w 9,ω.w 10,ω.w 11])]).toI=0:=f1
  have s1:(F 61 [.vl (Q1 [ω.w 0,ω.w 1,ω.w 2,ω.w 3,ω.w 4,ω.w 5,ω.w 6,ω.w 7,ω.w 8,ω.w 9,ω.w 10,ω.w 11])]).toL.length≤255:=aQ5 hl2
  have s2:(F 62 [.vl (Q1 [ω.w 0,ω.w 1,ω.w 2,ω.w 3,ω.w 4,ω.w 5,ω.w 6,ω.w 7,ω.w 8,ω.w 9,ω.w 10,ω.w 11])]).toL.length≤255:=aQ6 hl2
  have h7:F 7 [F 50 [.vl (Q1 [ω.w 0,ω.w 1,ω.w 2,ω.w 3,ω.w 4,ω.w 5,ω.w 6,ω.w 7,ω.w 8,ω.w 9,ω.w 10,ω.w 11])],F 51 [.vl (Q1 [ω.w 0,ω.w 1,ω.w 2,ω.w 3,ω.w 4,ω.w 5,ω.w 6,ω.w 7,ω.w 8,ω.w 9,ω.w 10,ω.w 11])],F 52 [.vl (Q1 [ω.w 0,ω.w 1,ω.w 2,ω.w 3,ω.w 4,ω.w 5,ω.w 6,ω.w 7,ω.w 8,ω.w 9,ω.w 10,ω.w 11])],F 53 [.vl (Q1 [ω.w 0,ω.w 1,ω.w 2,ω.w 3,ω.w 4,ω.w 5,ω.w 6,ω.w 7,ω.w 8,ω.w 9,ω.w 10,ω.w 11])],F 54 [.vl (Q1 [ω.w 0,ω.w 1,ω.w 2,ω.w 3,ω.w 4,ω.w 5,ω.w 6,ω.w 7,ω.w 8,ω.w 9,ω.w 10,ω.w 11])],F 55 [.vl (Q1 [ω.w 0,ω.w 1,ω.w 2,ω.w 3,ω.w 4,ω.w 5,ω.w 6,ω.w 7,ω.w 8,ω.w 9,ω.w 10,ω.w 11])],F 56 [.vl (Q1 [ω.w 0,ω.w 1,ω.w 2,ω.w 3,ω.w 4,ω.w 5,ω.w 6,ω.w 7,ω.w 8,ω.w 9,ω.w 10,ω.w 11])],F 57 [.vl (Q1 [ω.w 0,ω.w 1,ω.w 2,ω.w 3,ω.w 4,ω.w 5,ω.w 6,ω.w 7,ω.w 8,ω.w 9,ω.w 10,ω.w 11])],F 58 [.vl (Q1 [ω.w 0,ω.w 1,ω.w 2,ω.w 3,ω.w 4,ω.w 5,ω.w 6,ω.w 7,ω.w 8,ω.w 9,ω.w 10,ω.w 11])],F 59 [.vl (Q1 [ω.w 0,ω.w 1,ω.w 2,ω.w 3,ω.w 4,ω.w 5,ω.w 6,ω.w 7,ω.w 8,ω.w 9,ω.w 10,ω.w 11])],F 61 [.vl (Q1 [ω.w 0,ω.w 1,ω.w 2,ω.w 3,ω.w 4,ω.w 5,ω.w 6,ω.w 7,ω.w 8,ω.w 9,ω.w 10,ω.w 11])],F 62 [.vl (Q1 [ω.w 0,ω.w 1,ω.w 2,ω.w 3,ω.w 4,ω.w 5,ω.w 6,ω.w 7,ω.w 8,ω.w 9,ω.w 10,ω.w 11])],ω.w 0,ω.w 1,ω.w 2,ω.w 3,ω.w 4,ω.w 5,ω.w 6,ω.w 7,ω.w 8,ω.w 9,ω.w 10,ω.w 11]= .vb true:=by
   show Val.vb (eqB (K4 (prs (Q1 [ω.w 0,ω.w 1,ω.w 2,ω.w 3,ω.w 4,ω.w 5,ω.w 6,ω.w 7,ω.w 8,ω.w 9,ω.w 10,ω.w 11]))) (K4 [ω.w 0,ω.w 1,ω.w 2,ω.w 3,ω.w 4,ω.w 5,ω.w 6,ω.w 7,ω.w 8,ω.w 9,ω.w 10,ω.w 11]))=_
   exact congrArg Val.vb (d15 f2)
  simp only[h4,h6,h5,h7,h60,H8,G9,I2,decide_true,beq_self_eq_true,j7,e9,if_false,if_true]
  refine ifp ⟨by omega,p2⟩ ?_
  refine ifp (by omega) ?_
  refine ifn (by omega) ?_
  refine ifn (by omega) ?_
  exact hB2 _ rfl
theorem d53{ω:Opq}(hf: ∀i a,ω.f i a=F i a)(hk:(ω.w 0).toI=2)(hw:ad0 [ω.w 0,ω.w 1,ω.w 2,ω.w 3,ω.w 4,ω.w 5,ω.w 6,ω.w 7,ω.w 8,ω.w 9,ω.w 10,ω.w 11]=true)(hp:0≤(ω.w 4).toI∧0≤(ω.w 5).toI∧0≤(ω.w 6).toI∧0≤(ω.w 7).toI∧0≤(ω.w 8).toI∧0≤(ω.w 9).toI):G6 bR2 ω=some (0,[F 6 [ω.w 0,ω.w 1,ω.w 2,ω.w 3,ω.w 4,ω.w 5,ω.w 6,ω.w 7,ω.w 8,ω.w 9,ω.w 10,ω.w 11],F 5 [ω.w 0,ω.w 1,ω.w 2,ω.w 3,ω.w 4,ω.w 5,ω.w 6,ω.w 7,ω.w 8,ω.w 9,ω.w 10,ω.w 11]]):=by
 obtain⟨p4,p5,p6,p7,p8,p9⟩:=hp
 obtain⟨q1,q2,q3,q4⟩:=Q5 hw
 simp only[H9,I1]at q1 q2 q3 q4
 have e1:(1:Int).toNat=1:=rfl
 have e2:(2:Int).toNat=2:=rfl
 have e4:(4:Int).toNat=4:=rfl
 have e8:(8:Int).toNat=8:=rfl
 obtain⟨B,hB⟩: ∃B:Int,(1000000:Int)=B:=⟨_,rfl⟩
 obtain⟨D,hD⟩: ∃B:Int,(100000:Int)=B:=⟨_,rfl⟩
 have hR:K0 (K4 [.vi 2,ω.w 1,ω.w 2,ω.w 3,ω.w 4,ω.w 5,ω.w 6,ω.w 7,ω.w 8,ω.w 9,ω.w 10,ω.w 11])=K0 (K4 [ω.w 0,ω.w 1,ω.w 2,ω.w 3,ω.w 4,ω.w 5,ω.w 6,ω.w 7,ω.w 8,ω.w 9,ω.w 10,ω.w 11]):=by
  simp only[K4,H9,I1,G9,hk]
 have n1:((ω.w 10).toL.length:Int)≤1000:=by omega
 have n2:((ω.w 11).toL.length:Int)≤1000:=by omega
 simp only[bR2,bQ8,bQ9,bR0,bR1,hB,hD,G6,J8,I9,den,dB,K1,hf,H8,G9,I2,I7,I3,J3,I5,d6,decide_eq_true_eq,List.cons_append,List.nil_append]
 refine(if_pos ⟨n1,n2⟩).trans ?_
 cases hr:K0 (K4 [ω.w 0,ω.w 1,ω.w 2,ω.w 3,ω.w 4,ω.w 5,ω.w 6,ω.w 7,ω.w 8,ω.w 9,ω.w 10,ω.w 11])with
 |false=>simp only[F,hR,hr,i9,if_true,H8,cond_false]
 |true=>
 have hr':(F 4 [.vi 2,ω.w 1,ω.w 2,ω.w 3,ω.w 4,ω.w 5,ω.w 6,ω.w 7,ω.w 8,ω.w 9,ω.w 10,ω.w 11]).toB=true:=by simp only[F,hR,hr,H8]
 have h5:F 5 [ω.w 0,ω.w 1,ω.w 2,ω.w 3,ω.w 4,ω.w 5,ω.w 6,ω.w 7,ω.w 8,ω.w 9,ω.w 10,ω.w 11]= .vl (Q1 [ω.w 0,ω.w 1,ω.w 2,ω.w 3,ω.w 4,ω.w 5,ω.w 6,ω.w 7,ω.w 8,ω.w 9,ω.w 10,ω.w 11]):=by simp only[F,hr,cond_true]
 have h6:F 6 [ω.w 0,ω.w 1,ω.w 2,ω.w 3,ω.w 4,ω.w 5,ω.w 6,ω.w 7,ω.w 8,ω.w 9,ω.w 10,ω.w 11]= .vi 0:=by simp only[F,hr,cond_true]
 rw[hr',h5,h6]
 simp only[j7,e9,if_false,F,H9,I1,G9,I2]
 refine(if_pos (by simp only[aI7];omega)).trans ?_
 refine(if_pos (by simp only[d7,List.length_cons,List.length_nil,J1,J0,e1,e2,e4,e8];omega)).trans ?_
 refine(if_pos (p7)).trans ?_
 refine(if_pos (by simp only[d7,List.length_cons,List.length_nil,J1,J0,e1,e2,e4,e8];omega)).trans ?_
 refine(if_pos (p4)).trans ?_
 refine(if_pos (by simp only[d7,List.length_cons,List.length_nil,J1,J0,e1,e2,e4,e8];omega)).trans ?_
 refine(if_pos (p6)).trans ?_
 refine(if_pos (by simp only[d7,List.length_cons,List.length_nil,J1,J0,e1,e2,e4,e8];omega)).trans ?_
 simp only[e1,e2,e4,e8,K9 _ (d8 8),K9 _ (show 4≤8 by decide),K9 _ (show 2≤8 by decide),a96]
 simp[Q1,H9,I1,hk,N4]
theorem d54{ω:Opq}(hf: ∀i a,ω.f i a=F i a)(hk:(ω.w 0).toI=3)(hw:ad0 [ω.w 0,ω.w 1,ω.w 2,ω.w 3,ω.w 4,ω.w 5,ω.w 6,ω.w 7,ω.w 8,ω.w 9,ω.w 10,ω.w 11]=true)(hp:0≤(ω.w 4).toI∧0≤(ω.w 5).toI∧0≤(ω.w 6).toI∧0≤(ω.w 7).toI∧0≤(ω.w 8).toI∧0≤(ω.w 9).toI):G6 bR7 ω=some (0,[F 6 [ω.w 0,ω.w 1,ω.w 2,ω.w 3,ω.w 4,ω.w 5,ω.w 6,ω.w 7,ω.w 8,ω.w 9,ω.w 10,ω.w 11],F 5 [ω.w 0,ω.w 1,ω.w 2,ω.w 3,ω.w 4,ω.w 5,ω.w 6,ω.w 7,ω.w 8,ω.w 9,ω.w 10,ω.w 11]]):=by
 obtain⟨p4,p5,p6,p7,p8,p9⟩:=hp
 obtain⟨q1,q2,q3,q4⟩:=Q5 hw
 simp only[H9,I1]at q1 q2 q3 q4
 have e1:(1:Int).toNat=1:=rfl
 have e2:(2:Int).toNat=2:=rfl
 have e4:(4:Int).toNat=4:=rfl
 have e8:(8:Int).toNat=8:=rfl
 obtain⟨B,hB⟩: ∃B:Int,(1000000:Int)=B:=⟨_,rfl⟩
 obtain⟨D,hD⟩: ∃B:Int,(100000:Int)=B:=⟨_,rfl⟩
 have hR:K0 (K4 [.vi 3,ω.w 1,ω.w 2,ω.w 3,ω.w 4,ω.w 5,ω.w 6,ω.w 7,ω.w 8,ω.w 9,ω.w 10,ω.w 11])=K0 (K4 [ω.w 0,ω.w 1,ω.w 2,ω.w 3,ω.w 4,ω.w 5,ω.w 6,ω.w 7,ω.w 8,ω.w 9,ω.w 10,ω.w 11]):=by
  simp only[K4,H9,I1,G9,hk]
 have n1:((ω.w 10).toL.length:Int)≤1000:=by omega
 have n2:((ω.w 11).toL.length:Int)≤1000:=by omega
 simp only[bR7,bR3,bR4,bR5,bR6,hB,hD,G6,J8,I9,den,dB,K1,hf,H8,G9,I2,I7,I3,J3,I5,d6,decide_eq_true_eq,List.cons_append,List.nil_append]
 refine(if_pos ⟨n1,n2⟩).trans ?_
 cases hr:K0 (K4 [ω.w 0,ω.w 1,ω.w 2,ω.w 3,ω.w 4,ω.w 5,ω.w 6,ω.w 7,ω.w 8,ω.w 9,ω.w 10,ω.w 11])with
 |false=>simp only[F,hR,hr,i9,if_true,H8,cond_false]
 |true=>
 have hr':(F 4 [.vi 3,ω.w 1,ω.w 2,ω.w 3,ω.w 4,ω.w 5,ω.w 6,ω.w 7,ω.w 8,ω.w 9,ω.w 10,ω.w 11]).toB=true:=by simp only[F,hR,hr,H8]
 have h5:F 5 [ω.w 0,ω.w 1,ω.w 2,ω.w 3,ω.w 4,ω.w 5,ω.w 6,ω.w 7,ω.w 8,ω.w 9,ω.w 10,ω.w 11]= .vl (Q1 [ω.w 0,ω.w 1,ω.w 2,ω.w 3,ω.w 4,ω.w 5,ω.w 6,ω.w 7,ω.w 8,ω.w 9,ω.w 10,ω.w 11]):=by simp only[F,hr,cond_true]
 have h6:F 6 [ω.w 0,ω.w 1,ω.w 2,ω.w 3,ω.w 4,ω.w 5,ω.w 6,ω.w 7,ω.w 8,ω.w 9,ω.w 10,ω.w 11]= .vi 0:=by simp only[F,hr,cond_true]
 rw[hr',h5,h6]
 simp only[j7,e9,if_false,F,H9,I1,G9,I2]
 refine(if_pos (by simp only[aI7];omega)).trans ?_
 refine(if_pos (by simp only[d7,List.length_cons,List.length_nil,J1,J0,e1,e2,e4,e8];omega)).trans ?_
 refine(if_pos (p7)).trans ?_
 refine(if_pos (by simp only[d7,List.length_cons,List.length_nil,J1,J0,e1,e2,e4,e8];omega)).trans ?_
 refine(if_pos (p4)).trans ?_
 refine(if_pos (by simp only[d7,List.length_cons,List.length_nil,J1,J0,e1,e2,e4,e8];omega)).trans ?_
 refine(if_pos (p6)).trans ?_
 refine(if_pos (by simp only[d7,List.length_cons,List.length_nil,J1,J0,e1,e2,e4,e8];omega)).trans ?_
 simp only[e1,e2,e4,e8,K9 _ (d8 8),K9 _ (show 4≤8 by decide),K9 _ (show 2≤8 by decide),a96]
 simp[Q1,H9,I1,hk,N4]
theorem d55{ω:Opq}(hf: ∀i a,ω.f i a=F i a)(hk:(ω.w 0).toI=5)(hw:ad0 [ω.w 0,ω.w 1,ω.w 2,ω.w 3,ω.w 4,ω.w 5,ω.w 6,ω.w 7,ω.w 8,ω.w 9,ω.w 10,ω.w 11]=true)(hp:0≤(ω.w 4).toI∧0≤(ω.w 5).toI∧0≤(ω.w 6).toI∧0≤(ω.w 7).toI∧0≤(ω.w 8).toI∧0≤(ω.w 9).toI):G6 bT0 ω=some (0,[F 6 [ω.w 0,ω.w 1,ω.w 2,ω.w 3,ω.w 4,ω.w 5,ω.w 6,ω.w 7,ω.w 8,ω.w 9,ω.w 10,ω.w 11],F 5 [ω.w 0,ω.w 1,ω.w 2,ω.w 3,ω.w 4,ω.w 5,ω.w 6,ω.w 7,ω.w 8,ω.w 9,ω.w 10,ω.w 11]]):=by
 obtain⟨p4,p5,p6,p7,p8,p9⟩:=hp
 obtain⟨q1,q2,q3,q4⟩:=Q5 hw
 simp only[H9,I1]at q1 q2 q3 q4
 have e1:(1:Int).toNat=1:=rfl
 have e2:(2:Int).toNat=2:=rfl
 have e4:(4:Int).toNat=4:=rfl
 have e8:(8:Int).toNat=8:=rfl
 obtain⟨B,hB⟩: ∃B:Int,(1000000:Int)=B:=⟨_,rfl⟩
 obtain⟨D,hD⟩: ∃B:Int,(100000:Int)=B:=⟨_,rfl⟩
 have hR:K0 (K4 [.vi 5,ω.w 1,ω.w 2,ω.w 3,ω.w 4,ω.w 5,ω.w 6,ω.w 7,ω.w 8,ω.w 9,ω.w 10,ω.w 11])=K0 (K4 [ω.w 0,ω.w 1,ω.w 2,ω.w 3,ω.w 4,ω.w 5,ω.w 6,ω.w 7,ω.w 8,ω.w 9,ω.w 10,ω.w 11]):=by
  simp only[K4,H9,I1,G9,hk]
 have n1:((ω.w 10).toL.length:Int)≤1000:=by omega
 have n2:((ω.w 11).toL.length:Int)≤1000:=by omega
 simp only[bT0,bS5,bS6,bS7,bS8,bS9,hB,hD,G6,J8,I9,den,dB,K1,hf,H8,G9,I2,I7,I3,J3,I5,d6,decide_eq_true_eq,List.cons_append,List.nil_append]
 refine(if_pos ⟨n1,n2⟩).trans ?_
 cases hr:K0 (K4 [ω.w 0,ω.w 1,ω.w 2,ω.w 3,ω.w 4,ω.w 5,ω.w 6,ω.w 7,ω.w 8,ω.w 9,ω.w 10,ω.w 11])with
 |false=>simp only[F,hR,hr,i9,if_true,H8,cond_false]
 |true=>
 have hr':(F 4 [.vi 5,ω.w 1,ω.w 2,ω.w 3,ω.w 4,ω.w 5,ω.w 6,ω.w 7,ω.w 8,ω.w 9,ω.w 10,ω.w 11]).toB=true:=by simp only[F,hR,hr,H8]
 have h5:F 5 [ω.w 0,ω.w 1,ω.w 2,ω.w 3,ω.w 4,ω.w 5,ω.w 6,ω.w 7,ω.w 8,ω.w 9,ω.w 10,ω.w 11]= .vl (Q1 [ω.w 0,ω.w 1,ω.w 2,ω.w 3,ω.w 4,ω.w 5,ω.w 6,ω.w 7,ω.w 8,ω.w 9,ω.w 10,ω.w 11]):=by simp only[F,hr,cond_true]
 have h6:F 6 [ω.w 0,ω.w 1,ω.w 2,ω.w 3,ω.w 4,ω.w 5,ω.w 6,ω.w 7,ω.w 8,ω.w 9,ω.w 10,ω.w 11]= .vi 0:=by simp only[F,hr,cond_true]
 rw[hr',h5,h6]
 simp only[j7,e9,if_false,F,H9,I1,G9,I2]
 refine(if_pos (by simp only[aI7];omega)).trans ?_
 refine(if_pos (by simp only[d7,List.length_cons,List.length_nil,J1,J0,e1,e2,e4,e8];omega)).trans ?_
 refine(if_pos (p4)).trans ?_
 refine(if_pos (by simp only[d7,List.length_cons,List.length_nil,J1,J0,e1,e2,e4,e8];omega)).trans ?_
 refine(if_pos (p5)).trans ?_
 refine(if_pos (by simp only[d7,List.length_cons,List.length_nil,J1,J0,e1,e2,e4,e8];omega)).trans ?_
 refine(if_pos (p8)).trans ?_
 refine(if_pos (by simp only[d7,List.length_cons,List.length_nil,J1,J0,e1,e2,e4,e8];omega)).trans ?_
 refine(if_pos (p9)).trans ?_
 refine(if_pos (by simp only[d7,List.length_cons,List.length_nil,J1,J0,e1,e2,e4,e8];omega)).trans ?_
 simp only[e1,e2,e4,e8,K9 _ (d8 8),K9 _ (show 4≤8 by decide),K9 _ (show 2≤8 by decide),a96]
 simp[Q1,H9,I1,hk,N4]
theorem d56{ω:Opq}(hf: ∀i a,ω.f i a=F i a)(hk:(ω.w 0).toI=6)(hw:ad0 [ω.w 0,ω.w 1,ω.w 2,ω.w 3,ω.w 4,ω.w 5,ω.w 6,ω.w 7,ω.w 8,ω.w 9,ω.w 10,ω.w 11]=true)(hp:0≤(ω.w 4).toI∧0≤(ω.w 5).toI∧0≤(ω.w 6).toI∧0≤(ω.w 7).toI∧0≤(ω.w 8).toI∧0≤(ω.w 9).toI):G6 bT2 ω=some (0,[F 6 [ω.w 0,ω.w 1,ω.w 2,ω.w 3,ω.w 4,ω.w 5,ω.w 6,ω.w 7,ω.w 8,ω.w 9,ω.w 10,ω.w 11],F 5 [ω.w 0,ω.w 1,ω.w 2,ω.w 3,ω.w 4,ω.w 5,ω.w 6,ω.w 7,ω.w 8,ω.w 9,ω.w 10,ω.w 11]]):=by
 obtain⟨p4,p5,p6,p7,p8,p9⟩:=hp
 obtain⟨q1,q2,q3,q4⟩:=Q5 hw
 simp only[H9,I1]at q1 q2 q3 q4
 have e1:(1:Int).toNat=1:=rfl
 have e2:(2:Int).toNat=2:=rfl
 have e4:(4:Int).toNat=4:=rfl
 have e8:(8:Int).toNat=8:=rfl
 obtain⟨B,hB⟩: ∃B:Int,(1000000:Int)=B:=⟨_,rfl⟩
 obtain⟨D,hD⟩: ∃B:Int,(100000:Int)=B:=⟨_,rfl⟩
 have hR:K0 (K4 [.vi 6,ω.w 1,ω.w 2,ω.w 3,ω.w 4,ω.w 5,ω.w 6,ω.w 7,ω.w 8,ω.w 9,ω.w 10,ω.w 11])=K0 (K4 [ω.w 0,ω.w 1,ω.w 2,ω.w 3,ω.w 4,ω.w 5,ω.w 6,ω.w 7,ω.w 8,ω.w 9,ω.w 10,ω.w 11]):=by
  simp only[K4,H9,I1,G9,hk]
 have n1:((ω.w 10).toL.length:Int)≤1000:=by omega
 have n2:((ω.w 11).toL.length:Int)≤1000:=by omega
 simp only[bT2,bT1,hB,hD,G6,J8,I9,den,dB,K1,hf,H8,G9,I2,I7,I3,J3,I5,d6,decide_eq_true_eq,List.cons_append,List.nil_append]
 refine(if_pos ⟨n1,n2⟩).trans ?_
 cases hr:K0 (K4 [ω.w 0,ω.w 1,ω.w 2,ω.w 3,ω.w 4,ω.w 5,ω.w 6,ω.w 7,ω.w 8,ω.w 9,ω.w 10,ω.w 11])with
 |false=>simp only[F,hR,hr,i9,if_true,H8,cond_false]
 |true=>
 have hr':(F 4 [.vi 6,ω.w 1,ω.w 2,ω.w 3,ω.w 4,ω.w 5,ω.w 6,ω.w 7,ω.w 8,ω.w 9,ω.w 10,ω.w 11]).toB=true:=by simp only[F,hR,hr,H8]
 have h5:F 5 [ω.w 0,ω.w 1,ω.w 2,ω.w 3,ω.w 4,ω.w 5,ω.w 6,ω.w 7,ω.w 8,ω.w 9,ω.w 10,ω.w 11]= .vl (Q1 [ω.w 0,ω.w 1,ω.w 2,ω.w 3,ω.w 4,ω.w 5,ω.w 6,ω.w 7,ω.w 8,ω.w 9,ω.w 10,ω.w 11]):=by simp only[F,hr,cond_true]
 have h6:F 6 [ω.w 0,ω.w 1,ω.w 2,ω.w 3,ω.w 4,ω.w 5,ω.w 6,ω.w 7,ω.w 8,ω.w 9,ω.w 10,ω.w 11]= .vi 0:=by simp only[F,hr,cond_true]
 rw[hr',h5,h6]
 simp only[j7,e9,if_false,F,H9,I1,G9,I2]
 refine(if_pos (by simp only[aI7];omega)).trans ?_
 refine(if_pos (by simp only[d7,List.length_cons,List.length_nil,J1,J0,e1,e2,e4,e8];omega)).trans ?_
 simp only[e1,e2,e4,e8,K9 _ (d8 8),K9 _ (show 4≤8 by decide),K9 _ (show 2≤8 by decide),a96]
 simp[Q1,H9,I1,hk,N4]
theorem d57{ω:Opq}(hf: ∀i a,ω.f i a=F i a)(hk:(ω.w 0).toI=7)(hw:ad0 [ω.w 0,ω.w 1,ω.w 2,ω.w 3,ω.w 4,ω.w 5,ω.w 6,ω.w 7,ω.w 8,ω.w 9,ω.w 10,ω.w 11]=true)(hp:0≤(ω.w 4).toI∧0≤(ω.w 5).toI∧0≤(ω.w 6).toI∧0≤(ω.w 7).toI∧0≤(ω.w 8).toI∧0≤(ω.w 9).toI):G6 bT6 ω=some (0,[F 6 [ω.w 0,ω.w 1,ω.w 2,ω.w 3,ω.w 4,ω.w 5,ω.w 6,ω.w 7,ω.w 8,ω.w 9,ω.w 10,ω.w 11],F 5 [ω.w 0,ω.w 1,ω.w 2,ω.w 3,ω.w 4,ω.w 5,ω.w 6,ω.w 7,ω.w 8,ω.w 9,ω.w 10,ω.w 11]]):=by
 obtain⟨p4,p5,p6,p7,p8,p9⟩:=hp
 obtain⟨q1,q2,q3,q4⟩:=Q5 hw
 simp only[H9,I1]at q1 q2 q3 q4
 have e1:(1:Int).toNat=1:=rfl
 have e2:(2:Int).toNat=2:=rfl
 have e4:(4:Int).toNat=4:=rfl
 have e8:(8:Int).toNat=8:=rfl
 obtain⟨B,hB⟩: ∃B:Int,(1000000:Int)=B:=⟨_,rfl⟩
 obtain⟨D,hD⟩: ∃B:Int,(100000:Int)=B:=⟨_,rfl⟩
 have hR:K0 (K4 [.vi 7,ω.w 1,ω.w 2,ω.w 3,ω.w 4,ω.w 5,ω.w 6,ω.w 7,ω.w 8,ω.w 9,ω.w 10,ω.w 11])=K0 (K4 [ω.w 0,ω.w 1,ω.w 2,ω.w 3,ω.w 4,ω.w 5,ω.w 6,ω.w 7,ω.w 8,ω.w 9,ω.w 10,ω.w 11]):=by
  simp only[K4,H9,I1,G9,hk]
 have n1:((ω.w 10).toL.length:Int)≤1000:=by omega
 have n2:((ω.w 11).toL.length:Int)≤1000:=by omega
 simp only[bT6,bT3,bT4,bT5,hB,hD,G6,J8,I9,den,dB,K1,hf,H8,G9,I2,I7,I3,J3,I5,d6,decide_eq_true_eq,List.cons_append,List.nil_append]
 refine(if_pos ⟨n1,n2⟩).trans ?_
 cases hr:K0 (K4 [ω.w 0,ω.w 1,ω.w 2,ω.w 3,ω.w 4,ω.w 5,ω.w 6,ω.w 7,ω.w 8,ω.w 9,ω.w 10,ω.w 11])with
 |false=>simp only[F,hR,hr,i9,if_true,H8,cond_false]
 |true=>
 have hr':(F 4 [.vi 7,ω.w 1,ω.w 2,ω.w 3,ω.w 4,ω.w 5,ω.w 6,ω.w 7,ω.w 8,ω.w 9,ω.w 10,ω.w 11]).toB=true:=by simp only[F,hR,hr,H8]
 have h5:F 5 [ω.w 0,ω.w 1,ω.w 2,ω.w 3,ω.w 4,ω.w 5,ω.w 6,ω.w 7,ω.w 8,ω.w 9,ω.w 10,ω.w 11]= .vl (Q1 [ω.w 0,ω.w 1,ω.w 2,ω.w 3,ω.w 4,ω.w 5,ω.w 6,ω.w 7,ω.w 8,ω.w 9,ω.w 10,ω.w 11]):=by simp only[F,hr,cond_true]
 have h6:F 6 [ω.w 0,ω.w 1,ω.w 2,ω.w 3,ω.w 4,ω.w 5,ω.w 6,ω.w 7,ω.w 8,ω.w 9,ω.w 10,ω.w 11]= .vi 0:=by simp only[F,hr,cond_true]
 rw[hr',h5,h6]
 simp only[j7,e9,if_false,F,H9,I1,G9,I2]
 refine(if_pos (by simp only[aI7];omega)).trans ?_
 refine(if_pos (by simp only[d7,List.length_cons,List.length_nil,J1,J0,e1,e2,e4,e8];omega)).trans ?_
 refine(if_pos (by simp only[aI7];omega)).trans ?_
 refine(if_pos (by simp only[d7,List.length_cons,List.length_nil,J1,J0,e1,e2,e4,e8];omega)).trans ?_
 refine(if_pos (p5)).trans ?_
 refine(if_pos (by simp only[d7,List.length_cons,List.length_nil,J1,J0,e1,e2,e4,e8];omega)).trans ?_
 simp only[e1,e2,e4,e8,K9 _ (d8 8),K9 _ (show 4≤8 by decide),K9 _ (show 2≤8 by decide),a96]
 simp[Q1,H9,I1,hk,N4]
theorem d58{ω:Opq}(hf: ∀i a,ω.f i a=F i a)(hk:(ω.w 0).toI=1)(hw:ad0 [ω.w 0,ω.w 1,ω.w 2,ω.w 3,ω.w 4,ω.w 5,ω.w 6,ω.w 7,ω.w 8,ω.w 9,ω.w 10,ω.w 11]=true)(hp:0≤(ω.w 4).toI∧0≤(ω.w 5).toI∧0≤(ω.w 6).toI∧0≤(ω.w 7).toI∧0≤(ω.w 8).toI∧0≤(ω.w 9).toI):G6 bQ7 ω=some (0,[F 6 [ω.w 0,ω.w 1,ω.w 2,ω.w 3,ω.w 4,ω.w 5,ω.w 6,ω.w 7,ω.w 8,ω.w 9,ω.w 10,ω.w 11],F 5 [ω.w 0,ω.w 1,ω.w 2,ω.w 3,ω.w 4,ω.w 5,ω.w 6,ω.w 7,ω.w 8,ω.w 9,ω.w 10,ω.w 11]]):=by
 obtain⟨p4,p5,p6,p7,p8,p9⟩:=hp
 obtain⟨q1,q2,q3,q4⟩:=Q5 hw
 simp only[H9,I1]at q1 q2 q3 q4
 have e1:(1:Int).toNat=1:=rfl
 have e2:(2:Int).toNat=2:=rfl
 have e4:(4:Int).toNat=4:=rfl
 have e8:(8:Int).toNat=8:=rfl
 obtain⟨B,hB⟩: ∃B:Int,(1000000:Int)=B:=⟨_,rfl⟩
 obtain⟨D,hD⟩: ∃B:Int,(100000:Int)=B:=⟨_,rfl⟩
 have hR:K0 (K4 [.vi 1,ω.w 1,ω.w 2,ω.w 3,ω.w 4,ω.w 5,ω.w 6,ω.w 7,ω.w 8,ω.w 9,ω.w 10,ω.w 11])=K0 (K4 [ω.w 0,ω.w 1,ω.w 2,ω.w 3,ω.w 4,ω.w 5,ω.w 6,ω.w 7,ω.w 8,ω.w 9,ω.w 10,ω.w 11]):=by
  simp only[K4,H9,I1,G9,hk]
 have n1:((ω.w 10).toL.length:Int)≤1000:=by omega
 have n2:((ω.w 11).toL.length:Int)≤1000:=by omega
 simp only[bQ7,bQ0,bQ1,by6,bQ2,aA0,bQ3,by7,bQ4,bQ5,bQ6,by8,hB,hD,G6,J8,I9,den,dB,K1,hf,H8,G9,I2,I7,I3,J3,I5,d6,decide_eq_true_eq,List.cons_append,List.nil_append]
 refine(if_pos ⟨n1,n2⟩).trans ?_
 cases hr:K0 (K4 [ω.w 0,ω.w 1,ω.w 2,ω.w 3,ω.w 4,ω.w 5,ω.w 6,ω.w 7,ω.w 8,ω.w 9,ω.w 10,ω.w 11])with
 |false=>simp only[F,hR,hr,i9,if_true,H8,cond_false]
 |true=>
 have hr':(F 4 [.vi 1,ω.w 1,ω.w 2,ω.w 3,ω.w 4,ω.w 5,ω.w 6,ω.w 7,ω.w 8,ω.w 9,ω.w 10,ω.w 11]).toB=true:=by simp only[F,hR,hr,H8]
 have h5:F 5 [ω.w 0,ω.w 1,ω.w 2,ω.w 3,ω.w 4,ω.w 5,ω.w 6,ω.w 7,ω.w 8,ω.w 9,ω.w 10,ω.w 11]= .vl (Q1 [ω.w 0,ω.w 1,ω.w 2,ω.w 3,ω.w 4,ω.w 5,ω.w 6,ω.w 7,ω.w 8,ω.w 9,ω.w 10,ω.w 11]):=by simp only[F,hr,cond_true]
 have h6:F 6 [ω.w 0,ω.w 1,ω.w 2,ω.w 3,ω.w 4,ω.w 5,ω.w 6,ω.w 7,ω.w 8,ω.w 9,ω.w 10,ω.w 11]= .vi 0:=by simp only[F,hr,cond_true]
 rw[hr',h5,h6]
 simp only[j7,e9,if_false,F,H9,I1,G9,I2]
 have g1:=Q9 (g:=fun i=>Z7 (atV (ω.w 10).toL i)) (m:=110) (fun i=>by rw[O1];have:=X1 q3 i;omega) (ω.w 10).toL.length
 have g2:=Q9 (g:=fun i=>R9 (atV (ω.w 11).toL i)) (m:=110) (fun i=>by rw[M3];have:=X1 q4 i;omega) (ω.w 11).toL.length
 refine ifp (by simp only[aI7];omega) ?_
 refine ifp (by simp only[d7,List.length_cons,List.length_nil,J1,J0,e1,e2,e4,e8];omega) ?_
 refine ifp (p4) ?_
 refine ifp (by simp only[d7,List.length_cons,List.length_nil,J1,J0,e1,e2,e4,e8];omega) ?_
 cases hb:(ω.w 3).toB
 all_goals
  simp only[e9,if_false,if_true]
  refine ifp (by simp only[d7,List.length_cons,List.length_nil,J1,J0,e1,e2,e4,e8];omega) ?_
  rw[a60 (fun i acc=>[.vi acc.length,.vi i,.vl acc]) (n:=(ω.w 10).toL.length) (g:=fun i=>Z7 (atV (ω.w 10).toL i))]
  case h0=>exact rfl
  case h1=>
   intro i hi
   have hg:=Q9 (g:=fun i=>Z7 (atV (ω.w 10).toL i)) (m:=110) (fun i=>by rw[O1];have:=X1 q3 i;omega) i
   have hkey:=X1 q3 i
   generalize ax0 (fun i=>Z7 (atV (ω.w 10).toL i)) i=acc at hg⊢
   simp only[cz7,cQ8,hB,hD,G6,I9,den,dB,K1,ac7,aT4,aT5,aT6,ak3,ak4,G9,H8,I2,P1,I7,I3,J3,I5,d6,decide_eq_true_eq,M8,M9,N0,N6,N7,N8,N9,hf,F,H9,I1]
   refine ifp (by omega) ?_
   refine ifp (by omega) ?_
   refine ifp (by omega) ?_
   refine ifp (⟨trivial,by simp only[d7,List.length_cons,List.length_nil,J1,J0,M3,O1,e1,e2,e4,e8];omega⟩) ?_
   refine ifp (by simp only[d7,List.length_cons,List.length_nil,J1,J0,M3,O1,e1,e2,e4,e8];omega) ?_
   refine ifp (by simp only[d7,List.length_cons,List.length_nil,J1,J0,M3,O1,e1,e2,e4,e8];omega) ?_
   simp only[K3 (show i≤10000000 by omega),Z7,R9,K9 _ (d8 8),m5,e8]
  case h2=>
   simp only[cz7,cQ8,hB,hD,G6,I9,den,dB,K1,ac7,aT4,aT5,aT6,ak3,ak4,G9,H8,I2,P1,I7,I3,J3,I5,d6,decide_eq_true_eq,M8,M9,N0,N6,N7,N8,N9,hf,F,H9,I1]
   rw[if_neg (by omega)]
  simp only[hB,hD,R5,hf,F,H9,I1,a26,List.length_cons,List.length_nil,Nat.reduceAdd,Nat.reduceSub,if_true,J8,G6,I9,den,dB,K1,ca2,ca3,a12,List.cons_append,List.nil_append,G9,H8,I2,I5,I3,d6,decide_eq_true_eq]
  refine ifp ⟨trivial,by simp only[d7,List.length_cons,List.length_nil,J1,J0,M3,O1,e1,e2,e4,e8];omega⟩ ?_
  simp only[e1,e2,e4,e8,K9 _ (d8 8),K9 _ (show 4≤8 by decide),K9 _ (show 2≤8 by decide),a96,ao9,wu8]
  simp[Q1,H9,I1,hk,hb,N4]
theorem d59{ω:Opq}(hf: ∀i a,ω.f i a=F i a)(hk:(ω.w 0).toI=4)(hw:ad0 [ω.w 0,ω.w 1,ω.w 2,ω.w 3,ω.w 4,ω.w 5,ω.w 6,ω.w 7,ω.w 8,ω.w 9,ω.w 10,ω.w 11]=true)(hp:0≤(ω.w 4).toI∧0≤(ω.w 5).toI∧0≤(ω.w 6).toI∧0≤(ω.w 7).toI∧0≤(ω.w 8).toI∧0≤(ω.w 9).toI):G6 bS4 ω=some (0,[F 6 [ω.w 0,ω.w 1,ω.w 2,ω.w 3,ω.w 4,ω.w 5,ω.w 6,ω.w 7,ω.w 8,ω.w 9,ω.w 10,ω.w 11],F 5 [ω.w 0,ω.w 1,ω.w 2,ω.w 3,ω.w 4,ω.w 5,ω.w 6,ω.w 7,ω.w 8,ω.w 9,ω.w 10,ω.w 11]]):=by
 obtain⟨p4,p5,p6,p7,p8,p9⟩:=hp
 obtain⟨q1,q2,q3,q4⟩:=Q5 hw
 simp only[H9,I1]at q1 q2 q3 q4
 have e1:(1:Int).toNat=1:=rfl
 have e2:(2:Int).toNat=2:=rfl
 have e4:(4:Int).toNat=4:=rfl
 have e8:(8:Int).toNat=8:=rfl
 obtain⟨B,hB⟩: ∃B:Int,(1000000:Int)=B:=⟨_,rfl⟩
 obtain⟨D,hD⟩: ∃B:Int,(100000:Int)=B:=⟨_,rfl⟩
 have hR:K0 (K4 [.vi 4,ω.w 1,ω.w 2,ω.w 3,ω.w 4,ω.w 5,ω.w 6,ω.w 7,ω.w 8,ω.w 9,ω.w 10,ω.w 11])=K0 (K4 [ω.w 0,ω.w 1,ω.w 2,ω.w 3,ω.w 4,ω.w 5,ω.w 6,ω.w 7,ω.w 8,ω.w 9,ω.w 10,ω.w 11]):=by
  simp only[K4,H9,I1,G9,hk]
 have n1:((ω.w 10).toL.length:Int)≤1000:=by omega
 have n2:((ω.w 11).toL.length:Int)≤1000:=by omega
 simp only[bS4,bR8,by9,bR9,aA1,bS0,bz0,bS1,bS2,aA2,bS3,aY0,bz1,bz2,bz3,bz4,bz5,hB,hD,G6,J8,I9,den,dB,K1,hf,H8,G9,I2,I7,I3,J3,I5,d6,decide_eq_true_eq,List.cons_append,List.nil_append]
 refine(if_pos ⟨n1,n2⟩).trans ?_
 cases hr:K0 (K4 [ω.w 0,ω.w 1,ω.w 2,ω.w 3,ω.w 4,ω.w 5,ω.w 6,ω.w 7,ω.w 8,ω.w 9,ω.w 10,ω.w 11])with
 |false=>simp only[F,hR,hr,i9,if_true,H8,cond_false]
 |true=>
 have hr':(F 4 [.vi 4,ω.w 1,ω.w 2,ω.w 3,ω.w 4,ω.w 5,ω.w 6,ω.w 7,ω.w 8,ω.w 9,ω.w 10,ω.w 11]).toB=true:=by simp only[F,hR,hr,H8]
 have h5:F 5 [ω.w 0,ω.w 1,ω.w 2,ω.w 3,ω.w 4,ω.w 5,ω.w 6,ω.w 7,ω.w 8,ω.w 9,ω.w 10,ω.w 11]= .vl (Q1 [ω.w 0,ω.w 1,ω.w 2,ω.w 3,ω.w 4,ω.w 5,ω.w 6,ω.w 7,ω.w 8,ω.w 9,ω.w 10,ω.w 11]):=by simp only[F,hr,cond_true]
 have h6:F 6 [ω.w 0,ω.w 1,ω.w 2,ω.w 3,ω.w 4,ω.w 5,ω.w 6,ω.w 7,ω.w 8,ω.w 9,ω.w 10,ω.w 11]= .vi 0:=by simp only[F,hr,cond_true]
 rw[hr',h5,h6]
 simp only[j7,e9,if_false,F,H9,I1,G9,I2]
 have g1:=Q9 (g:=fun i=>Z7 (atV (ω.w 10).toL i)) (m:=110) (fun i=>by rw[O1];have:=X1 q3 i;omega) (ω.w 10).toL.length
 have g2:=Q9 (g:=fun i=>R9 (atV (ω.w 11).toL i)) (m:=110) (fun i=>by rw[M3];have:=X1 q4 i;omega) (ω.w 11).toL.length
 refine ifp (by simp only[aI7];omega) ?_
 refine ifp (by simp only[d7,List.length_cons,List.length_nil,J1,J0,e1,e2,e4,e8];omega) ?_
 refine ifp (p4) ?_
 refine ifp (by simp only[d7,List.length_cons,List.length_nil,J1,J0,e1,e2,e4,e8];omega) ?_
 cases hb:(ω.w 3).toB
 all_goals
  simp only[e9,if_false,if_true]
  refine ifp (by simp only[d7,List.length_cons,List.length_nil,J1,J0,e1,e2,e4,e8];omega) ?_
  rw[a60 (fun i acc=>[.vi acc.length,.vi i,.vl acc]) (n:=(ω.w 10).toL.length) (g:=fun i=>Z7 (atV (ω.w 10).toL i))]
  case h0=>exact rfl
  case h1=>
   intro i hi
   have hg:=Q9 (g:=fun i=>Z7 (atV (ω.w 10).toL i)) (m:=110) (fun i=>by rw[O1];have:=X1 q3 i;omega) i
   have hkey:=X1 q3 i
   generalize ax0 (fun i=>Z7 (atV (ω.w 10).toL i)) i=acc at hg⊢
   simp only[cz7,cQ8,hB,hD,G6,I9,den,dB,K1,ac7,aT4,aT5,aT6,ak3,ak4,G9,H8,I2,P1,I7,I3,J3,I5,d6,decide_eq_true_eq,M8,M9,N0,N6,N7,N8,N9,hf,F,H9,I1]
   refine ifp (by omega) ?_
   refine ifp (by omega) ?_
   refine ifp (by omega) ?_
   refine ifp (⟨trivial,by simp only[d7,List.length_cons,List.length_nil,J1,J0,M3,O1,e1,e2,e4,e8];omega⟩) ?_
   refine ifp (by simp only[d7,List.length_cons,List.length_nil,J1,J0,M3,O1,e1,e2,e4,e8];omega) ?_
   refine ifp (by simp only[d7,List.length_cons,List.length_nil,J1,J0,M3,O1,e1,e2,e4,e8];omega) ?_
   simp only[K3 (show i≤10000000 by omega),Z7,R9,K9 _ (d8 8),m5,e8]
  case h2=>
   simp only[cz7,cQ8,hB,hD,G6,I9,den,dB,K1,ac7,aT4,aT5,aT6,ak3,ak4,G9,H8,I2,P1,I7,I3,J3,I5,d6,decide_eq_true_eq,M8,M9,N0,N6,N7,N8,N9,hf,F,H9,I1]
   rw[if_neg (by omega)]
  simp only[hB,hD,R5,hf,F,H9,I1,a26,List.length_cons,List.length_nil,Nat.reduceAdd,Nat.reduceSub,if_true,J8,G6,I9,den,dB,K1,ca2,ca3,a12,List.cons_append,List.nil_append,G9,H8,I2,I5,I3,d6,decide_eq_true_eq]
  refine ifp ⟨trivial,by simp only[d7,List.length_cons,List.length_nil,J1,J0,M3,O1,e1,e2,e4,e8];omega⟩ ?_
  rw[a60 (fun i acc=>[.vi acc.length,.vi i,.vl acc]) (n:=(ω.w 11).toL.length) (g:=fun i=>R9 (atV (ω.w 11).toL i)) (a0:=[Val.vl [Val.vi (IntKind.u8.wrap ((ω.w 11).toL.length:Int))]])]
  case h0=>exact rfl
  case h1=>
   intro i hi
   have hg:=Q9 (g:=fun i=>R9 (atV (ω.w 11).toL i)) (m:=110) (fun i=>by rw[M3];have:=X1 q4 i;omega) i
   have hkey:=X1 q4 i
   generalize ax0 (fun i=>R9 (atV (ω.w 11).toL i)) i=acc at hg⊢
   simp only[cz7,cQ8,hB,hD,G6,I9,den,dB,K1,ac7,aT4,aT5,aT6,ak3,ak4,G9,H8,I2,P1,I7,I3,J3,I5,d6,decide_eq_true_eq,M8,M9,N0,N6,N7,N8,N9,hf,F,H9,I1]
   refine ifp (by omega) ?_
   refine ifp (by omega) ?_
   refine ifp (by omega) ?_
   refine ifp (⟨trivial,by simp only[d7,List.length_cons,List.length_nil,J1,J0,M3,O1,e1,e2,e4,e8];omega⟩) ?_
   simp only[K3 (show i≤10000000 by omega),Z7,R9,K9 _ (d8 8),m5,e8]
  case h2=>
   simp only[cz7,cQ8,hB,hD,G6,I9,den,dB,K1,ac7,aT4,aT5,aT6,ak3,ak4,G9,H8,I2,P1,I7,I3,J3,I5,d6,decide_eq_true_eq,M8,M9,N0,N6,N7,N8,N9,hf,F,H9,I1]
   rw[if_neg (by omega)]
  simp only[hB,hD,R5,hf,F,H9,I1,a26,List.length_cons,List.length_nil,Nat.reduceAdd,Nat.reduceSub,if_true,J8,G6,I9,den,dB,K1,ca2,ca3,a12,List.cons_append,List.nil_append,G9,H8,I2,I5,I3,d6,decide_eq_true_eq]
  refine ifp ⟨trivial,by simp only[d7,List.length_cons,List.length_nil,J1,J0,M3,O1,e1,e2,e4,e8];omega⟩ ?_
  simp only[e1,e2,e4,e8,K9 _ (d8 8),K9 _ (show 4≤8 by decide),K9 _ (show 2≤8 by decide),a96,ao9,wu8]
  simp[Q1,H9,I1,hk,hb,N4]
theorem d60{ω:Opq}(hf: ∀i a,ω.f i a=F i a)(hk: ¬(1≤(ω.w 0).toI∧(ω.w 0).toI≤7))(hw:ad0 [ω.w 0,ω.w 1,ω.w 2,ω.w 3,ω.w 4,ω.w 5,ω.w 6,ω.w 7,ω.w 8,ω.w 9,ω.w 10,ω.w 11]=true):G6 bP9 ω=some (0,[F 6 [ω.w 0,ω.w 1,ω.w 2,ω.w 3,ω.w 4,ω.w 5,ω.w 6,ω.w 7,ω.w 8,ω.w 9,ω.w 10,ω.w 11],F 5 [ω.w 0,ω.w 1,ω.w 2,ω.w 3,ω.w 4,ω.w 5,ω.w 6,ω.w 7,ω.w 8,ω.w 9,ω.w 10,ω.w 11]]):=by
 have hr:K0 (K4 [ω.w 0,ω.w 1,ω.w 2,ω.w 3,ω.w 4,ω.w 5,ω.w 6,ω.w 7,ω.w 8,ω.w 9,ω.w 10,ω.w 11])=false:=by
  rw[P4]
  simp only[H9,I1]
  by_cases h1:1≤(ω.w 0).toI
  ·have h2: ¬(ω.w 0).toI≤7:=by omega
   simp[h2]
  ·simp[h1]
 obtain⟨q1,q2,_,_⟩:=Q5 hw
 simp only[H9,I1]at q1 q2
 have n1:((ω.w 10).toL.length:Int)≤1000:=by omega
 have n2:((ω.w 11).toL.length:Int)≤1000:=by omega
 have h4:F 4 [ω.w 0,ω.w 1,ω.w 2,ω.w 3,ω.w 4,ω.w 5,ω.w 6,ω.w 7,ω.w 8,ω.w 9,ω.w 10,ω.w 11]= .vb false:=by simp only[F,hr]
 have h5:F 5 [ω.w 0,ω.w 1,ω.w 2,ω.w 3,ω.w 4,ω.w 5,ω.w 6,ω.w 7,ω.w 8,ω.w 9,ω.w 10,ω.w 11]= .vl []:=by simp only[F,hr,cond_false]
 have h6:F 6 [ω.w 0,ω.w 1,ω.w 2,ω.w 3,ω.w 4,ω.w 5,ω.w 6,ω.w 7,ω.w 8,ω.w 9,ω.w 10,ω.w 11]= .vi 81:=by simp only[F,hr,cond_false]
 simp only[bP9,bP8,G6,I9,den,dB,K1,hf,n1,n2,I3,G9,d6,decide_eq_true_eq,decide_true,and_self,E2,h4,h5,h6,H8,if_true,i9]
theorem cM7(v:Val):(F 30 [v]).toL.any aP9=v.toL.any aP9:=by
 simp only[F,H9,I2,B8];rfl
theorem cy7(v:Val):(F 31 [v]).toL.any aP9=v.toL.any aP9:=by
 simp only[F,H9,I2,B8];rfl
theorem cy8(v:Val):(F 30 [v]).toL.flatMap Z7=v.toL.flatMap Z7:=by
 simp only[F,H9,I2,G2];rfl
theorem ca4(v:Val):(F 31 [v]).toL.flatMap R9=v.toL.flatMap R9:=by
 simp only[F,H9,I2,G2];rfl
theorem cM8{a:List Val}(hw:ad0 a=true):(Q1 a).length≤20000:=by
 obtain⟨q1,q2,q3,q4⟩:=Q5 hw
 have g1:=Q9 (g:=fun i=>Z7 (atV (arg a 10).toL i)) (m:=110) (fun i=>by rw[O1];have:=X1 q3 i;omega) (arg a 10).toL.length
 have g2:=Q9 (g:=fun i=>R9 (atV (arg a 11).toL i)) (m:=110) (fun i=>by rw[M3];have:=X1 q4 i;omega) (arg a 11).toL.length
 rw[ao9]at g1 g2
 unfold Q1
 simp only[d7,List.length_cons,List.length_nil,J1]
 repeat' split
 all_goals simp only[d7,List.length_cons,List.length_nil,J1]
 all_goals omega
theorem bV2{ω:Opq}(hf: ∀i a,ω.f i a=F i a)(hp:0≤(ω.w 4).toI∧0≤(ω.w 5).toI∧0≤(ω.w 6).toI∧0≤(ω.w 7).toI∧0≤(ω.w 8).toI∧0≤(ω.w 9).toI):G6 ae6 ω=some (0,[.vb true]):=by
 obtain⟨p4,p5,p6,p7,p8,p9⟩:=hp
 have hM:K4 [ω.w 0,ω.w 1,ω.w 2,ω.w 3,ω.w 4,ω.w 5,ω.w 6,ω.w 7,ω.w 8,ω.w 9,F 30 [ω.w 10],F 31 [ω.w 11]]=K4 [ω.w 0,ω.w 1,ω.w 2,ω.w 3,ω.w 4,ω.w 5,ω.w 6,ω.w 7,ω.w 8,ω.w 9,ω.w 10,ω.w 11]:=by simp only[K4,H9,I1,aQ4,aA7]
 have hM':K4 [ω.w 12,ω.w 13,ω.w 14,ω.w 15,ω.w 16,ω.w 17,ω.w 18,ω.w 19,ω.w 20,ω.w 21,F 30 [ω.w 22],F 31 [ω.w 23]]=K4 [ω.w 12,ω.w 13,ω.w 14,ω.w 15,ω.w 16,ω.w 17,ω.w 18,ω.w 19,ω.w 20,ω.w 21,ω.w 22,ω.w 23]:=by simp only[K4,H9,I1,aQ4,aA7]
 have hP:Q1 [ω.w 0,ω.w 1,ω.w 2,ω.w 3,ω.w 4,ω.w 5,ω.w 6,ω.w 7,ω.w 8,ω.w 9,F 30 [ω.w 10],F 31 [ω.w 11]]=Q1 [ω.w 0,ω.w 1,ω.w 2,ω.w 3,ω.w 4,ω.w 5,ω.w 6,ω.w 7,ω.w 8,ω.w 9,ω.w 10,ω.w 11]:=by simp only[Q1,H9,I1,cy8,ca4,aJ4,aJ5];rfl
 have hW:ad0 [ω.w 0,ω.w 1,ω.w 2,ω.w 3,ω.w 4,ω.w 5,ω.w 6,ω.w 7,ω.w 8,ω.w 9,F 30 [ω.w 10],F 31 [ω.w 11]]=ad0 [ω.w 0,ω.w 1,ω.w 2,ω.w 3,ω.w 4,ω.w 5,ω.w 6,ω.w 7,ω.w 8,ω.w 9,ω.w 10,ω.w 11]:=by simp only[ad0,H9,I1,cM7,cy7,aJ4,aJ5];rfl
 have h4:F 4 [ω.w 0,ω.w 1,ω.w 2,ω.w 3,ω.w 4,ω.w 5,ω.w 6,ω.w 7,ω.w 8,ω.w 9,F 30 [ω.w 10],F 31 [ω.w 11]]=F 4 [ω.w 0,ω.w 1,ω.w 2,ω.w 3,ω.w 4,ω.w 5,ω.w 6,ω.w 7,ω.w 8,ω.w 9,ω.w 10,ω.w 11]:=by
  show Val.vb (K0 (K4 [ω.w 0,ω.w 1,ω.w 2,ω.w 3,ω.w 4,ω.w 5,ω.w 6,ω.w 7,ω.w 8,ω.w 9,F 30 [ω.w 10],F 31 [ω.w 11]]))=Val.vb (K0 (K4 [ω.w 0,ω.w 1,ω.w 2,ω.w 3,ω.w 4,ω.w 5,ω.w 6,ω.w 7,ω.w 8,ω.w 9,ω.w 10,ω.w 11]));rw[hM]
 have h6:F 6 [ω.w 0,ω.w 1,ω.w 2,ω.w 3,ω.w 4,ω.w 5,ω.w 6,ω.w 7,ω.w 8,ω.w 9,F 30 [ω.w 10],F 31 [ω.w 11]]=F 6 [ω.w 0,ω.w 1,ω.w 2,ω.w 3,ω.w 4,ω.w 5,ω.w 6,ω.w 7,ω.w 8,ω.w 9,ω.w 10,ω.w 11]:=by
  show Val.vi (bif K0 (K4 [ω.w 0,ω.w 1,ω.w 2,ω.w 3,ω.w 4,ω.w 5,ω.w 6,ω.w 7,ω.w 8,ω.w 9,F 30 [ω.w 10],F 31 [ω.w 11]])then 0 else 81)=Val.vi (bif K0 (K4 [ω.w 0,ω.w 1,ω.w 2,ω.w 3,ω.w 4,ω.w 5,ω.w 6,ω.w 7,ω.w 8,ω.w 9,ω.w 10,ω.w 11])then 0 else 81);rw[hM]
 have h5:F 5 [ω.w 0,ω.w 1,ω.w 2,ω.w 3,ω.w 4,ω.w 5,ω.w 6,ω.w 7,ω.w 8,ω.w 9,F 30 [ω.w 10],F 31 [ω.w 11]]=F 5 [ω.w 0,ω.w 1,ω.w 2,ω.w 3,ω.w 4,ω.w 5,ω.w 6,ω.w 7,ω.w 8,ω.w 9,ω.w 10,ω.w 11]:=by
  show Val.vl (bif K0 (K4 [ω.w 0,ω.w 1,ω.w 2,ω.w 3,ω.w 4,ω.w 5,ω.w 6,ω.w 7,ω.w 8,ω.w 9,F 30 [ω.w 10],F 31 [ω.w 11]])then Q1 [ω.w 0,ω.w 1,ω.w 2,ω.w 3,ω.w 4,ω.w 5,ω.w 6,ω.w 7,ω.w 8,ω.w 9,F 30 [ω.w 10],F 31 [ω.w 11]]else [])=Val.vl (bif K0 (K4 [ω.w 0,ω.w 1,ω.w 2,ω.w 3,ω.w 4,ω.w 5,ω.w 6,ω.w 7,ω.w 8,ω.w 9,ω.w 10,ω.w 11])then Q1 [ω.w 0,ω.w 1,ω.w 2,ω.w 3,ω.w 4,ω.w 5,ω.w 6,ω.w 7,ω.w 8,ω.w 9,ω.w 10,ω.w 11]else []);rw[hM,hP]
 have h8:F 8 [ω.w 0,ω.w 1,ω.w 2,ω.w 3,ω.w 4,ω.w 5,ω.w 6,ω.w 7,ω.w 8,ω.w 9,F 30 [ω.w 10],F 31 [ω.w 11]]=F 8 [ω.w 0,ω.w 1,ω.w 2,ω.w 3,ω.w 4,ω.w 5,ω.w 6,ω.w 7,ω.w 8,ω.w 9,ω.w 10,ω.w 11]:=by
  show Val.vb (ad0 [ω.w 0,ω.w 1,ω.w 2,ω.w 3,ω.w 4,ω.w 5,ω.w 6,ω.w 7,ω.w 8,ω.w 9,F 30 [ω.w 10],F 31 [ω.w 11]])=Val.vb (ad0 [ω.w 0,ω.w 1,ω.w 2,ω.w 3,ω.w 4,ω.w 5,ω.w 6,ω.w 7,ω.w 8,ω.w 9,ω.w 10,ω.w 11]);rw[hW]
 have h7:F 7 [ω.w 0,ω.w 1,ω.w 2,ω.w 3,ω.w 4,ω.w 5,ω.w 6,ω.w 7,ω.w 8,ω.w 9,F 30 [ω.w 10],F 31 [ω.w 11],ω.w 12,ω.w 13,ω.w 14,ω.w 15,ω.w 16,ω.w 17,ω.w 18,ω.w 19,ω.w 20,ω.w 21,F 30 [ω.w 22],F 31 [ω.w 23]]=F 7 [ω.w 0,ω.w 1,ω.w 2,ω.w 3,ω.w 4,ω.w 5,ω.w 6,ω.w 7,ω.w 8,ω.w 9,ω.w 10,ω.w 11,ω.w 12,ω.w 13,ω.w 14,ω.w 15,ω.w 16,ω.w 17,ω.w 18,ω.w 19,ω.w 20,ω.w 21,ω.w 22,ω.w 23]:=by
  show Val.vb (eqB (K4 [ω.w 0,ω.w 1,ω.w 2,ω.w 3,ω.w 4,ω.w 5,ω.w 6,ω.w 7,ω.w 8,ω.w 9,F 30 [ω.w 10],F 31 [ω.w 11]]) (K4 [ω.w 12,ω.w 13,ω.w 14,ω.w 15,ω.w 16,ω.w 17,ω.w 18,ω.w 19,ω.w 20,ω.w 21,F 30 [ω.w 22],F 31 [ω.w 23]]))=Val.vb (eqB (K4 [ω.w 0,ω.w 1,ω.w 2,ω.w 3,ω.w 4,ω.w 5,ω.w 6,ω.w 7,ω.w 8,ω.w 9,ω.w 10,ω.w 11]) (K4 [ω.w 12,ω.w 13,ω.w 14,ω.w 15,ω.w 16,ω.w 17,ω.w 18,ω.w 19,ω.w 20,ω.w 21,ω.w 22,ω.w 23]));rw[hM,hM']
 have h7s:F 7 [ω.w 0,ω.w 1,ω.w 2,ω.w 3,ω.w 4,ω.w 5,ω.w 6,ω.w 7,ω.w 8,ω.w 9,ω.w 10,ω.w 11,ω.w 0,ω.w 1,ω.w 2,ω.w 3,ω.w 4,ω.w 5,ω.w 6,ω.w 7,ω.w 8,ω.w 9,ω.w 10,ω.w 11]= .vb true:=by
  show Val.vb (eqB (K4 [ω.w 0,ω.w 1,ω.w 2,ω.w 3,ω.w 4,ω.w 5,ω.w 6,ω.w 7,ω.w 8,ω.w 9,ω.w 10,ω.w 11]) (K4 [ω.w 0,ω.w 1,ω.w 2,ω.w 3,ω.w 4,ω.w 5,ω.w 6,ω.w 7,ω.w 8,ω.w 9,ω.w 10,ω.w 11]))=_;rw[Q0]
 have h7t:F 7 [ω.w 0,ω.w 1,ω.w 2,ω.w 3,ω.w 4,ω.w 5,ω.w 6,ω.w 7,ω.w 8,ω.w 9,F 30 [ω.w 10],F 31 [ω.w 11],ω.w 0,ω.w 1,ω.w 2,ω.w 3,ω.w 4,ω.w 5,ω.w 6,ω.w 7,ω.w 8,ω.w 9,F 30 [ω.w 10],F 31 [ω.w 11]]= .vb true:=by
  show Val.vb (eqB (K4 [ω.w 0,ω.w 1,ω.w 2,ω.w 3,ω.w 4,ω.w 5,ω.w 6,ω.w 7,ω.w 8,ω.w 9,F 30 [ω.w 10],F 31 [ω.w 11]]) (K4 [ω.w 0,ω.w 1,ω.w 2,ω.w 3,ω.w 4,ω.w 5,ω.w 6,ω.w 7,ω.w 8,ω.w 9,F 30 [ω.w 10],F 31 [ω.w 11]]))=_;rw[Q0]
 have h12:F 12 [F 5 [ω.w 0,ω.w 1,ω.w 2,ω.w 3,ω.w 4,ω.w 5,ω.w 6,ω.w 7,ω.w 8,ω.w 9,ω.w 10,ω.w 11],F 5 [ω.w 0,ω.w 1,ω.w 2,ω.w 3,ω.w 4,ω.w 5,ω.w 6,ω.w 7,ω.w 8,ω.w 9,ω.w 10,ω.w 11]]= .vb true:=by
  show Val.vb (eqB (a40 (F 5 [ω.w 0,ω.w 1,ω.w 2,ω.w 3,ω.w 4,ω.w 5,ω.w 6,ω.w 7,ω.w 8,ω.w 9,ω.w 10,ω.w 11])) (a40 (F 5 [ω.w 0,ω.w 1,ω.w 2,ω.w 3,ω.w 4,ω.w 5,ω.w 6,ω.w 7,ω.w 8,ω.w 9,ω.w 10,ω.w 11])))=_;rw[Q0]
 simp only[ae6,a70,aA3,aA4,aA5,G6,I9,den,dB,K1,hf,h4,h5,h6,h7,h7s,h7t,h8,h12,G9,H8,O2,I3,I5,decide_true,j7,e9,if_false,if_true,aJ4,aJ5,p4,p5,p6,p7,p8,p9,y8,beq_self_eq_true,i7]
 cases c1:ad0 [ω.w 0,ω.w 1,ω.w 2,ω.w 3,ω.w 4,ω.w 5,ω.w 6,ω.w 7,ω.w 8,ω.w 9,ω.w 10,ω.w 11]with
 |false=>
  have e8:F 8 [ω.w 0,ω.w 1,ω.w 2,ω.w 3,ω.w 4,ω.w 5,ω.w 6,ω.w 7,ω.w 8,ω.w 9,ω.w 10,ω.w 11]= .vb false:=by show Val.vb (ad0 [ω.w 0,ω.w 1,ω.w 2,ω.w 3,ω.w 4,ω.w 5,ω.w 6,ω.w 7,ω.w 8,ω.w 9,ω.w 10,ω.w 11])=_;rw[c1]
  simp only[e8,H8,if_true,i9]
 |true=>
 have e8:F 8 [ω.w 0,ω.w 1,ω.w 2,ω.w 3,ω.w 4,ω.w 5,ω.w 6,ω.w 7,ω.w 8,ω.w 9,ω.w 10,ω.w 11]= .vb true:=by show Val.vb (ad0 [ω.w 0,ω.w 1,ω.w 2,ω.w 3,ω.w 4,ω.w 5,ω.w 6,ω.w 7,ω.w 8,ω.w 9,ω.w 10,ω.w 11])=_;rw[c1]
 cases c2:ad0 [ω.w 12,ω.w 13,ω.w 14,ω.w 15,ω.w 16,ω.w 17,ω.w 18,ω.w 19,ω.w 20,ω.w 21,ω.w 22,ω.w 23]with
 |false=>
  have e8':F 8 [ω.w 12,ω.w 13,ω.w 14,ω.w 15,ω.w 16,ω.w 17,ω.w 18,ω.w 19,ω.w 20,ω.w 21,ω.w 22,ω.w 23]= .vb false:=by show Val.vb (ad0 [ω.w 12,ω.w 13,ω.w 14,ω.w 15,ω.w 16,ω.w 17,ω.w 18,ω.w 19,ω.w 20,ω.w 21,ω.w 22,ω.w 23])=_;rw[c2]
  simp only[e8,e8',H8,if_true,if_false,e9,Bool.true_eq_false]
 |true=>
 have e8':F 8 [ω.w 12,ω.w 13,ω.w 14,ω.w 15,ω.w 16,ω.w 17,ω.w 18,ω.w 19,ω.w 20,ω.w 21,ω.w 22,ω.w 23]= .vb true:=by show Val.vb (ad0 [ω.w 12,ω.w 13,ω.w 14,ω.w 15,ω.w 16,ω.w 17,ω.w 18,ω.w 19,ω.w 20,ω.w 21,ω.w 22,ω.w 23])=_;rw[c2]
 have e5:(F 5 [ω.w 0,ω.w 1,ω.w 2,ω.w 3,ω.w 4,ω.w 5,ω.w 6,ω.w 7,ω.w 8,ω.w 9,ω.w 10,ω.w 11]).toL.length≤20000:=by
  show(bif K0 (K4 [ω.w 0,ω.w 1,ω.w 2,ω.w 3,ω.w 4,ω.w 5,ω.w 6,ω.w 7,ω.w 8,ω.w 9,ω.w 10,ω.w 11])then Q1 [ω.w 0,ω.w 1,ω.w 2,ω.w 3,ω.w 4,ω.w 5,ω.w 6,ω.w 7,ω.w 8,ω.w 9,ω.w 10,ω.w 11]else []).length≤20000
  cases K0 (K4 [ω.w 0,ω.w 1,ω.w 2,ω.w 3,ω.w 4,ω.w 5,ω.w 6,ω.w 7,ω.w 8,ω.w 9,ω.w 10,ω.w 11])with
  |false=>simp
  |true=>exact cM8 c1
 obtain⟨q1,q2,_,_⟩:=Q5 c1
 obtain⟨q5,q6,_,_⟩:=Q5 c2
 simp only[H9,I1]at q1 q2 q5 q6
 have k1:((ω.w 10).toL.length:Int)≤100:=by omega
 have k2:((ω.w 11).toL.length:Int)≤100:=by omega
 have k3:((ω.w 22).toL.length:Int)≤100:=by omega
 have k4:((ω.w 23).toL.length:Int)≤100:=by omega
 have m1:((ω.w 10).toL.length:Int)≤1000:=by omega
 have m2:((ω.w 11).toL.length:Int)≤1000:=by omega
 have m3:((ω.w 22).toL.length:Int)≤1000:=by omega
 have m4:((ω.w 23).toL.length:Int)≤1000:=by omega
 have k5:((ω.w 10).toL.length:Int)≤1000000:=by omega
 have k6:((ω.w 11).toL.length:Int)≤1000000:=by omega
 have k7:((F 5 [ω.w 0,ω.w 1,ω.w 2,ω.w 3,ω.w 4,ω.w 5,ω.w 6,ω.w 7,ω.w 8,ω.w 9,ω.w 10,ω.w 11]).toL.length:Int)≤1000000:=by omega
 simp only[e8,e8',H8,if_true,if_false,e9,Bool.true_eq_false,k1,k2,k3,k4,k5,k6,k7,m1,m2,m3,m4,decide_true,y8,E2,j7]
namespace Kn
mutual
def vbeq:Val→Val→Bool
 | .vi a,.vi b=>decide (a=b)
 | .vs a,.vs b=>decide (a=b)
 | .vb a,.vb b=>decide (a=b)
 | .vl a,.vl b=>vbeqs a b
 |_,_=>false
def vbeqs:List Val→List Val→Bool
 | [],[]=>true
 |a::x,b::y=>vbeq a b&&vbeqs x y
 |_,_=>false
end
mutual
theorem vbeq_eq: ∀a b:Val,vbeq a b=true→a=b
 | .vi a,.vi b,h=>by rw[of_decide_eq_true (show decide (a=b)=true from h)]
 | .vs a,.vs b,h=>by rw[of_decide_eq_true (show decide (a=b)=true from h)]
 | .vb a,.vb b,h=>by rw[of_decide_eq_true (show decide (a=b)=true from h)]
 | .vl a,.vl b,h=>congrArg Val.vl (vbeqs_eq a b h)
 | .vi _,.vs _,h=>by cases h
 | .vi _,.vb _,h=>by cases h
 | .vi _,.vl _,h=>by cases h
 | .vs _,.vi _,h=>by cases h
 | .vs _,.vb _,h=>by cases h
 | .vs _,.vl _,h=>by cases h
 | .vb _,.vi _,h=>by cases h
 | .vb _,.vs _,h=>by cases h
 | .vb _,.vl _,h=>by cases h
 | .vl _,.vi _,h=>by cases h
 | .vl _,.vs _,h=>by cases h
 | .vl _,.vb _,h=>by cases h
theorem vbeqs_eq: ∀a b:List Val,vbeqs a b=true→a=b
 | [],[],_=>rfl
 |a::x,b::y,h=>by
  have h':(vbeq a b&&vbeqs x y)=true:=h
  rw[d6]at h'
  rw[vbeq_eq a b h'.1,vbeqs_eq x y h'.2]
 | [],_::_,h=>by cases h
 |_::_,[],h=>by cases h
end
mutual
noncomputable def dn(g:Nat→Option Val):SX→Val
 | .ci n=> .vi n
 | .cs l=> .vs l
 | .cb x=> .vb x
 | .va n=>(g n).getD (.vb false)
 | .op p l=>K1 p (dns g l)
 | .app f l=>F f (dns g l)
noncomputable def dns(g:Nat→Option Val):List SX→List Val
 | []=>[]
 |a::r=>dn g a::dns g r
end
mutual
def cl(g:Nat→Option Val):SX→Bool
 | .va n=>(g n).isSome
 | .op _ l=>cls g l
 | .app _ l=>cls g l
 |_=>true
def cls(g:Nat→Option Val):List SX→Bool
 | []=>true
 |a::r=>cl g a&&cls g r
end
def Fits(ω:Opq)(g:Nat→Option Val):Prop:=(∀i a,ω.f i a=F i a)∧ ∀n v,g n=some v→ω.w n=v
mutual
theorem ca5{ω:Opq}{g:Nat→Option Val}(hf:Fits ω g): ∀e:SX,cl g e=true→den ω e=dn g e
 | .ci _,_=>rfl
 | .cs _,_=>rfl
 | .cb _,_=>rfl
 | .va n,h=>by
   have h':(g n).isSome=true:=h
   obtain⟨v,hv⟩:=Option.isSome_iff_exists.1 h'
   show ω.w n=(g n).getD (.vb false)
   rw[hf.2 n v hv,hv];rfl
 | .op q l,h=>congrArg (K1 q) (cy9 hf l h)
 | .app f l,h=>(hf.1 f (I9 ω l)).trans (congrArg (F f) (cy9 hf l h))
theorem cy9{ω:Opq}{g:Nat→Option Val}(hf:Fits ω g): ∀l:List SX,cls g l=true→I9 ω l=dns g l
 | [],_=>rfl
 |a::r,h=>by
  have h':(cl g a&&cls g r)=true:=h
  rw[d6]at h'
  show den ω a::I9 ω r=dn g a::dns g r
  rw[ca5 hf a h'.1,cy9 hf r h'.2]
end
def gup(g:Nat→Option Val)(v0:Nat)(l:List Val)(n:Nat):Option Val:=bif Nat.ble v0 n then some (l.getD (n-v0) (.vb false))else g n
theorem fits_up{ω:Opq}{g:Nat→Option Val}(hf:Fits ω g)(v0:Nat)(l:List Val):Fits (ω.upd v0 l) (gup g v0 l):=by
 refine⟨hf.1,fun n v h=> ?_⟩
 unfold gup at h
 rw[K5]
 cases hb:Nat.ble v0 n with
 |true=>
  rw[hb]at h
  rw[if_pos (Nat.le_of_ble_eq_true hb)]
  exact Option.some.inj h
 |false=>
  rw[hb]at h
  rw[if_neg (fun hh=>by rw[Nat.ble_eq_true_of_le hh]at hb;cases hb)]
  exact hf.2 n v h
def itr(step:List Val→Option (Nat×List Val)):Nat→List Val→Option (Nat×List Val)
 |0,_=>none
 |n+1,vs=>match step vs with
  |some (0,vs')=>itr step n vs'
  |some (j+1,p)=>some (j,p)
  |none=>none
theorem itr_ok{s t:List Val→Option (Nat×List Val)}(h: ∀vs r,s vs=some r→t vs=some r): ∀(n:Nat) (vs:List Val) (j:Nat) (p:List Val),itr s n vs=some (j,p)→Y6 t vs=some (j,p)
 |0,_,_,_,e=>by cases e
 |n+1,vs,j,p,e=>by
  unfold itr at e
  split at e
  ·rename_i vs' hs
   exact U0.2 (.more (h _ _ hs) (U0.1 (itr_ok h n vs' j p e)))
  ·rename_i j' p' hs
   cases e
   exact U0.2 (.out (h _ _ hs))
  ·cases e
mutual
noncomputable def run(g:Nat→Option Val):VT→Option (Nat×List Val)
 | .need e x=>bif cl g e&&(dn g e).toB then run g x else none
 | .ite e x y=>bif cl g e then(bif (dn g e).toB then run g x else run g y)else none
 | .ret i out=>bif cls g out then some (i,dns g out)else none
 | .loop hd b ks=>bif cls g hd.s0&&cls g (hd.s0++hd.fv)then(match itr (fun vs=>run (gup g hd.v0 vs) b) 300 (dns g hd.s0)with
   |some r=>bif vbeq (F hd.id (dns g (hd.s0++hd.fv))) (X2 r)then runs g ks r.1 else none
   |none=>none)else none
 |_=>none
noncomputable def runs(g:Nat→Option Val):List VT→Nat→Option (Nat×List Val)
 | [],_=>none
 |k::_,0=>run g k
 |_::r,n+1=>runs g r n
end
mutual
theorem co0: ∀(t:VT) (g:Nat→Option Val) (ω:Opq) (r:Nat×List Val),Fits ω g→run g t=some r→G6 t ω=some r
 | .need e x,g,ω,r,hf,h=>by
   unfold run at h
   cases hc:(cl g e&&(dn g e).toB)with
   |false=>rw[hc]at h;cases h
   |true=>
    rw[hc]at h
    rw[d6]at hc
    rw[G6.eq_3,if_pos (by unfold dB;rw[ca5 hf e hc.1];exact hc.2)]
    exact co0 x g ω r hf h
 | .ite e x y,g,ω,r,hf,h=>by
   unfold run at h
   cases hc:cl g e with
   |false=>rw[hc]at h;cases h
   |true=>
    rw[hc]at h
    have he:dB ω e=(dn g e).toB:=by unfold dB;rw[ca5 hf e hc]
    rw[G6.eq_2,he]
    cases hb:(dn g e).toB with
    |true=>rw[hb]at h;exact co0 x g ω r hf h
    |false=>rw[hb]at h;exact co0 y g ω r hf h
 | .ret i out,g,ω,r,hf,h=>by
   unfold run at h
   cases hc:cls g out with
   |false=>rw[hc]at h;cases h
   |true=>
    rw[hc]at h
    rw[G6.eq_4,cy9 hf out hc]
    exact h
 | .loop hd b ks,g,ω,r,hf,h=>by
   unfold run at h
   cases hc:(cls g hd.s0&&cls g (hd.s0++hd.fv))with
   |false=>rw[hc]at h;cases h
   |true=>
    rw[hc]at h
    rw[d6]at hc
    simp only[cond_true]at h
    split at h
    ·rename_i q hq
     have h1:Y6 (fun vs=>G6 b (ω.upd hd.v0 vs)) (I9 ω hd.s0)=some q:=by
      rw[cy9 hf hd.s0 hc.1]
      exact itr_ok (fun vs r' hh=>co0 b _ _ r' (fits_up hf hd.v0 vs) hh) _ _ q.1 q.2 hq
     cases hv:vbeq (F hd.id (dns g (hd.s0++hd.fv))) (X2 q)with
     |false=>rw[hv]at h;cases h
     |true=>
      rw[hv]at h
      have h2:ω.f hd.id (I9 ω (hd.s0++hd.fv))=X2 q:=by
       rw[hf.1,cy9 hf _ hc.2];exact vbeq_eq _ _ hv
      rw[G6.eq_5,h1]
      simp only
      rw[if_pos h2]
      exact runs_ok ks q.1 g ω r hf h
    ·cases h
 | .bad,g,ω,r,hf,h=>by cases h
 | .both _ _,g,ω,r,hf,h=>by cases h
theorem runs_ok: ∀(ks:List VT) (n:Nat) (g:Nat→Option Val) (ω:Opq) (r:Nat×List Val),Fits ω g→runs g ks n=some r→J8 ks n ω=some r
 | [],_,g,ω,r,hf,h=>by cases h
 |k::_,0,g,ω,r,hf,h=>co0 k g ω r hf h
 |_::s,n+1,g,ω,r,hf,h=>runs_ok s n g ω r hf h
end
noncomputable def said(t:VT):Bool:=match run (fun _=>none) t with
 |some (0,[.vb true])=>true
 |_=>false
theorem said_ok{ω:Opq}(hf: ∀i a,ω.f i a=F i a){t:VT}(h:said t=true):G6 t ω=some (0,[.vb true]):=by
 unfold said at h
 split at h
 ·rename_i e
  exact co0 t _ ω _ ⟨hf,fun n v hh=>by cases hh⟩ e
 ·cases h
theorem t_replyKnown{ω:Opq}(hf: ∀i a,ω.f i a=F i a):G6 a93 ω=some (0,[.vb true]):=said_ok hf (by decide+kernel)
end Kn
theorem t_example{ω:Opq}(hf: ∀i a,ω.f i a=F i a):G6 T_example ω=some (0,[ω.w 0,F 151 [ω.w 0],F 152 [ω.w 0],F 153 [ω.w 0],F 154 [ω.w 0],F 155 [ω.w 0],F 156 [ω.w 0],F 157 [ω.w 0],F 158 [ω.w 0],F 159 [ω.w 0],F 160 [ω.w 0],F 161 [ω.w 0]]):=by
 have e: ∀l:List Val,l=exM (ω.w 0).toI→[ω.w 0,F 151 [ω.w 0],F 152 [ω.w 0],F 153 [ω.w 0],F 154 [ω.w 0],F 155 [ω.w 0],F 156 [ω.w 0],F 157 [ω.w 0],F 158 [ω.w 0],F 159 [ω.w 0],F 160 [ω.w 0],F 161 [ω.w 0]]=[ω.w 0,arg l 0,arg l 1,arg l 2,arg l 3,arg l 4,arg l 5,arg l 6,arg l 7,arg l 8,arg l 9,arg l 10]:=fun l hl=>by rw[hl];rfl
 rw[e _ rfl]
 unfold exM
 simp only[T_example,kn32,kn63,kn92,G6,dB,den,I9,K1,H8,G9,I5,decide_eq_true_eq]
 by_cases h1:(ω.w 0).toI=1
 ·simp only[if_pos h1,if_neg (show¬(ω.w 0).toI=4 by omega)];rfl
 by_cases h4:(ω.w 0).toI=4
 ·simp only[if_neg h1,if_pos h4];rfl
 by_cases h2:(ω.w 0).toI=2
 ·simp only[if_neg h1,if_neg h4,if_pos h2];rfl
 by_cases h3:(ω.w 0).toI=3
 ·simp only[if_neg h1,if_neg h4,if_neg h2,if_pos h3];rfl
 by_cases h5:(ω.w 0).toI=5
 ·simp only[if_neg h1,if_neg h4,if_neg h2,if_neg h3,if_pos h5];rfl
 by_cases h7:(ω.w 0).toI=7
 ·simp only[if_neg h1,if_neg h4,if_neg h2,if_neg h3,if_neg h5,if_pos h7];rfl
 simp only[if_neg h1,if_neg h4,if_neg h2,if_neg h3,if_neg h5,if_neg h7];rfl
end Go.Ev
