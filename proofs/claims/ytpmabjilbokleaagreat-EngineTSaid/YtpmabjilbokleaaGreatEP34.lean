import Derived.Test.YtpmabjilbokleaaGreatEG3
import Derived.Test.YtpmabjilbokleaaGreatEO1
set_option linter.unusedSimpArgs false
set_option linter.unusedVariables false
namespace Go.Ev.S9
open Go Go.Ev
theorem df3{I:Opq}(hf: ∀a,I.f 874 a=ku (U4 (λi=>[W3 (aO (aN a 5).toL i)]) (aN a 5).toL.length) (aN a 5).toL.length)(hn:(I.w 0).toL.length<=400)(h7:I.w 0= .vl (I.w 0).toL)(h8: ∀r∈(I.w 0).toL,W3 r=r):R0 OW I=some (0,[I.w 0]):=by
 generalize hl:(I.w 0).toL=l at*
 have hg:U4 (λi=>[W3 (aO l i)]) l.length=l:=by
  rw[rT W3 l];exact(x6 (g:=id) h8).trans (E9 _)
 have e0:aM I Hc=V0 (0,[.vi l.length,.vi l.length,.vl l]):=by
  show I.f 874 [.vi 0,.vi 0,.vl [],.vi 0,.vi (I.w 0).toL.length,I.w 0]=_;rw[hf];show ku (U4 (λi=>[W3 (aO (I.w 0).toL i)]) (I.w 0).toL.length) (I.w 0).toL.length=_;rw[hl,hg];rfl
 have d1:aM I Ig= .vl l:=by
  show S0 (aM I Hc).toL 1 2=_;rw[e0];rfl
 refine R4 (r:=(0,[.vi l.length,.vi l.length,.vl l])) ?_ e0 (xT e0 d1 ?_)
 .have:=Nx (I:=I) (v0:=2000) (N:= (zl 0)) (row:=Lw 0 2001) (f:=λi=>W3 (aO l i)) (n:=l.length) (by omega) (λvs=> ?_) (λi a acc hi=> ?_)
  .rw[hg]at this;exact this
  .grind[S2,bx,bc]
  .rw[cK3 (fT ..),bc _ _ _ (by omega),hl]
 .show some (0,[aM I Ig])=_;grind
end Go.Ev.S9
namespace Go.Ev
open Go
theorem df4{I:Opq}(hf: ∀i a,I.f i a=F i a)(hn:(I.w 0).toL.length<=1000000):R0 S9.T_sameV I=some (0,[F 3 [I.w 0,I.w 1]]):=by
 unfold S9.T_sameV S9.L852;simp only[R0,mF,R7,aM,dB,W7,List.cons_append,List.nil_append];by_cases hl:(I.w 0).toL.length=(I.w 1).toL.length
 .have hl':((I.w 0).toL.length:Int)=(I.w 1).toL.length:=by rw[hl]
  rw[Ak (bad:=λi=> !decide (jP (aO (I.w 0).toL i)=jP (aO (I.w 1).toL i))) (px:=λk=>[.vb false,.vi k]) (n:=(I.w 0).toL.length)]
  .simp only[hf,F,S9.FT,S9.FE,F0,GY,EK,bT1 jP _ _ hl,bs2 jP _ _ hl,hl'];by_cases h:(I.w 0).toL.map jP=(I.w 1).toL.map jP<;>simp[mF,R0,h,aM,R7,W7,V0,S0,hf,F,S9.FT,S9.FE,F0,GY,EK,hl',CA,bT1 jP _ _ hl,Hs]
  .intro i hi hb;have hi':i<(I.w 1).toL.length:=by omega
   simp only[Bool.not_eq_false',decide_eq_true_eq,UX]at hb;simp[hi,hi',T1,cM3 (show i<=10000000 by omega),oi,oq,oO,uM,we,sY,uK,hb]
  .intro i hi hb;have hi':i<(I.w 1).toL.length:=by omega
   simp only[A6,decide_eq_false_iff_not,UX]at hb;simp[hi,hi',T1,oi,oq,oO,uM,we,sY,uK];grind
  .simp[T1]
 .have hl': ¬((I.w 0).toL.length:Int)=(I.w 1).toL.length:=by omega
  simp[hl',F,S9.FT,S9.FE,F0,GY,EK,Hs,CA,dz1 _ hl,R7,aM]
end Go.Ev
namespace Go.Ev.S9
open Go Go.Ev
theorem df5{r:Val}(h:qz r=true): ∃x:bB,r=bm x/\S8 1 x.1 x.2.1 x.2.2=0/\aY x.2.2:=by
 unfold qz at h;split at h
 .rename_i e k t v;obtain⟨h1,h⟩:=Q8 h;obtain⟨h2,h⟩:=Q8 h;obtain⟨h3,h4⟩:=Q8 h;have h1:=j6 h1;subst h1;exact⟨(k,t,v),rfl,j6 h2,j6 h3,j6 h4⟩
 .cases h
theorem UY: ∀l:List Val,l.all qz=true-> ∃evs:List bB,l=evs.map bm/\fF evs/\MT evs
 | [],_=>⟨[],rfl,λ_ h=>(by cases h),λ_ h=>(by cases h)⟩
 |r::l,h=>by
  obtain⟨h1,h2⟩:=Q8 h;obtain⟨x,rfl,a,b⟩:=df5 h1;obtain⟨evs,rfl,c,d⟩:=UY l h2;refine⟨x::evs,rfl,λy hy=> ?_,λy hy=> ?_⟩
  .rcases m7.1 hy with rfl|hy
   .exact⟨(qQ a rfl).2,b⟩
   .exact c y hy
  .rcases m7.1 hy with rfl|hy
   .exact a
   .exact d y hy
theorem df6{X:Nat->List Val->Val}(hX:XOk X){k s w g:Int}(hR:R9 k s w g=true){ev:List Val}(hn:ev.length<=24)(he:ev.all qz=true)(ho:dU k s w g ev=true):(bD k s w g ev ev.length).length<=400/\(X 431 [.vl (bD k s w g ev ev.length)]).toB=true:=by
 obtain⟨evs,rfl,h1,h2⟩:=UY ev he;rw[o9]at hn;have ht:=Xp hR h1 hn h2 ho;exact⟨(wz hR ht h1 hn).2.2.1,hX.x431 _ λr hr=>wK (ht.nrm r hr)⟩
end Go.Ev.S9
namespace Go.Ev.S9
open Go Go.Ev
theorem Ut{l:List Val}(ho: ∀r∈l,opOk r=true): ∀i,i<=l.length->(∀j,j<i->ed l j=0)->(dC l i).length<=i/\(dC l i).all qz=true
 |0,_,_=>⟨i6 _,rfl⟩
 |i+1,hi,hz=>by
  obtain⟨h1,h2⟩:=Ut ho i (by omega) λj hj=>hz j (by omega)
  obtain⟨ek,ks,t,v,hr,hv⟩:=zS (ho _ (gp (show i<l.length by omega)));have hk:ci (aO l i) 0=ek:=by rw[hr];rfl
  have hz0:=hz i (by omega);rw[EG hr]at hz0;rw[Hf (by omega),l5,D9,h2];unfold lO;rw[hk];by_cases c:ek=1
  .subst c;rw[e9 rfl,cond_true,hr];refine⟨by show(dC l i).length+1<=i+1;omega,?_⟩;show(true&&((decide ((1:Int)=1)&&(decide (S8 1 ks t v=0)&&(decide (-9223372036854775808<=v)&&decide (v<9223372036854775808))))&&true))=true;rw[e9 hz0,e9 hv.1,e9 hv.2];rfl
  grind
end Go.Ev.S9
namespace Go.Ev.S9
open Go Go.Ev
theorem fe_x:XOk (FE F0):=dR0 pw
theorem dA0(v:Val)(h:(F0 431 [v]).toB=true): ∃l',F0 490 [v]= .vl l'/\l'.Perm v.toL/\ ∀r∈l',W3 r=r:=by
 obtain⟨h1,h2⟩:=Ki h;have hp:=S7.srt_perm false v.toL;exact⟨S7.srt false v.toL,rfl,hp,λr hr=>h2 r (hp.mem_iff.1 hr)⟩
theorem c_rRight{I:Opq}:R0 T_rRight I=some (0,[F 700 [I.w 0,I.w 1,I.w 2,I.w 3]]):=cK5
theorem c_rev{I:Opq}:R0 T_rev I=some (0,[F 701 [I.w 0,I.w 1,I.w 2,I.w 3]]):=dN8
theorem c_r3of{I:Opq}:R0 T_r3of I=some (0,[S0 (F 810 [I.w 0]).toL 0 0,S0 (F 810 [I.w 0]).toL 0 1,S0 (F 810 [I.w 0]).toL 0 2,S0 (F 810 [I.w 0]).toL 0 3]):=dw3
theorem c_r3plus{I:Opq}:R0 T_r3plus I=some (0,[S0 (F 811 [I.w 0,I.w 1,I.w 2,I.w 3,I.w 4,I.w 5,I.w 6,I.w 7]).toL 0 0,S0 (F 811 [I.w 0,I.w 1,I.w 2,I.w 3,I.w 4,I.w 5,I.w 6,I.w 7]).toL 0 1,S0 (F 811 [I.w 0,I.w 1,I.w 2,I.w 3,I.w 4,I.w 5,I.w 6,I.w 7]).toL 0 2,S0 (F 811 [I.w 0,I.w 1,I.w 2,I.w 3,I.w 4,I.w 5,I.w 6,I.w 7]).toL 0 3]):=cK6
theorem TM{a b c d e:Val}(h:(F 838 [a,b,c,d,e]).toB=true): ∃k s w g l,a= .vi k/\b= .vi s/\c= .vi w/\d= .vi g/\e= .vl l/\l.length<=24/\ ∀r∈l,opOk r=true:=by
 obtain⟨g0,hn⟩:=Q8 (show(isVi a&&(isVi b&&(isVi c&&(isVi d&&(opsOk e&&decide (e.toL.length<=24))))))=true from h);obtain⟨g1,hn⟩:=Q8 hn;obtain⟨g2,hn⟩:=Q8 hn;obtain⟨g3,hn⟩:=Q8 hn;obtain⟨g4,hn⟩:=Q8 hn;obtain⟨k,w0⟩:=rP g0;obtain⟨s,w1⟩:=rP g1;obtain⟨w,w2⟩:=rP g2;obtain⟨g,w3⟩:=rP g3;obtain⟨l,w4,ho⟩:=Uy g4;simp_all
section
variable{I:Opq}(hf: ∀i a,I.f i a=F i a)
include hf
theorem c_r3fit:R0 T_r3fit I=some (0,[F 812 [I.w 0,I.w 1,I.w 2,I.w 3],F 813 [I.w 0,I.w 1,I.w 2,I.w 3]]):=da6 (λa=>hf 810 a)
theorem c_r3Sum(hn:(I.w 0).toL.length<=100):R0 T_r3Sum I=some (0,[F 842 [I.w 0],F 843 [I.w 0]]):=da7 (λa=>hf 810 a) (λa=>hf 811 a) (λa=>hf 812 a) (λa=>hf 813 a) (λa=>hf 850 a) hn
theorem c_rAll(hn:(I.w 0).toL.length<=100):R0 T_rAll I=some (0,[S0 (F 820 [I.w 0]).toL 0 0,S0 (F 820 [I.w 0]).toL 0 1,S0 (F 820 [I.w 0]).toL 0 2,S0 (F 820 [I.w 0]).toL 0 3,F 843 [I.w 0]]):=dw4 (λa=>hf 842 a) (λa=>hf 843 a) (λa=>hf 851 a) hn
theorem c_rOf:R0 T_rOf I=some (0,[F 704 [I.w 0,I.w 1,I.w 2,I.w 3,I.w 4]]):=dO6 (λa=>hf 700 a) (λa=>hf 853 a)
theorem c_sOf(hn:(I.w 1).toL.length<=100):R0 T_sOf I=some (0,[F 825 [I.w 0,I.w 1],F 824 [I.w 0,I.w 1]]):=dP6 (λa=>hf 854 a) (λa=>hf 855 a) (λa=>hf 856 a) (λa=>hf 857 a) (λa=>hf 858 a) (λa=>hf 859 a) (λa=>hf 860 a) hn
theorem c_rSpans(hn:(I.w 4).toL.length<=100):R0 T_rSpans I=some (0,[F 826 [I.w 0,I.w 1,I.w 2,I.w 3,I.w 4,I.w 5]]):=cL1 (λa=>hf 704 a) (λa=>hf 824 a) (λa=>hf 861 a) (λa=>hf 862 a) (λa=>hf 863 a) hn
theorem c_has(hn:(I.w 0).toL.length<=1000000):R0 T_has I=some (0,[F 827 [I.w 0,I.w 1,I.w 2,I.w 3]]):=dN7 (λa=>hf 864 a) hn
theorem c_rFired(hn:(I.w 0).toL.length<=400):R0 T_rFired I=some (0,[F 832 [I.w 0,I.w 1]]):=cK4 (λa=>hf 868 a) hn
theorem c_rEvents(hn:(I.w 0).toL.length<=100):R0 T_rEvents I=some (0,[F 830 [I.w 0]]):=cr5 (λa=>hf 870 a) hn
theorem c_rMark(hn:(I.w 0).toL.length<=100):R0 T_rMark I=some (0,[F 831 [I.w 0]]):=da5 (λa=>hf 871 a) hn
theorem c_opsN(hn:(I.w 0).toL.length<=100):R0 T_opsN I=some (0,[F 835 [I.w 0]]):=dw2 (λa=>hf 873 a) hn
theorem c_rowsN(hn:(I.w 0).toL.length<=400)(h:(F 431 [I.w 0]).toB=true):R0 OW I=some (0,[I.w 0]):=
 let q:=Ki h
 df3 (λa=>hf 874 a) hn q.1 q.2
theorem c_fired(hn:(I.w 4).toL.length<=400)(h431:(F 431 [I.w 4]).toB=true)(h491:(F 491 [I.w 4]).toB=true):R0 T_fired I=some (0,[F 726 [I.w 4,I.w 5]]):=
 db5 (X:=F0) (λa=>hf 490 a) (λv h=>dA0 v (by rw[hf]at h;exact h)) (λa=>hf 763 a) (λa=>hf 764 a) hn (by grind) (by grind)
theorem c_rRows(h:(F 840 [I.w 0,I.w 1,I.w 2,I.w 3,I.w 4]).toB=true):R0 T_rRows I=some (0,[F 829 [I.w 0,I.w 1,I.w 2,I.w 3,I.w 4],F 828 [I.w 0,I.w 1,I.w 2,I.w 3,I.w 4]]):=by
 obtain⟨h1,h2⟩:=Q8 (show(R9 (I.w 0).toI (I.w 1).toI (I.w 2).toI (I.w 3).toI&&(decide ((I.w 4).toL.length<=24)&&(I.w 4).toL.all qz))=true from h);obtain⟨h2,h3⟩:=Q8 h2;have h2:=j6 h2;exact db4 (X:=F0) (λa=>hf 820 a) (λa=>hf 826 a) (λa=>hf 827 a) (λa=>hf 843 a) (λa=>hf 866 a) (λa=>hf 867 a) (λa=>hf 490 a) (λa=>hf 865 a) rfl rfl rfl rfl rfl h2 (λho=>by rw[hf];exact df6 pw h1 h2 h3 ho)
theorem c_rT(h:(F 838 [I.w 0,I.w 1,I.w 2,I.w 3,I.w 4]).toB=true):R0 T_rT I=some (0,[F 834 [I.w 0,I.w 1,I.w 2,I.w 3,I.w 4],F 833 [I.w 0,I.w 1,I.w 2,I.w 3,I.w 4]]):=by
 obtain⟨k,s,w,g,l,w0,w1,w2,w3,w4,hn,ho⟩:=TM h;refine e13 (X:=F0) (λa=>hf 701 a) (λa=>hf 829 a) (λa=>hf 830 a) (λa=>hf 700 a) (λa=>hf 828 a) (λa=>hf 831 a) (λa=>hf 832 a) (λa=>hf 869 a) (k:=k) (s:=s) (w:=w) (g:=g) (l:=l) (by rw[w0];rfl) (by rw[w1];rfl) (by rw[w2];rfl) (by rw[w3];rfl) (by rw[w4];rfl) (by omega) (λhR i hi hz=> ?_) (λhR hr=> ?_)
 .obtain⟨e1,e2⟩:=Ut ho i hi hz;refine⟨by omega,?_⟩;rw[hf,w0,w1,w2,w3];show(R9 k s w g&&(decide ((dC l i).length<=24)&&(dC l i).all qz))=true;grind
 .have he:=Vd pw hR hn ho;rw[hr]at he;obtain⟨L,_,_,_,_,L0,q1,q2,q3⟩:=WT pw hR hn ho he;rw[hf,q1];exact⟨q2,pw.x431 L0 q3⟩
theorem c_engT(h:(F 838 [I.w 0,I.w 1,I.w 2,I.w 3,I.w 4]).toB=true):R0 T_engT I=some (0,[F 837 [I.w 0,I.w 1,I.w 2,I.w 3,I.w 4],F 836 [I.w 0,I.w 1,I.w 2,I.w 3,I.w 4]]):=by
 obtain⟨k,s,w,g,l,w0,w1,w2,w3,w4,hn,ho⟩:=TM h;have h490: ∀a,F0 490 a=FE F0 490 a:=λa=>rfl
 have:=dy1 (X:=FE F0) hf fe_x (λa=>WD (X:=F0) h490 a) (λa=>dy8 (X:=F0) h490 a) w0 w1 w2 w3 w4 hn ho;rw[<-dy9 h490,<-dz0 h490]at this;exact this
theorem c_engineT(h:(F 839 [I.w 0,I.w 1,I.w 2,I.w 3,I.w 4]).toB=true):R0 T_engineT I=some (0,[.vb true]):=by
 obtain⟨g0,hn⟩:=Q8 (show(isVi (I.w 0)&&(isVi (I.w 1)&&(isVi (I.w 2)&&(isVi (I.w 3)&&opsOk (I.w 4)))))=true from h);obtain⟨g1,hn⟩:=Q8 hn;obtain⟨g2,hn⟩:=Q8 hn;obtain⟨g3,g4⟩:=Q8 hn;obtain⟨k,w0⟩:=rP g0;obtain⟨s,w1⟩:=rP g1;obtain⟨w,w2⟩:=rP g2;obtain⟨g,w3⟩:=rP g3;obtain⟨l,w4,ho⟩:=Uy g4;refine cs7 (X:=F0) (λv=>(hf 3 [v,v]).trans (pw.x3 v)) (λa=>hf 833 a) (λa=>hf 834 a) (λa=>hf 835 a) (λa=>hf 836 a) (λa=>hf 837 a) (λa=>hf 838 a) (λa=>hf 875 a) w0 w1 w2 w3 w4 ho (λhl=> ?_) (λhl=> ?_) (λhl=> ?_)
 .grind[Mm,pw]
 .exact(Mm pw (by omega) ho).2.1
 .obtain⟨_,_,q1,q2⟩:=Mm (k:=k) (s:=s) (w:=w) (g:=g) pw (by omega) ho;exact⟨q1,by rw[hf];exact q2⟩
end
end Go.Ev.S9
