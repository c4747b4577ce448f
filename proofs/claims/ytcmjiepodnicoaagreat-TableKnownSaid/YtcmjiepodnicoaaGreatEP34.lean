import Derived.Test.YtcmjiepodnicoaaGreatEG3
import Derived.Test.YtcmjiepodnicoaaGreatEO1
set_option linter.unusedSimpArgs false
set_option linter.unusedVariables false
namespace Go.Ev.S9
open Go Go.Ev
end Go.Ev.S9
namespace Go.Ev
open Go
theorem dl0{I:Opq}(hf: ∀i a,I.f i a=F i a)(hn:(I.w 0).toL.length<=1000000):Z0 S9.T_sameV I=some (0,[F 3 [I.w 0,I.w 1]]):=by
 unfold S9.T_sameV S9.L852;simp only[Z0,sh,ck,bZ,dB,cK,List.cons_append,List.nil_append];by_cases hl:(I.w 0).toL.length=(I.w 1).toL.length
 .have hl':((I.w 0).toL.length:Int)=(I.w 1).toL.length:=by rw[hl]
  rw[xu (bad:=λi=> !decide (fJ (cg (I.w 0).toL i)=fJ (cg (I.w 1).toL i))) (px:=λk=>[.vb false,.vi k]) (n:=(I.w 0).toL.length)]
  .simp only[hf,F,S9.FT,S9.FQ,S9.FE,F0,xB,yH,JM fJ _ _ hl,Uh fJ _ _ hl,hl'];by_cases h:(I.w 0).toL.map fJ=(I.w 1).toL.map fJ<;>simp[sh,Z0,h,bZ,ck,cK,cA,co,hf,F,S9.FT,S9.FQ,S9.FE,F0,xB,yH,hl',wZ,JM fJ _ _ hl,vp]
  .intro i hi hb;have hi':i<(I.w 1).toL.length:=by omega
   simp only[Bool.not_eq_false',decide_eq_true_eq,CG]at hb;simp[hi,hi',cN,bZ8 (show i<=10000000 by omega),pw,pD,pJ,uU,um,uP,uw,hb]
  .intro i hi hb;have hi':i<(I.w 1).toL.length:=by omega
   simp only[y6,decide_eq_false_iff_not,CG]at hb;simp[hi,hi',cN,pw,pD,pJ,uU,um,uP,uw];grind
  .simp[cN]
 .have hl': ¬((I.w 0).toL.length:Int)=(I.w 1).toL.length:=by omega
  simp[hl',F,S9.FT,S9.FQ,S9.FE,F0,xB,yH,vp,wZ,cZ4 _ hl,ck,bZ]
end Go.Ev
namespace Go.Ev.S9
open Go Go.Ev
theorem dl1{r:Val}(h:pB r=true): ∃x:dG,r=cw x/\dH 1 x.1 x.2.1 x.2.2=0/\cP x.2.2:=by
 unfold pB at h;split at h
 .rename_i e k t v;obtain⟨h1,h⟩:=Z1 h;obtain⟨h2,h⟩:=Z1 h;obtain⟨h3,h4⟩:=Z1 h;have h1:=j5 h1;subst h1;exact⟨(k,t,v),rfl,j5 h2,j5 h3,j5 h4⟩
 .cases h
theorem cZ6: ∀l:List Val,l.all pB=true-> ∃evs:List dG,l=evs.map cw/\fT evs/\qL evs
 | [],_=>⟨[],rfl,λ_ h=>(by cases h),λ_ h=>(by cases h)⟩
 |r::l,h=>by
  obtain⟨h1,h2⟩:=Z1 h;obtain⟨x,rfl,a,b⟩:=dl1 h1;obtain⟨evs,rfl,c,d⟩:=cZ6 l h2;refine⟨x::evs,rfl,λy hy=> ?_,λy hy=> ?_⟩
  .rcases m8.1 hy with rfl|hy
   .exact⟨(tL a rfl).2,b⟩
   .exact c y hy
  .rcases m8.1 hy with rfl|hy
   .exact a
   .exact d y hy
theorem dl2{X:Nat->List Val->Val}(hX:XOk X){k s w g:Int}(hR:cV k s w g=true){ev:List Val}(hn:ev.length<=24)(he:ev.all pB=true)(ho:gg k s w g ev=true):(eL k s w g ev ev.length).length<=400/\(X 431 [.vl (eL k s w g ev ev.length)]).toB=true:=by
 obtain⟨evs,rfl,h1,h2⟩:=cZ6 ev he;rw[k6]at hn;have ht:=cy1 hR h1 hn h2 ho;exact⟨(uV hR ht h1 hn).2.2.1,hX.x431 _ λr hr=>uI (ht.nrm r hr)⟩
theorem fe_x:XOk (FQ F0):=dX6 pe
theorem dE7(v:Val)(h:(F0 431 [v]).toB=true): ∃l',F0 490 [v]= .vl l'/\l'.Perm v.toL/\ ∀r∈l',cQ r=r:=by
 obtain⟨h1,h2⟩:=PN h;have hp:=S7.srt_perm false v.toL;exact⟨S7.srt false v.toL,rfl,hp,λr hr=>h2 r (hp.mem_iff.1 hr)⟩
theorem c_rRight{I:Opq}:Z0 T_rRight I=some (0,[F 700 [I.w 0,I.w 1,I.w 2,I.w 3]]):=cO2
theorem c_rev{I:Opq}:Z0 T_rev I=some (0,[F 701 [I.w 0,I.w 1,I.w 2,I.w 3]]):=dU3
theorem c_r3of{I:Opq}:Z0 T_r3of I=some (0,[co (F 810 [I.w 0]).toL 0 0,co (F 810 [I.w 0]).toL 0 1,co (F 810 [I.w 0]).toL 0 2,co (F 810 [I.w 0]).toL 0 3]):=dB6
theorem c_r3plus{I:Opq}:Z0 T_r3plus I=some (0,[co (F 811 [I.w 0,I.w 1,I.w 2,I.w 3,I.w 4,I.w 5,I.w 6,I.w 7]).toL 0 0,co (F 811 [I.w 0,I.w 1,I.w 2,I.w 3,I.w 4,I.w 5,I.w 6,I.w 7]).toL 0 1,co (F 811 [I.w 0,I.w 1,I.w 2,I.w 3,I.w 4,I.w 5,I.w 6,I.w 7]).toL 0 2,co (F 811 [I.w 0,I.w 1,I.w 2,I.w 3,I.w 4,I.w 5,I.w 6,I.w 7]).toL 0 3]):=cO3
section
variable{I:Opq}(hf: ∀i a,I.f i a=F i a)
include hf
theorem c_r3fit:Z0 T_r3fit I=some (0,[F 812 [I.w 0,I.w 1,I.w 2,I.w 3],F 813 [I.w 0,I.w 1,I.w 2,I.w 3]]):=df6 (λa=>hf 810 a)
theorem c_r3Sum(hn:(I.w 0).toL.length<=100):Z0 T_r3Sum I=some (0,[F 842 [I.w 0],F 843 [I.w 0]]):=df7 (λa=>hf 810 a) (λa=>hf 811 a) (λa=>hf 812 a) (λa=>hf 813 a) (λa=>hf 850 a) hn
theorem c_rAll(hn:(I.w 0).toL.length<=100):Z0 T_rAll I=some (0,[co (F 820 [I.w 0]).toL 0 0,co (F 820 [I.w 0]).toL 0 1,co (F 820 [I.w 0]).toL 0 2,co (F 820 [I.w 0]).toL 0 3,F 843 [I.w 0]]):=dB7 (λa=>hf 842 a) (λa=>hf 843 a) (λa=>hf 851 a) hn
theorem c_rOf:Z0 T_rOf I=some (0,[F 704 [I.w 0,I.w 1,I.w 2,I.w 3,I.w 4]]):=dV1 (λa=>hf 700 a) (λa=>hf 853 a)
theorem c_sOf(hn:(I.w 1).toL.length<=100):Z0 T_sOf I=some (0,[F 825 [I.w 0,I.w 1],F 824 [I.w 0,I.w 1]]):=dW1 (λa=>hf 854 a) (λa=>hf 855 a) (λa=>hf 856 a) (λa=>hf 857 a) (λa=>hf 858 a) (λa=>hf 859 a) (λa=>hf 860 a) hn
theorem c_rSpans(hn:(I.w 4).toL.length<=100):Z0 T_rSpans I=some (0,[F 826 [I.w 0,I.w 1,I.w 2,I.w 3,I.w 4,I.w 5]]):=cO8 (λa=>hf 704 a) (λa=>hf 824 a) (λa=>hf 861 a) (λa=>hf 862 a) (λa=>hf 863 a) hn
theorem c_has(hn:(I.w 0).toL.length<=1000000):Z0 T_has I=some (0,[F 827 [I.w 0,I.w 1,I.w 2,I.w 3]]):=dU2 (λa=>hf 864 a) hn
theorem c_rFired(hn:(I.w 0).toL.length<=400):Z0 T_rFired I=some (0,[F 832 [I.w 0,I.w 1]]):=cO1 (λa=>hf 868 a) hn
theorem c_fired(hn:(I.w 4).toL.length<=400)(h431:(F 431 [I.w 4]).toB=true)(h491:(F 491 [I.w 4]).toB=true):Z0 T_fired I=some (0,[F 726 [I.w 4,I.w 5]]):=
 dh5 (X:=F0) (λa=>hf 490 a) (λv h=>dE7 v (by rw[hf]at h;exact h)) (λa=>hf 763 a) (λa=>hf 764 a) hn (by grind) (by grind)
theorem c_rRows(h:(F 840 [I.w 0,I.w 1,I.w 2,I.w 3,I.w 4]).toB=true):Z0 T_rRows I=some (0,[F 829 [I.w 0,I.w 1,I.w 2,I.w 3,I.w 4],F 828 [I.w 0,I.w 1,I.w 2,I.w 3,I.w 4]]):=by
 obtain⟨h1,h2⟩:=Z1 (show(cV (I.w 0).toI (I.w 1).toI (I.w 2).toI (I.w 3).toI&&(decide ((I.w 4).toL.length<=24)&&(I.w 4).toL.all pB))=true from h);obtain⟨h2,h3⟩:=Z1 h2;have h2:=j5 h2;exact dh4 (X:=F0) (λa=>hf 820 a) (λa=>hf 826 a) (λa=>hf 827 a) (λa=>hf 843 a) (λa=>hf 866 a) (λa=>hf 867 a) (λa=>hf 490 a) (λa=>hf 865 a) rfl rfl rfl rfl rfl h2 (λho=>by rw[hf];exact dl2 pe h1 h2 h3 ho)
end
end Go.Ev.S9
