import Derived.Test.YtipefnncbnbliaaGreatEG3
import Derived.Test.YtipefnncbnbliaaGreatEO1
set_option linter.unusedSimpArgs false
set_option linter.unusedVariables false
namespace Go.Ev.S9
open Go Go.Ev
end Go.Ev.S9
namespace Go.Ev
open Go
theorem dp8{I:Opq}(hf: ∀i a,I.f i a=F i a)(hn:(I.w 0).toL.length<=1000000):W7 S9.T_sameV I=some (0,[F 3 [I.w 0,I.w 1]]):=by
 unfold S9.T_sameV S9.L852;simp only[W7,nq,Z6,bU,dB,cA,List.cons_append,List.nil_append];by_cases hl:(I.w 0).toL.length=(I.w 1).toL.length
 .have hl':((I.w 0).toL.length:Int)=(I.w 1).toL.length:=by rw[hl]
  rw[ws (bad:=λi=> !decide (eW (bW (I.w 0).toL i)=eW (bW (I.w 1).toL i))) (px:=λk=>[.vb false,.vi k]) (n:=(I.w 0).toL.length)]
  .simp only[hf,F,S9.FT,S9.FQ,S9.FE,F0,yf,xQ,Iz eW _ _ hl,UZ eW _ _ hl,hl'];by_cases h:(I.w 0).toL.map eW=(I.w 1).toL.map eW<;>simp[nq,W7,h,bU,Z6,cA,cr,bZ,hf,F,S9.FT,S9.FQ,S9.FE,F0,yf,xQ,hl',uZ,Iz eW _ _ hl,vE]
  .intro i hi hb;have hi':i<(I.w 1).toL.length:=by omega
   simp only[Bool.not_eq_false',decide_eq_true_eq,Br]at hb;simp[hi,hi',cM,c27 (show i<=10000000 by omega),oR,oJ,oB,um,tZ,tF,tz,hb]
  .intro i hi hb;have hi':i<(I.w 1).toL.length:=by omega
   simp only[y6,decide_eq_false_iff_not,Br]at hb;simp[hi,hi',cM,oR,oJ,oB,um,tZ,tF,tz];grind
  .simp[cM]
 .have hl': ¬((I.w 0).toL.length:Int)=(I.w 1).toL.length:=by omega
  simp[hl',F,S9.FT,S9.FQ,S9.FE,F0,yf,xQ,vE,uZ,d58 _ hl,Z6,bU]
end Go.Ev
namespace Go.Ev.S9
open Go Go.Ev
theorem dp9{r:Val}(h:oq r=true): ∃x:dy,r=cD x/\Z9 1 x.1 x.2.1 x.2.2=0/\cH x.2.2:=by
 unfold oq at h;split at h
 .rename_i e k t v;obtain⟨h1,h⟩:=W5 h;obtain⟨h2,h⟩:=W5 h;obtain⟨h3,h4⟩:=W5 h;have h1:=j6 h1;subst h1;exact⟨(k,t,v),rfl,j6 h2,j6 h3,j6 h4⟩
 .cases h
theorem XT: ∀l:List Val,l.all oq=true-> ∃evs:List dy,l=evs.map cD/\gA evs/\BT evs
 | [],_=>⟨[],rfl,λ_ h=>(by cases h),λ_ h=>(by cases h)⟩
 |r::l,h=>by
  obtain⟨h1,h2⟩:=W5 h;obtain⟨x,rfl,a,b⟩:=dp9 h1;obtain⟨evs,rfl,c,d⟩:=XT l h2;refine⟨x::evs,rfl,λy hy=> ?_,λy hy=> ?_⟩
  .rcases n5.1 hy with rfl|hy
   .exact⟨(xj a rfl).2,b⟩
   .exact c y hy
  .rcases n5.1 hy with rfl|hy
   .exact a
   .exact d y hy
theorem dq0{X:Nat->List Val->Val}(hX:XOk X){k s w g:Int}(hR:cT k s w g=true){ev:List Val}(hn:ev.length<=24)(he:ev.all oq=true)(ho:fB k s w g ev=true):(ef k s w g ev ev.length).length<=400/\(X 431 [.vl (ef k s w g ev ev.length)]).toB=true:=by
 obtain⟨evs,rfl,h1,h2⟩:=XT ev he;rw[l5]at hn;have ht:=YX hR h1 hn h2 ho;exact⟨(Oj hR ht h1 hn).2.2.1,hX.x431 _ λr hr=>Bv (ht.nrm r hr)⟩
theorem fe_x:XOk (FQ F0):=e01 ox
theorem dI7(v:Val)(h:(F0 431 [v]).toB=true): ∃l',F0 490 [v]= .vl l'/\l'.Perm v.toL/\ ∀r∈l',cK r=r:=by
 obtain⟨h1,h2⟩:=QM h;have hp:=S7.srt_perm false v.toL;exact⟨S7.srt false v.toL,rfl,hp,λr hr=>h2 r (hp.mem_iff.1 hr)⟩
theorem c_rRight{I:Opq}:W7 T_rRight I=some (0,[F 700 [I.w 0,I.w 1,I.w 2,I.w 3]]):=cU6
theorem c_rev{I:Opq}:W7 T_rev I=some (0,[F 701 [I.w 0,I.w 1,I.w 2,I.w 3]]):=dW6
theorem c_r3of{I:Opq}:W7 T_r3of I=some (0,[bZ (F 810 [I.w 0]).toL 0 0,bZ (F 810 [I.w 0]).toL 0 1,bZ (F 810 [I.w 0]).toL 0 2,bZ (F 810 [I.w 0]).toL 0 3]):=dF9
theorem c_r3plus{I:Opq}:W7 T_r3plus I=some (0,[bZ (F 811 [I.w 0,I.w 1,I.w 2,I.w 3,I.w 4,I.w 5,I.w 6,I.w 7]).toL 0 0,bZ (F 811 [I.w 0,I.w 1,I.w 2,I.w 3,I.w 4,I.w 5,I.w 6,I.w 7]).toL 0 1,bZ (F 811 [I.w 0,I.w 1,I.w 2,I.w 3,I.w 4,I.w 5,I.w 6,I.w 7]).toL 0 2,bZ (F 811 [I.w 0,I.w 1,I.w 2,I.w 3,I.w 4,I.w 5,I.w 6,I.w 7]).toL 0 3]):=cU7
section
variable{I:Opq}(hf: ∀i a,I.f i a=F i a)
include hf
theorem c_r3fit:W7 T_r3fit I=some (0,[F 812 [I.w 0,I.w 1,I.w 2,I.w 3],F 813 [I.w 0,I.w 1,I.w 2,I.w 3]]):=dl4 (λa=>hf 810 a)
theorem c_r3Sum(hn:(I.w 0).toL.length<=100):W7 T_r3Sum I=some (0,[F 842 [I.w 0],F 843 [I.w 0]]):=dl5 (λa=>hf 810 a) (λa=>hf 811 a) (λa=>hf 812 a) (λa=>hf 813 a) (λa=>hf 850 a) hn
theorem c_rAll(hn:(I.w 0).toL.length<=100):W7 T_rAll I=some (0,[bZ (F 820 [I.w 0]).toL 0 0,bZ (F 820 [I.w 0]).toL 0 1,bZ (F 820 [I.w 0]).toL 0 2,bZ (F 820 [I.w 0]).toL 0 3,F 843 [I.w 0]]):=dG0 (λa=>hf 842 a) (λa=>hf 843 a) (λa=>hf 851 a) hn
theorem c_rOf:W7 T_rOf I=some (0,[F 704 [I.w 0,I.w 1,I.w 2,I.w 3,I.w 4]]):=dX4 (λa=>hf 700 a) (λa=>hf 853 a)
theorem c_sOf(hn:(I.w 1).toL.length<=100):W7 T_sOf I=some (0,[F 825 [I.w 0,I.w 1],F 824 [I.w 0,I.w 1]]):=dY4 (λa=>hf 854 a) (λa=>hf 855 a) (λa=>hf 856 a) (λa=>hf 857 a) (λa=>hf 858 a) (λa=>hf 859 a) (λa=>hf 860 a) hn
theorem c_rSpans(hn:(I.w 4).toL.length<=100):W7 T_rSpans I=some (0,[F 826 [I.w 0,I.w 1,I.w 2,I.w 3,I.w 4,I.w 5]]):=cV2 (λa=>hf 704 a) (λa=>hf 824 a) (λa=>hf 861 a) (λa=>hf 862 a) (λa=>hf 863 a) hn
theorem c_has(hn:(I.w 0).toL.length<=1000000):W7 T_has I=some (0,[F 827 [I.w 0,I.w 1,I.w 2,I.w 3]]):=dW5 (λa=>hf 864 a) hn
theorem c_rFired(hn:(I.w 0).toL.length<=400):W7 T_rFired I=some (0,[F 832 [I.w 0,I.w 1]]):=cU5 (λa=>hf 868 a) hn
theorem c_fired(hn:(I.w 4).toL.length<=400)(h431:(F 431 [I.w 4]).toB=true)(h491:(F 491 [I.w 4]).toB=true):W7 T_fired I=some (0,[F 726 [I.w 4,I.w 5]]):=
 dm3 (X:=F0) (λa=>hf 490 a) (λv h=>dI7 v (by rw[hf]at h;exact h)) (λa=>hf 763 a) (λa=>hf 764 a) hn (by grind) (by grind)
theorem c_rRows(h:(F 840 [I.w 0,I.w 1,I.w 2,I.w 3,I.w 4]).toB=true):W7 T_rRows I=some (0,[F 829 [I.w 0,I.w 1,I.w 2,I.w 3,I.w 4],F 828 [I.w 0,I.w 1,I.w 2,I.w 3,I.w 4]]):=by
 obtain⟨h1,h2⟩:=W5 (show(cT (I.w 0).toI (I.w 1).toI (I.w 2).toI (I.w 3).toI&&(decide ((I.w 4).toL.length<=24)&&(I.w 4).toL.all oq))=true from h);obtain⟨h2,h3⟩:=W5 h2;have h2:=j6 h2;exact dm2 (X:=F0) (λa=>hf 820 a) (λa=>hf 826 a) (λa=>hf 827 a) (λa=>hf 843 a) (λa=>hf 866 a) (λa=>hf 867 a) (λa=>hf 490 a) (λa=>hf 865 a) rfl rfl rfl rfl rfl h2 (λho=>by rw[hf];exact dq0 ox h1 h2 h3 ho)
end
end Go.Ev.S9
