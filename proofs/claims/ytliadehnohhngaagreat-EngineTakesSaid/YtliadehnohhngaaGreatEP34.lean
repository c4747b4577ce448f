import Derived.Test.YtliadehnohhngaaGreatEG3
import Derived.Test.YtliadehnohhngaaGreatEO1
set_option linter.all false
namespace Go.Ev.S9
open Go Go.Ev
def dB9{I:Opq}(hf: ∀a,I.f 874 a=lW (cw (λi=>[cO (cg (ce a 5).L i)]) (ce a 5).L.length) (ce a 5).L.length)(hn:(I.w 0).L.length<=400)(h7:I.w 0= .A (I.w 0).L)(h8: ∀r∈(I.w 0).L,cO r=r):W5 Tk I=some (0,[I.w 0]):=by
 generalize hl:(I.w 0).L=l at*
 have hg:cw (λi=>[cO (cg l i)]) l.length=l:=by rw[yd cO l];exact(y6 (g:=id) h8).trans (F5 _)
 have e0:bZ I QO=cC (0,[.D l.length,.D l.length,.A l]):=by show I.f 874 [.D 0,.D 0,.A [],.D 0,.D (I.w 0).L.length,I.w 0]=_;rw[hf];show lW (cw (λi=>[cO (cg (I.w 0).L i)]) (I.w 0).L.length) (I.w 0).L.length=_;rw[hl,hg];rfl
 have d1:bZ I Nt= .A l:=by show ck (bZ I QO).L 1 2=_;rw[e0];rfl
 refine Y3 (r:=(0,[.D l.length,.D l.length,.A l])) ?_ e0 (GC e0 d1 ?_);have:=ZU (I:=I) (v0:=2000) (N:= (zl 0)) (row:=Uj 0 2001) (f:=λi=>cO (cg l i)) (n:=l.length) (by omega) (λvs=> ?_) (λi a acc hi=> ?_);rw[hg]at this;exact this;grind[cK,cM,cR];rw[d33 (ko ..),cR _ _ _ (by omega),hl];show some (0,[bZ I Nt])=_;grind
end Go.Ev.S9
namespace Go.Ev
open Go
def dC0{I:Opq}(hf: ∀i a,I.f i a=F i a)(hn:(I.w 0).L.length<=1000000):W5 S9.T_sameV I=some (0,[F 3 [I.w 0,I.w 1]]):=by
 unfold S9.T_sameV S9.L852;simp only[W5,iP,Y6,bZ,dB,cB,List.cons_append,List.nil_append];by_cases hl:(I.w 0).L.length=(I.w 1).L.length
 have hl':((I.w 0).L.length:Int)=(I.w 1).L.length:=by rw[hl]
 rw[wH (bad:=λi=> !decide (km (cg (I.w 0).L i)=km (cg (I.w 1).L i))) (px:=λk=>[.B false,.D k]) (n:=(I.w 0).L.length)];simp only[hf,F,S9.FT,S9.FU,S9.FQ,S9.FE,F0,jV,jN,Po km _ _ hl,XP km _ _ hl,hl'];by_cases h:(I.w 0).L.map km=(I.w 1).L.map km<;>simp[iP,W5,h,bZ,Y6,cB,cC,ck,hf,F,S9.FT,S9.FU,S9.FQ,S9.FE,F0,jV,jN,hl',xw,Po km _ _ hl,NL]
 intro i hi hb;have hi':i<(I.w 1).L.length:=by omega
 simp only[Bool.not_eq_false',decide_eq_true_eq,Vu]at hb;simp[hi,hi',Y8,aa3 (show i<=10000000 by omega),gq,gp,gj,ix,iu,iq,io,hb]
 intro i hi hb;have hi':i<(I.w 1).L.length:=by omega
 simp only[s8,decide_eq_false_iff_not,Vu]at hb;simp[hi,hi',Y8,gq,gp,gj,ix,iu,iq,io];grind;simp[Y8]
 have hl': ¬((I.w 0).L.length:Int)=(I.w 1).L.length:=by omega
 simp[hl',F,S9.FT,S9.FU,S9.FQ,S9.FE,F0,jV,jN,NL,xw,de2 _ hl,Y6,bZ]
end Go.Ev
namespace Go.Ev.S9
open Go Go.Ev
def dC1{r:Val}(h:ug r=true): ∃x:dw,r=cP x/\Y4 1 x.1 x.2.1 x.2.2=0/\inI x.2.2:=by unfold ug at h;split at h;rename_i e k t v;obtain⟨h1,h⟩:=W7 h;obtain⟨h2,h⟩:=W7 h;obtain⟨h3,h4⟩:=W7 h;have h1:=j6 h1;subst h1;exact⟨(k,t,v),rfl,j6 h2,j6 h3,j6 h4⟩;cases h
def de8: ∀l:U0,l.all ug=true-> ∃evs:List dw,l=evs.map cP/\gZ evs/\EG evs
 | [],_=>⟨[],rfl,λ_ h=>(by cases h),λ_ h=>(by cases h)⟩
 |r::l,h=>by
  obtain⟨h1,h2⟩:=W7 h;obtain⟨x,rfl,a,b⟩:=dC1 h1;obtain⟨evs,rfl,c,d⟩:=de8 l h2;refine⟨x::evs,rfl,λy hy=> ?_,λy hy=> ?_⟩
  rcases n8.1 hy with rfl|hy
  exact⟨(wF a rfl).2,b⟩;exact c y hy
  rcases n8.1 hy with rfl|hy
  exact a;exact d y hy
def dC2{X:Nat->U0->Val}(hX:XOk X){k s w g:Int}(hR:cY k s w g=true){ev:U0}(hn:ev.length<=24)(he:ev.all ug=true)(ho:eY k s w g ev=true):(eB k s w g ev ev.length).length<=400/\(X 431 [.A (eB k s w g ev ev.length)]).Z=true:=by obtain⟨evs,rfl,h1,h2⟩:=de8 ev he;rw[k6]at hn;have ht:=Rm hR h1 hn h2 ho;exact⟨(RX hR ht h1 hn).2.2.1,hX.x431 _ λr hr=>BM (ht.nrm r hr)⟩
def fe_x:XOk (FU F0):=ee2 oS
def dV8(v:Val)(h:(F0 431 [v]).Z=true): ∃l',F0 490 [v]= .A l'/\l'.Perm v.L/\ ∀r∈l',cO r=r:=by obtain⟨h1,h2⟩:=YD h;have hp:=S7.srt_perm false v.L;exact⟨S7.srt false v.L,rfl,hp,λr hr=>h2 r (hp.mem_iff.1 hr)⟩
def c_rRight{I:Opq}:W5 T_rRight I=some (0,[F 700 [I.w 0,I.w 1,I.w 2,I.w 3]]):=d35
def c_rev{I:Opq}:W5 T_rev I=some (0,[F 701 [I.w 0,I.w 1,I.w 2,I.w 3]]):=ea9
def c_r3of{I:Opq}:W5 T_r3of I=some (0,[ck (F 810 [I.w 0]).L 0 0,ck (F 810 [I.w 0]).L 0 1,ck (F 810 [I.w 0]).L 0 2,ck (F 810 [I.w 0]).L 0 3]):=dS2
def c_r3plus{I:Opq}:W5 T_r3plus I=some (0,[ck (F 811 [I.w 0,I.w 1,I.w 2,I.w 3,I.w 4,I.w 5,I.w 6,I.w 7]).L 0 0,ck (F 811 [I.w 0,I.w 1,I.w 2,I.w 3,I.w 4,I.w 5,I.w 6,I.w 7]).L 0 1,ck (F 811 [I.w 0,I.w 1,I.w 2,I.w 3,I.w 4,I.w 5,I.w 6,I.w 7]).L 0 2,ck (F 811 [I.w 0,I.w 1,I.w 2,I.w 3,I.w 4,I.w 5,I.w 6,I.w 7]).L 0 3]):=d36
section
variable{I:Opq}(hf: ∀i a,I.f i a=F i a)
include hf
def c_r3fit:W5 T_r3fit I=some (0,[F 812 [I.w 0,I.w 1,I.w 2,I.w 3],F 813 [I.w 0,I.w 1,I.w 2,I.w 3]]):=dv2 (λa=>hf 810 a)
def c_r3Sum(hn:(I.w 0).L.length<=100):W5 T_r3Sum I=some (0,[F 842 [I.w 0],F 843 [I.w 0]]):=dv3 (λa=>hf 810 a) (λa=>hf 811 a) (λa=>hf 812 a) (λa=>hf 813 a) (λa=>hf 850 a) hn
def c_rAll(hn:(I.w 0).L.length<=100):W5 T_rAll I=some (0,[ck (F 820 [I.w 0]).L 0 0,ck (F 820 [I.w 0]).L 0 1,ck (F 820 [I.w 0]).L 0 2,ck (F 820 [I.w 0]).L 0 3,F 843 [I.w 0]]):=dS3 (λa=>hf 842 a) (λa=>hf 843 a) (λa=>hf 851 a) hn
def c_rOf:W5 T_rOf I=some (0,[F 704 [I.w 0,I.w 1,I.w 2,I.w 3,I.w 4]]):=eb7 (λa=>hf 700 a) (λa=>hf 853 a)
def c_sOf(hn:(I.w 1).L.length<=100):W5 T_sOf I=some (0,[F 825 [I.w 0,I.w 1],F 824 [I.w 0,I.w 1]]):=ec7 (λa=>hf 854 a) (λa=>hf 855 a) (λa=>hf 856 a) (λa=>hf 857 a) (λa=>hf 858 a) (λa=>hf 859 a) (λa=>hf 860 a) hn
def c_rSpans(hn:(I.w 4).L.length<=100):W5 T_rSpans I=some (0,[F 826 [I.w 0,I.w 1,I.w 2,I.w 3,I.w 4,I.w 5]]):=d41 (λa=>hf 704 a) (λa=>hf 824 a) (λa=>hf 861 a) (λa=>hf 862 a) (λa=>hf 863 a) hn
def c_has(hn:(I.w 0).L.length<=1000000):W5 T_has I=some (0,[F 827 [I.w 0,I.w 1,I.w 2,I.w 3]]):=ea8 (λa=>hf 864 a) hn
def c_rFired(hn:(I.w 0).L.length<=400):W5 T_rFired I=some (0,[F 832 [I.w 0,I.w 1]]):=d34 (λa=>hf 868 a) hn
def c_rEvents(hn:(I.w 0).L.length<=100):W5 T_rEvents I=some (0,[F 830 [I.w 0]]):=cG5 (λa=>hf 870 a) hn
def c_rMark(hn:(I.w 0).L.length<=100):W5 T_rMark I=some (0,[F 831 [I.w 0]]):=dv1 (λa=>hf 871 a) hn
def c_rowsN(hn:(I.w 0).L.length<=400)(h:(F 431 [I.w 0]).Z=true):W5 Tk I=some (0,[I.w 0]):=
 let q:=YD h
 dB9 (λa=>hf 874 a) hn q.1 q.2
def c_fired(hn:(I.w 4).L.length<=400)(h431:(F 431 [I.w 4]).Z=true)(h491:(F 491 [I.w 4]).Z=true):W5 T_fired I=some (0,[F 726 [I.w 4,I.w 5]]):=
 dw1 (X:=F0) (λa=>hf 490 a) (λv h=>dV8 v (by rw[hf]at h;exact h)) (λa=>hf 763 a) (λa=>hf 764 a) hn (by grind) (by grind)
def c_rRows(h:(F 840 [I.w 0,I.w 1,I.w 2,I.w 3,I.w 4]).Z=true):W5 T_rRows I=some (0,[F 829 [I.w 0,I.w 1,I.w 2,I.w 3,I.w 4],F 828 [I.w 0,I.w 1,I.w 2,I.w 3,I.w 4]]):=by obtain⟨h1,h2⟩:=W7 (show(cY (I.w 0).I (I.w 1).I (I.w 2).I (I.w 3).I&&(decide ((I.w 4).L.length<=24)&&(I.w 4).L.all ug))=true from h);obtain⟨h2,h3⟩:=W7 h2;have h2:=j6 h2;exact dw0 (X:=F0) (λa=>hf 820 a) (λa=>hf 826 a) (λa=>hf 827 a) (λa=>hf 843 a) (λa=>hf 866 a) (λa=>hf 867 a) (λa=>hf 490 a) (λa=>hf 865 a) rfl rfl rfl rfl rfl h2 (λho=>by rw[hf];exact dC2 oS h1 h2 h3 ho)
