import Derived.Test.YtgeohopencabkaaGreatEP0
set_option linter.all false
namespace Go.Ev.S9
open Go Go.Ev
variable{l:U7}
def yW(l:U7):mB:=(List.range l.length).find? λi=>(sH l i).isSome
def el6(l:U7):Nat×U7:=match yW l with
 |some i=>(1,[.D (nQ l i ((sH l i).getD 0)).length,.B true,.D i,.A (nQ l i ((sH l i).getD 0))])
 |none=>(0,[.B false,.D l.length])
def el7(a:U7):Val:=cx (el6 (ce a 3).L)
def uT:Nat->U7->U7
 |0,l=>l
 |f+1,l=>match yW l with
  |some i=>uT f (nQ l i ((sH l i).getD 0))
  |none=>l
def Ba(l:U7):U7:=uT l.length l
def el8(a:U7):Val:=cx (0,[.D (Ba (ce a 2).L).length,.B false,.A (Ba (ce a 2).L)])
def cG7(l:U7){i j:Nat}(h:i<j): ∀n,(cw (tU l i j) n).length+((if i<n then 1 else 0)+(if j<n then 1 else 0))=n
 |0=>rfl
 |n+1=>by have ih:=cG7 l h n;show(cw (tU l i j) n++tU l i j n).length+_=_;unfold tU at ih⊢;grind
def dw7{i j:Nat}(h:i<j)(hj:j<l.length):(nQ l i j).length+1=l.length:=by have:=cG7 l h l.length;grind[nQ,List.length_append]
def d49{i:Nat}(h:yW l=some i): ∃j,sH l i=some j/\i<j/\j<l.length/\xX l i j=true:=by
 obtain⟨a,b,c⟩:=rS h;cases hj:sH l i with
 |none=>grind
 |some j=>
  obtain⟨a',b',c'⟩:=rS hj;grind
def c37(h:yW l=none){i j:Nat}(hij:i<j)(hj:j<l.length):xX l i j=false:=by
 have h1:=A8.1 h i (o7.2 (by omega));have h2:sH l i=none:=by simpa using h1
 have h3:=A8.1 h2 j (o7.2 hj);simpa[hij]using h3
variable{I:Opq}
def d4{x:Val}{j:Nat}:(I.U 4000 [x,.D j]).w 4000=x/\(I.U 4000 [x,.D j]).w 4001= .D j:=⟨by rfl,by rfl⟩
variable{M:U7}
def Cc(M:U7)(k:Nat):U7:=(M.set k (fX (cg M (k+1)))).set (k+1) (fX (cg M k))
def tg:Nat->U7->Nat×U7
 |0,M=>(0,M)
 |k+1,M=>if ci (cg M (k+1)) 0<ci (cg M k) 0 then tg k (Cc M k)else(k+1,M)
def el9(a:U7):Val:=cx (0,[.D (tg (ce a 0).I.toNat (ce a 1).L).1,.A (tg (ce a 0).I.toNat (ce a 1).L).2])
def mK(l:U7):Nat->U7
 |0=>[]
 |k+1=>(tg k (mK l k++[fX (cg l k)])).2
def em0(a:U7):Val:=cx (0,[.D (ce a 3).I.toNat,.D (ce a 3).I.toNat,.A (mK (ce a 4).L (ce a 3).I.toNat)])
def c39: ∀(k:Nat) (M:U7),(tg k M).2.length=M.length
 |0,M=>rfl
 |k+1,M=>by unfold tg;split;rw[c39 k];simp[Cc];rfl
def c40(l:U7): ∀k,(mK l k).length=k
 |0=>rfl
 |k+1=>by show(tg k _).2.length=_;rw[c39,k9,c40 l k];rfl
def cG8{k:Nat}(hk:k+1<M.length)(hM: ∀r∈M,fX r=r)(r:Val):r∈Cc M k↔r∈M:=by
 have a1:cg M k∈M:=lZ (by omega);have a2:cg M (k+1)∈M:=lZ hk;have e:Cc M k=(M.set k (cg M (k+1))).set (k+1) (cg M k):=by grind[Cc]
 rw[e];constructor;grind
 intro h;obtain⟨m,hm,rfl⟩:=B4 h;have ea: ∀n (h:n<M.length),cg M n=M[n]:=λn h=>by simp[cg,k5,h]
 by_cases c1:m=k;grind[List.mem_iff_getElem];by_cases c2:m=k+1;refine T7.2 ⟨k,by simp;omega,?_⟩;grind;refine T7.2 ⟨m,by simp;omega,?_⟩;grind
def c42: ∀(k:Nat) (M:U7),k<M.length->(∀r∈M,fX r=r)-> ∀r,r∈(tg k M).2↔r∈M
 |0,M,_,_,r=>Iff.rfl
 |k+1,M,hk,hM,r=>by unfold tg;split;rw[c42 k _ (by simp[Cc];omega) (λr hr=>hM r ((cG8 hk hM r).1 hr)) r,cG8 hk hM];rfl
def c43{l:U7}(hl: ∀r∈l,fX r=r): ∀k,k<=l.length-> ∀r,r∈mK l k↔r∈l.take k
 |0,_,r=>by simp[mK]
 |k+1,hk,r=>by
  have ih:=c43 hl k (by omega);have ha:=lZ (l:=l) (show k<l.length by omega);show r∈(tg k (mK l k++[fX (cg l k)])).2↔_;have hs: ∀r∈mK l k++[fX (cg l k)],fX r=r:=λr hr=>by
   rcases t8.1 hr with h|h
   exact hl r (R0 ((ih r).1 h));rw[m9.1 h,hl _ ha,hl _ ha]
  rw[c42 k _ (by rw[k9,c40];simp) hs,t8,m9,ih,hl _ ha,show l.take (k+1)=l.take k++[cg l k] by rw[O8,show l[k]?.toList=[cg l k] by simp[cg,k5,show k<l.length by omega]],t8,m9]
variable{I:Opq}
def d3{j:Nat}:(I.U 3000 [.D j,.A M]).w 3000= .D j/\(I.U 3000 [.D j,.A M]).w 3001= .A M:=⟨by rfl,by rfl⟩
def tD(g:Int)(l:U7):U7:=cw (Ep g l) l.length
def Me(g:Int)(l:U7):U7:=mK (Ba (tD g l)) (Ba (tD g l)).length
def Bo(g:Int)(l:U7):Bool:=decide (1<=g)&&(decide (g<=1048576)&&((List.range l.length).find? (Nh l)).isNone)
def em1(a:U7):Val:= .A (bif Bo (ce a 0).I (ce a 1).L then Me (ce a 0).I (ce a 1).L else [])
def em2(a:U7):Val:= .D (bif Bo (ce a 0).I (ce a 1).L then 0 else 2)
variable{I:Opq}
def Ol(k s l g:Int)(T:U7):U7:=if k=3 then cw (λi=>[fX (cg (bif Bo g T then Me g T else []) i)]) (bif Bo g T then Me g T else []).length else cw (λi=>dF k s l g (X1 (cg T i) 0)) T.length
def tr(k s l g:Int)(ev:U7)(key:zR):U7:=Ol k s l g (sj ev key)
def em3(a:U7):Val:=pA (sj (ce a 5).L (ce a 6).toS) (ce a 5).L.length
def em4(a:U7):Val:=pA (cw (λi=>[fX (cg (ce a 4).L i)]) (ce a 4).L.length) (ce a 4).L.length
def gOf(k s l g:Int)(T:U7):U7:=cw (λi=>dF k s l g (X1 (cg T i) 0)) T.length
def em5(a:U7):Val:=pA (gOf (ce a 3).I (ce a 4).I (ce a 5).I (ce a 6).I (ce a 8).L) (ce a 8).L.length
def ef2(a:U7):Val:= .A (tr (ce a 0).I (ce a 1).I (ce a 2).I (ce a 3).I (ce a 4).L (ce a 5).toS)
theorem and2{a b:Bool}(h:a=true)(h2:b=true):(a&&b)=true:=by grind
variable{I:Opq}
def XM(ev:U7)(key:zR)(s e:Int)(q:Nat):Bool:=decide ((X1 (cg ev q) 1).toS=key)&&(decide (s<=ci (cg ev q) 2)&&decide (ci (cg ev q) 2<e))
def sJ(ev:U7)(key:zR)(s e:Int):U7:=cw (λq=>bif XM ev key s e q then [.A [X1 (cg ev q) 3]]else []) ev.length
def ef3(a:U7):Val:=pA (sJ (ce a 5).L (ce a 16).toS (ce a 17).I (ce a 18).I) (ce a 5).L.length
def Ww(a:U7):Val:= .A [.A (aA (ce a 0).L)]
def ef5(a:U7):Val:= .B ((ce a 0).L.any λr=>decide (W7 r=⟨(ce a 1).toS,(ce a 2).I,(ce a 3).I⟩))
def we(ev:U7)(key r:Val):Val:= .A [key,X1 r 0,X1 r 1,(aA (sJ ev key.toS (ci r 0) (ci r 1))).getD 0 default,(aA (sJ ev key.toS (ci r 0) (ci r 1))).getD 1 default,(aA (sJ ev key.toS (ci r 0) (ci r 1))).getD 2 default,(aA (sJ ev key.toS (ci r 0) (ci r 1))).getD 3 default]
def uk(M:U7)(key r:Val):Bool:=M.any λx=>decide (W7 x=⟨key.toS,ci r 0,ci r 1⟩)
def Gp(ev:U7)(key:Val)(M:U7)(r:Val):U7:=bif uk M key r then []else [we ev key r]
def iK(ev:U7)(key:Val)(R M0:U7):Nat->U7
 |0=>M0
 |j+1=>iK ev key R M0 j++Gp ev key (iK ev key R M0 j) (cg R j)
def HO(ev:U7)(key:Val)(R M0:U7)(j:Nat):Bool:= !uk (iK ev key R M0 j) key (cg R j)&& !decide (sE (sJ ev key.toS (ci (cg R j) 0) (ci (cg R j) 1))=0)
def em6(ev:U7)(key:Val)(R M0:U7):Nat×U7:=match(List.range R.length).find? (HO ev key R M0)with
 |some j=>(1,[.B false,.D (iK ev key R M0 j).length,.D j,.A (iK ev key R M0 j)])
 |none=>(0,[.B false,.D (iK ev key R M0 R.length).length,.D R.length,.A (iK ev key R M0 R.length)])
def Xv(a:U7):Val:=cx (em6 (ce a 6).L (X1 (cg (ce a 6).L (ce a 11).I.toNat) 1) (ce a 13).L (ce a 3).L)
variable{I:Opq}
variable{R M:U7}
variable{I:Opq}
def d51{x n:SX}(hx:bZ I x= .A M)(hn:bZ I n= .D M.length):bZ I (.O .lsub [x,aM,n])= .A M:=by show Val.A (((bZ I x).L.drop (0:Int).toNat).take ((bZ I n).I-0).toNat)=_;simp_all
variable{ev:U7}
def lR(ev:U7)(i:Nat):Val:=X1 (cg ev i) 1
def fF(k s l g:Int)(ev:U7)(i:Nat):U7:=tr k s l g ev (lR ev i).toS
def jW(k s l g:Int)(ev:U7):Nat->U7
 |0=>[]
 |i+1=>iK ev (lR ev i) (fF k s l g ev i) (jW k s l g ev i) (fF k s l g ev i).length
def Hu(k s l g:Int)(ev:U7)(i:Nat):mB:=(List.range (fF k s l g ev i).length).find? (HO ev (lR ev i) (fF k s l g ev i) (jW k s l g ev i))
def roX(k s l g:Int)(ev:U7)(i:Nat):U7:=iK ev (lR ev i) (fF k s l g ev i) (jW k s l g ev i) ((Hu k s l g ev i).getD 0)
def em7(k s l g:Int)(ev:U7):Nat×U7:=match(List.range ev.length).find? (λi=>(Hu k s l g ev i).isSome)with
 |some i=>(1,[.B false,.D (roX k s l g ev i).length,.D i,.A (roX k s l g ev i)])
 |none=>(0,[.B false,.D (jW k s l g ev ev.length).length,.D ev.length,.A (jW k s l g ev ev.length)])
def em8(a:U7):Val:=cx (em7 (ce a 7).I (ce a 8).I (ce a 9).I (ce a 10).I (ce a 6).L)
def lI(k s l g:Int)(ev:U7):Bool:=((List.range ev.length).find? (λi=>(Hu k s l g ev i).isSome)).isNone
def UK(a:U7):Val:= .B (lI (ce a 0).I (ce a 1).I (ce a 2).I (ce a 3).I (ce a 4).L)
def kU(X:Nat->U7->Val)(a:U7):Val:=if lI (ce a 0).I (ce a 1).I (ce a 2).I (ce a 3).I (ce a 4).L=true then X 490 [.A (jW (ce a 0).I (ce a 1).I (ce a 2).I (ce a 3).I (ce a 4).L (ce a 4).L.length)]else .A []
variable{I:Opq}
section
variable(f820: ∀a,I.f 820 a=Ww a)(f826: ∀a,I.f 826 a=ef2 a)(f827: ∀a,I.f 827 a=ef5 a)(f843: ∀a,I.f 843 a= .D (sE (ce a 0).L))(f866: ∀a,I.f 866 a=Xv a)(f867: ∀a,I.f 867 a=ef3 a)
include f820 f826 f827 f843 f866 f867
end
def ub(L:U7)(mark:Int)(i:Nat):Bool:=decide (mark<ci (cg L i) 2)
def BS(L:U7)(mark:Int):Nat×U7:=il (.D 0) (λk=>[.D k,.D k]) (ub L mark) L.length
def ef7(a:U7):Val:=cx (BS (ce a 3).L (ce a 4).I)
def eP(L:U7)(mark:Int)(k:Nat):Nat->Nat×U7
 |0=>(k,L)
 |j+1=>if ci (cg (eP L mark k j).2 (k+1+j)) 2<=mark then((eP L mark k j).1+1,(eP L mark k j).2.set (eP L mark k j).1 (X8 (cg (eP L mark k j).2 (k+1+j))))else eP L mark k j
def AX(L:U7)(mark:Int)(k:Nat):Nat×U7:=(0,[.D (eP L mark k (L.length-(k+1))).1,.D L.length,.A (eP L mark k (L.length-(k+1))).2])
def Yg(a:U7):Val:=cx (AX (ce a 2).L (ce a 5).I (ce a 0).I.toNat)
def fy(mark:Int)(r:Val):Bool:=decide (ci r 2<=mark)
def dy(X:Nat->U7->Val)(a:U7):Val:= .A ((X 490 [ce a 0]).L.filter (fy (ce a 1).I))
theorem mb{l:U7}{i:Nat}(h:i<l.length):cg l i=l[i]:=by simp[cg,k5,h]
def Mx{l:U7}{i:Nat}(h:i<l.length):l.take (i+1)=l.take i++[cg l i]:=by rw[O8,show l[i]?.toList=[cg l i] by simp[cg,k5,h]]
def Rp{L:U7}{mark:Int}{k:Nat}(hL: ∀r∈L,X8 r=r)(hk:(L.take k).filter (fy mark)=L.take k)(hkn:k<L.length)(hkp:fy mark (cg L k)=false): ∀j,k+1+j<=L.length->
 (eP L mark k j).1<=k+j/\k<=(eP L mark k j).1/\(eP L mark k j).2.length=L.length/\(∀q,k+1+j<=q->cg (eP L mark k j).2 q=cg L q)/\(eP L mark k j).2.take (eP L mark k j).1=(L.take (k+1+j)).filter (fy mark)
 |0,_=>by refine⟨j6 _,j6 _,rfl,λ_ _=>rfl,?_⟩;show L.take k=(L.take (k+1)).filter (fy mark);rw[Mx hkn,C4,hk,P6 (by rw[hkp];simp)];simp
 |j+1,hj=>by
  obtain⟨h1,h2,h3,h4,h5⟩:=Rp hL hk hkn hkp j (by omega);have ha:=h4 (k+1+j) (j6 _);have hs:(L.take (k+1+(j+1))).filter (fy mark)=(L.take (k+1+j)).filter (fy mark)++(if fy mark (cg L (k+1+j))then [cg L (k+1+j)]else []):=by
   rw[show k+1+(j+1)=(k+1+j)+1 by omega,Mx (by omega),C4];cases hc:fy mark (cg L (k+1+j))with
   |true=>rw[T8 hc];rfl
   |false=>rw[P6 (by rw[hc];simp)];rfl
  unfold eP;rw[ha,hs,<-h5];by_cases c:ci (cg L (k+1+j)) 2<=mark
  rw[i6 c,i6 (show fy mark (cg L (k+1+j))=true from j0 c),hL _ (lZ (by omega))];generalize eP L mark k j=p at*
  obtain⟨w,M⟩:=p;refine⟨by omega,by omega,by simpa using h3,λq hq=> ?_,?_⟩;have:=h4 q (by omega);rw[<-this];show(M.set w (cg L (k+1+j))).getD q (.A [])=M.getD q (.A []);rw[k5,k5,List.getElem?_set_ne (by omega)];have hM:M.length=L.length:=h3;rw[Mx (by rw[C6,hM];omega),List.take_set_of_le (j6 _)];rw[mb (by rw[C6,hM];omega),List.getElem_set_self];rw[if_neg c,if_neg (show¬fy mark (cg L (k+1+j))=true from by unfold fy;rw[decide_eq_false c];simp),List.append_nil];exact⟨by omega,h2,h3,λq hq=>h4 q (by omega),rfl⟩
variable{I:Opq}
section
variable{L:U7}{mark:Int}(D0: ∀vs,bZ (I.U 2000 vs) (.Q 490 [aS])= .A L)(hm:(I.w 5).I=mark)
include D0 hm
def e89(hn:L.length<=400):Y9 (λvs=>W6 UG (I.U 2000 vs)) [.D 0,.D 0]=some (BS L mark):=by
 have run: ∀(x:Val) (i:Nat),W6 UG (I.U 2000 [x,.D i])=if i<L.length then(if ub L mark i then some (2,[.D i,.D i])else some (0,[x,.D (i+1:Nat)]))else some (1,[x,.D i]):=λx i=>by
  have v0:(I.U 2000 [x,.D i]).w 2000=x:=by rw[cT];simp
  have v1:(I.U 2000 [x,.D i]).w 2001= .D i:=by rw[cT];simp
  have w5:((I.U 2000 [x,.D i]).w 5).I=mark:=by rw[kl _ _ _ (by omega),hm]
  have D0:=D0 [x,.D i];generalize I.U 2000 [x,.D i]=aa at*
  have l0:(bZ aa iG).I=(L.length:Int):=by show((bZ aa (.Q 490 [aS])).L.length:Int)=_;rw[D0];rfl
  by_cases c:i<L.length
  rw[i6 c];refine Y4 (by rw[gE,ft,v1,l0];exact j0 (by show(i:Int)<(L.length:Int);omega)) (X2 (by rw[cZ,cM,ft,v1];exact j0 (by show(0:Int)<=(i:Int);omega)) ?_);have hq:dB aa (dO (cr (.Q 490 [aS]) aR 2) bd)=ub L mark i:=by show decide ((aa.w 5).I<(Y3 (bZ aa (.Q 490 [aS])).L (aa.w 2001).I 2).I)=_;rw[D0,v1,w5];rfl
  cases hl:ub L mark i with
  |true=>
   rw[i6 rfl];refine Y4 (hq.trans hl) ?_;show some (2,[aa.w 2001,aa.w 2001])=_;rw[v1]
  |false=>
   rw[b9 (by simp)];refine Y0 (hq.trans hl) ?_;show some (0,[aa.w 2000,Val.D (cq .add .i64 (aa.w 2001).I 1)])=_;rw[v0,v1,Y1,iZ (n:=1000000) (by omega) (by omega)]
  .rw[b9 c];refine Y0 (by rw[gE,ft,v1,l0];exact j9 (by show¬(i:Int)<(L.length:Int);omega)) ?_;show some (1,[aa.w 2000,aa.w 2001])=_;rw[v0,v1]
 refine HX (λi hi hb=> ?_) (λi hi hb=> ?_) ?_;rw[run,i6 hi,b9 (by rw[hb];simp)];rw[run,i6 hi,i6 hb];grind
def e90(hL: ∀r∈L,X8 r=r){k:Nat}(hk:(L.take k).filter (fy mark)=L.take k)(hkn:k<L.length)(hkp:fy mark (cg L k)=false)(hn:L.length<=400):
 Y9 (λvs=>W6 Uo (I.U 2000 vs)) [.D k,.D (k+1:Nat),.A L]=some (AX L mark k):=by
 refine kr (st:=λj=>[.D (eP L mark k j).1,.D (k+1+j:Nat),.A (eP L mark k j).2]) (n:=L.length-(k+1)) (λj hj=> ?_) ?_
 obtain⟨h1,h2,h3,h4,h5⟩:=Rp hL hk hkn hkp j (by omega);show W6 Uo (I.U 2000 [.D (eP L mark k j).1,.D (k+1+j:Nat),.A (eP L mark k j).2])=some (0,[.D (eP L mark k (j+1)).1,.D (k+1+j+1:Nat),.A (eP L mark k (j+1)).2]);rw[show eP L mark k (j+1)=if ci (cg (eP L mark k j).2 (k+1+j)) 2<=mark then((eP L mark k j).1+1,(eP L mark k j).2.set (eP L mark k j).1 (X8 (cg (eP L mark k j).2 (k+1+j))))else eP L mark k j from rfl];generalize eP L mark k j=p at*
 obtain⟨wr,M⟩:=p;replace h3:M.length=L.length:=h3;have v0:=Ye I 2000 (.D wr) (.D (k+1+j:Nat)) (.A M);have v1:(I.U 2000 [.D wr,.D (k+1+j:Nat),.A M]).w 2001=_:=Zi I 2000 (.D wr) (.D (k+1+j:Nat)) (.A M);have v2:(I.U 2000 [.D wr,.D (k+1+j:Nat),.A M]).w 2002=_:=up2 I 2000 (.D wr) (.D (k+1+j:Nat)) (.A M);have w5:((I.U 2000 [.D wr,.D (k+1+j:Nat),.A M]).w 5).I=mark:=by grind[kl]
 have D0:=D0 [.D wr,.D (k+1+j:Nat),.A M];generalize I.U 2000 [.D wr,.D (k+1+j:Nat),.A M]=aa at*
 generalize hr:k+1+j=r at*
 have l0:(bZ aa iG).I=(L.length:Int):=by show((bZ aa (.Q 490 [aS])).L.length:Int)=_;rw[D0];rfl
 have gx: ∀c:Nat,bZ aa (.O .G [aW,aR,.C c])=X1 (cg M r) c:=λc=>by show Y3 (aa.w 2002).L (aa.w 2001).I (c:Int)=_;rw[v1,v2];rfl
 have hq:dB aa (dO (zg 2002 2001 2) bd)=decide (mark<ci (cg M r) 2):=by show decide ((aa.w 5).I<(bZ aa (.O .G [aW,aR,.C (2:Nat)])).I)=_;rw[gx,w5];rfl
 have inc:cq .add .i64 (r:Int) 1=((r+1:Nat):Int):=iZ (n:=1000000) (by omega) (by omega);have incw:cq .add .i64 (wr:Int) 1=((wr+1:Nat):Int):=iZ (n:=1000000) (by omega) (by omega);refine Y4 (by rw[gE,ft,v1,l0];exact j0 (by show(r:Int)<(L.length:Int);omega)) (X2 (by rw[cZ,cM,ft,v1];rfl) (X2 (by rw[gE,ft,v1,ej,dV,v2];exact j0 (by show(r:Int)<(M.length:Int);omega)) ?_));by_cases c:ci (cg M r) 2<=mark;rw[i6 c];refine Y4 (by grind[pM,decide_eq_false]) (X2 ?_ (X2 ?_ ?_));rw[dQ,cZ,gE,cM,ft,show aa.w 2000=_ from v0,l0];exact and2 (j0 (by show(0:Int)<=(wr:Int);omega)) (j0 (by show(wr:Int)<(L.length:Int);omega));rw[gE,ft,show aa.w 2000=_ from v0,ej,dV,v2];exact j0 (by show(wr:Int)<(M.length:Int);omega);show some (0,[Val.D (cq .add .i64 (aa.w 2000).I 1),Val.D (cq .add .i64 (aa.w 2001).I 1),Val.A ((aa.w 2002).L.set (aa.w 2000).I.toNat (.A [bZ aa (.O .G [aW,aR,.C (0:Nat)]),bZ aa (.O .G [aW,aR,.C (1:Nat)]),bZ aa (.O .G [aW,aR,.C (2:Nat)]),bZ aa (.O .G [aW,aR,.C (3:Nat)]),bZ aa (.O .G [aW,aR,.C (4:Nat)]),bZ aa (.O .G [aW,aR,.C (5:Nat)]),bZ aa (.O .G [aW,aR,.C (6:Nat)])]))])=_;rw[gx,gx,gx,gx,gx,gx,gx,show aa.w 2000=_ from v0,v1,v2,Y1,Y1,inc,incw];rfl;refine Y0 (by rw[pM,hq,j0 (by omega)];rfl) ?_;show some (0,[aa.w 2000,Val.D (cq .add .i64 (aa.w 2001).I 1),aa.w 2002])=_;grind[Y1]
 rw[show k+1+(L.length-(k+1))=L.length by omega];generalize eP L mark k (L.length-(k+1))=p;have D0:=D0 [.D p.1,.D L.length,.A p.2];have v0:(I.U 2000 [.D p.1,.D L.length,.A p.2]).w 2000=_:=Ye ..;have v1:(I.U 2000 [.D p.1,.D L.length,.A p.2]).w 2001=_:=Zi ..;have v2:(I.U 2000 [.D p.1,.D L.length,.A p.2]).w 2002=_:=up2 ..;generalize I.U 2000 [.D p.1,.D L.length,.A p.2]=aa at*
 have l0:(bZ aa iG).I=(L.length:Int):=by show((bZ aa (.Q 490 [aS])).L.length:Int)=_;rw[D0];rfl
 refine Y0 (by rw[gE,ft,v1,l0];exact j9 (by show¬(L.length:Int)<(L.length:Int);omega)) ?_;show some (1,[aa.w 2000,aa.w 2001,aa.w 2002])=_;grind
end
variable{I:Opq}
def dw8{X:Nat->U7->Val}(f490: ∀a,I.f 490 a=X 490 a)(h490: ∀v,(I.f 431 [v]).Z=true-> ∃l',X 490 [v]= .A l'/\l'.Perm v.L/\ ∀r∈l',X8 r=r)
 (f763: ∀a,I.f 763 a=ef7 a) (f764: ∀a,I.f 764 a=Yg a) (hn:(I.w 4).L.length<=400) (h431:(I.f 431 [I.w 4]).Z=true) (h491:(I.f 491 [I.w 4]).Z=true):
 W6 T_fired I=some (0,[dy X [I.w 4,I.w 5]]):=by
 obtain⟨L,hL,hp,hL7⟩:=h490 _ h431;have hLn:L.length<=400:=by rw[hp.length_eq];exact hn
 generalize hm:(I.w 5).I=mark;have hv:dy X [I.w 4,I.w 5]= .A (L.filter (fy mark)):=by show Val.A ((X 490 [I.w 4]).L.filter (fy (I.w 5).I))=_;rw[hL,hm];rfl
 rw[hv];have dL:bZ I (.Q 490 [aS])= .A L:=by show I.f 490 [I.w 4]=_;rw[f490,hL]
 have D0: ∀vs,bZ (I.U 2000 vs) (.Q 490 [aS])= .A L:=λvs=>by exact dL
 have l0:bZ I iG= .D L.length:=by show Val.D ((bZ I (.Q 490 [aS])).L.length:Int)=_;rw[dL];rfl
 have e1:I.f 763 [.D 0,.D 0,bZ I iG,bZ I (.Q 490 [aS]),I.w 5,bZ I iG]=cx (BS L mark):=by rw[f763,dL];show cx (BS L (I.w 5).I)=_;rw[hm]
 refine X2 ?_ (X7 (r:=BS L mark) (e89 D0 hm hLn) e1 ?_);rw[dQ,dQ,cZ,ej,dV,cM];exact and2 (and2 (j0 (by omega)) h431) h491
 unfold BS at*
 cases hf:(List.range L.length).find? (ub L mark)with
 |none=>
  have hno:L.filter (fy mark)=L:=by
   refine P7.2 λr hr=> ?_
   obtain⟨i,hi,rfl⟩:=B4 hr;have h1:=A8.1 hf i (o7.2 hi);unfold ub at h1;rw[mb hi]at h1;exact j0 (by simpa using h1)
  have hs:il (.D 0) (λk=>[.D k,.D k]) (ub L mark) L.length=(0,[.D 0,.D L.length]):=by unfold il;rw[hf]
  rw[hs];show some (0,[bZ I (.Q 490 [aS])])=_;rw[dL,hno]
 |some k=>
  obtain⟨hk,hb,hc⟩:=rS hf;have hs:il (.D 0) (λk=>[.D k,.D k]) (ub L mark) L.length=(1,[.D k,.D k]):=by unfold il;rw[hf]
  rw[hs]at e1⊢;have q1:bZ I vJ= .D k:=by show Y3 (I.f 763 [.D 0,.D 0,bZ I iG,bZ I (.Q 490 [aS]),I.w 5,bZ I iG]).L 1 0=_;rw[e1];rfl
  have q2:bZ I ED= .D (k+1:Nat):=by show Val.D (cq .add .i64 (bZ I vJ).I 1)=_;rw[q1,Y1,iZ (n:=1000000) (by omega) (by omega)]
  have hk1:(L.take k).filter (fy mark)=L.take k:=by
   refine P7.2 λr hr=> ?_
   obtain⟨i,hi,rfl⟩:=B4 hr;rw[n8]at hi;have h1:=hc i (by omega);unfold ub at h1;rw[mb (by omega)]at h1;rw[List.getElem_take];exact j0 (by have:=of_decide_eq_false h1;omega)
  have hk2:fy mark (cg L k)=false:=by have:=j7 hb;exact j9 (by omega)
  obtain⟨i1,i2,i3,i4,i5⟩:=Rp hL7 hk1 hk hk2 (L.length-(k+1)) (by omega);rw[show k+1+(L.length-(k+1))=L.length by omega,B1]at i5;have e3:bZ I HD=cx (AX L mark k):=by show I.f 764 [bZ I vJ,bZ I ED,bZ I (.Q 490 [aS]),bZ I iG,bZ I (.Q 490 [aS]),I.w 5]=_;rw[f764,dL,q1];show cx (AX L (I.w 5).I k)=_;rw[hm]
  unfold AX at e3;have hlp:=e90 D0 hm hL7 hk1 hk hk2 hLn;unfold AX at hlp;generalize eP L mark k (L.length-(k+1))=p at*
  obtain⟨wr,M⟩:=p;replace i3:M.length=L.length:=i3;have q4:bZ I nw= .D wr:=by show Y3 (bZ I HD).L 1 0=_;rw[e3];rfl
  have q8:bZ I ws= .A M:=by show Y3 (bZ I HD).L 1 2=_;rw[e3];rfl
  have q5:dB I NZ=true:=by show decide ((0:Int)<=(bZ I nw).I)=true;rw[q4];exact j0 (by show(0:Int)<=(wr:Int);omega)
  have q6:bZ I wY= .D ((L.length:Int)-wr):=by show Val.D ((bZ I iG).I-(bZ I nw).I)=_;rw[l0,q4];rfl
  have q7:bZ I Jd= .D L.length:=by show Val.D ((bZ I nw).I+(bZ I wY).I)=_;rw[q4,q6];show Val.D ((wr:Int)+((L.length:Int)-wr))=_;congr 1;omega
  have q9: ∃Z,bZ I Ir= .A (M.take wr++Z):=by refine⟨(bZ I (zc (.O .lrep [wY,.O .row [.cs [],aM,aM,aM,aM,aM,aM]]) (.O .lsub [ws,Jd,zL ws]))).L,?_⟩;show Val.A (((bZ I ws).L.drop (0:Int).toNat).take ((bZ I nw).I-0).toNat++_)=_;rw[q8,q4];exact congrArg Val.A (congrArg (· ++_) (by simp))
  obtain⟨Z,q9⟩:=q9;have hwl:(M.take wr).length=wr:=by rw[n8];omega
  refine Y0 (by rw[mV,q1,cM];exact j9 (by show¬(k:Int)= -1;omega)) (X7 (r:=(0,[.D wr,.D L.length,.A M])) ?_ e3 (X2 ?_ (X2 ?_ (X2 ?_ ?_))));show Y9 _ [bZ I vJ,bZ I ED,bZ I (.Q 490 [aS])]=_;rw[q1,q2,dL];exact hlp;rw[dQ,q5,cZ,q4,l0];exact and2 rfl (j0 (by show(wr:Int)<=(L.length:Int);omega));rw[dQ,dQ,dQ,q5,cZ,cZ,cZ,q6,q7,ej,q8,cM,cM];exact and2 (and2 rfl (j0 (by show(0:Int)<=(L.length:Int)-wr;omega))) (and2 (j0 (by show(L.length:Int)-wr<=1000000;omega)) (j0 (by show(L.length:Int)<=(M.length:Int);omega)));rw[cZ,q4,ej,q9];exact j0 (by show(wr:Int)<=((M.take wr++Z).length:Int);rw[k9];omega);show some (0,[Val.A (((bZ I Ir).L.drop (0:Int).toNat).take ((bZ I nw).I-0).toNat)])=_;rw[q9,q4];show some (0,[Val.A (((M.take wr++Z).drop 0).take ((wr:Int)-0).toNat)])=_;rw[show((wr:Int)-0).toNat=wr by omega,K8,T9 (by omega),K6 (by omega),i5]
variable{l:U7}{X:Nat->U7->Val}
def nA(l:U7)(i:Nat):Int:=X5 (ci (cg l i) 0) (X1 (cg l i) 1).toS (ci (cg l i) 2) (ci (cg l i) 3)
def ET(l:U7)(i:Nat):U7:=tw (l.take i)
def rE(k s w g:Int)(l:U7)(i:Nat):Int:=if nA l i≠0 then nA l i else if lI k s w g (ET l (i+1))=true then 0 else 30
def rF(k s w g:Int)(l:U7):mB:=(List.range l.length).find? λi=>decide (rE k s w g l i≠0)
def em9(k s w g:Int)(l:U7):Nat×U7:=match rF k s w g l with
 |some i=>(1,[.D (rE k s w g l i),.D i])
 |none=>(0,[.D 0,.D l.length])
def en1(a:U7):Val:= .D (X5 (ce a 0).I (ce a 1).toS (ce a 2).I (ce a 3).I)
def uY(a:U7):Val:= .A (tw (ce a 0).L)
def sM(a:U7):Val:=iz (ce a 0).L (ce a 0).L.length
def qD(a:U7):Val:= .A (Ht (ce a 0).L (ce a 1).I)
def en2(a:U7):Val:=cx (em9 (ce a 5).I (ce a 6).I (ce a 7).I (ce a 8).I (ce a 4).L)
def rTe(k s w g:Int)(l:U7):Int:=if X9 k s w g=true then(match rF k s w g l with|some i=>rE k s w g l i|none=>0)else 2
def rTr(X:Nat->U7->Val)(k s w g:Int)(l:U7):Val:=if X9 k s w g=true then(match rF k s w g l with|some _=> .A []|none=>qD [kU X [.D k,.D s,.D w,.D g,.A (tw l)],sM [.A l]])else .A []
def en3(a:U7):Val:= .D (rTe (ce a 0).I (ce a 1).I (ce a 2).I (ce a 3).I (ce a 4).L)
def en4(X:Nat->U7->Val)(a:U7):Val:=rTr X (ce a 0).I (ce a 1).I (ce a 2).I (ce a 3).I (ce a 4).L
variable{I:Opq}
section
variable(f700: ∀a,I.f 700 a= .B (X9 (ce a 0).I (ce a 1).I (ce a 2).I (ce a 3).I))(f701: ∀a,I.f 701 a=en1 a)(f829: ∀a,I.f 829 a=UK a)(f830: ∀a,I.f 830 a=uY a)
include f701 f829 f830
