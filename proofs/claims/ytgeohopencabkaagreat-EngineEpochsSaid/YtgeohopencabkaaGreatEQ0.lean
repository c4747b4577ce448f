import Derived.Test.YtgeohopencabkaaGreatEP21
set_option linter.all false
noncomputable section
namespace Go.Ev.S9
open Go Go.Ev
def Je(L L':U7):U7:=L.filter λr=> !L'.any λy=>decide (W7 y=W7 r)
def uK(L L':U7):U7:=L'.filter λr=> !L.any λy=>decide (gH y=gH r)
def eo1(was:U7)(y:Val):Bool:=was.any λr=>decide (gH r=gH y)
def rtX(a:U7):Val:= .A [ce a 5,ce a 6,ce a 7,ce a 8]
def xN(a:U7):Int:=if X5 (ce a 5).I (ce a 6).toS (ce a 7).I (ce a 8).I≠0 then X5 (ce a 5).I (ce a 6).toS (ce a 7).I (ce a 8).I else if(ce a 5).I≠1 then 2 else if lI (ce a 0).I (ce a 1).I (ce a 2).I (ce a 3).I ((ce a 4).L++[rtX a])=true then 0 else 30
def Hw(X:Nat->U7->Val)(a:U7):U7:=(kU X [ce a 0,ce a 1,ce a 2,ce a 3,ce a 4]).L
def Gt(X:Nat->U7->Val)(a:U7):U7:=(kU X [ce a 0,ce a 1,ce a 2,ce a 3,.A ((ce a 4).L++[rtX a])]).L
def eo2(a:U7):Val:= .D (xN a)
def Uw(X:Nat->U7->Val)(a:U7):Val:= .A (if xN a=0 then(Je (Hw X a) (Gt X a)).map eR else [])
def PU(X:Nat->U7->Val)(a:U7):Val:= .A (if xN a=0 then(uK (Hw X a) (Gt X a)).map X8 else [])
def eo3(a:U7):Val:=pA ((Je (ce a 4).L (ce a 6).L).map eR) (ce a 4).L.length
def eo4(a:U7):Val:=pA ((uK (ce a 4).L (ce a 6).L).map X8) (ce a 6).L.length
def eo5(a:U7):Val:=cx (0,[.B (eo1 (ce a 3).L (cg (ce a 5).L (ce a 10).I.toNat)),.D (ce a 3).L.length])
def eo6(a:U7):Val:=pA (cw (λi=>[X8 (cg (ce a 5).L i)]) (ce a 5).L.length) (ce a 5).L.length
def eo7(a:U7):Val:= .B (decide ((ce a 0).L.map W7=(ce a 1).L.map W7))
def pnB(a b:U7)(i:Nat):Bool:= !decide (W7 (cg a i)=W7 (cg b i))
def eo8(a:U7):Val:=cx (il (.B false) (λk=>[.B false,.D k]) (pnB (ce a 4).L (ce a 7).L) (ce a 4).L.length)
def eo9:Val:= .A [.vs [],.D 0,.D 0,.D 0,.D 0,.D 0,.D 0]
def VA(L:U7):Nat->U7
 |0=>L
 |i+1=>(VA L i).set i eo9
def ep0(a:U7):Val:=cx (0,[ce a 0,.D (ce a 2).L.length,.A (VA (ce a 2).L (ce a 2).L.length)])
def ep1(a:U7):Val:=cx (0,[.D (ce a 1).L.length,.A (VA (ce a 1).L (ce a 1).L.length)])
structure TBL (k s w g:Int) (evs:List cU) (m:U7):Prop where
 R:X9 k s w g=true
 T:TOK (dU k s w g) evs m
 tm:ga evs
 V:BG evs
 ln:evs.length<=24
def ep2(a:U7):Prop:= ∃k s w g evs m,ce a 5= .D k/\ce a 6= .D s/\ce a 7= .D w/\ce a 8= .D g/\ce a 4= .A m/\ce a 9= .A (evs.map cK)/\TBL k s w g evs m
def ep3(a:U7):Prop:= ∃k s w g evs m ek ks t v,ce a 0= .D k/\ce a 1= .D s/\ce a 2= .D w/\ce a 3= .D g/\ce a 4= .A (evs.map cK)/\ce a 5= .D ek/\ce a 6= .vs ks/\ce a 7= .D t/\ce a 8= .D v/\inI v/\TBL k s w g evs m/\evs.length<24
def bP(p:Prop):Bool:= @decide p (Classical.propDecidable p)
def bP_iff{p:Prop}:bP p=true↔p:= @decide_eq_true_iff p (Classical.propDecidable p)
def ep4(a:U7):Val:= .B (bP (ep3 a))
def ep5(a:U7):Val:= .B (bP (ep2 a))
def ep6(a:U7):Val:= .B (iu (ce a 0)&&(iu (ce a 1)&&(iu (ce a 2)&&(iu (ce a 3)&&CB (ce a 4)))))
def pS(X:Nat->U7->Val)(a b c d:Val)(ops:U7):Nat->Int×Val×U7
 |0=>(0,.A [],[])
 |i+1=>(if(pS X a b c d ops i).1=0 then dp (oP a b c d (pS X a b c d ops i).2.1 (cg ops i))else(pS X a b c d ops i).1,dR X (oP a b c d (pS X a b c d ops i).2.1 (cg ops i)),if dp (oP a b c d (pS X a b c d ops i).2.1 (cg ops i))≠0 then(pS X a b c d ops i).2.2 else(pS X a b c d ops i).2.2++[yQ (cg ops i)])
def puV(X:Nat->U7->Val)(a b c d:Val)(ops:U7)(i:Nat):U7:=[.B false,.D (pS X a b c d ops i).2.2.length,.D (pS X a b c d ops i).1,.D i,(pS X a b c d ops i).2.1,.A (pS X a b c d ops i).2.2]
def ep7(X:Nat->U7->Val)(a:U7):Val:=cx (0,puV X (ce a 10) (ce a 11) (ce a 12) (ce a 13) (ce a 8).L (ce a 8).L.length)
def ep8(L:U7)(p:PaneM):Bool:=L.any λr=>decide (W7 r=p)
def ep9(X:Nat->U7->Val)(a:U7):Val:=cx (0,[.B (ep8 (X 490 [ce a 17]).L ⟨(ce a 10).toS,(ce a 11).I,(ce a 12).I⟩),.D (X 490 [ce a 17]).L.length])
def eq0(X:Nat->U7->Val)(a:U7):Val:=if(ce a 1).I=2 then(if(ce a 5).L.length=0 then cx (0,[.D 0,.D 2,.D 0])else cx (1,[.D 2,.D 2,.D 0]))else cx (ofR X (ce a 4) (ce a 5) (ce a 6) (ce a 7) (ce a 11).L)
def FQ(X:Nat->U7->Val):Nat->U7->Val:=λi a=>match i with
 |771=>eq0 X a
 |900=>eo7 a
 |903=>Uw X a
 |904=>PU X a
 |905=>eo2 a
 |906=>ep4 a
 |907=>ep5 a
 |908=>ep6 a
 |920=>eo3 a
 |921=>eo4 a
 |922=>eo5 a
 |923=>eo6 a
 |924=>eo8 a
 |925=>ep0 a
 |926=>ep1 a
 |927=>ep7 X a
 |928=>ep9 X a
 |_=>FE X i a
abbrev eh:=Int×zR×Int×Int
def cJ(o:eh):Val:= .A [.D o.1,.vs o.2.1,.D o.2.2.1,.D o.2.2.2]
def jc(tk:List eh):List cU:=tk.filterMap λo=>if o.1=1 then some (o.2.1,o.2.2.1,o.2.2.2)else none
def rN(tk:List eh):Int:=tk.foldl (λm o=>if o.1=2 then o.2.2.1 else m) (-2199023255552)
def iJ(cu:uq):Nat:=cu.getLastD 0
def eB(c:Nat):Val:= .A [.D c]
def Ps(X:Nat->U7->Val)(k s w g:Int)(tk:List eh)(n:Nat):Val:=qD [kU X [.D k,.D s,.D w,.D g,.A ((jc (tk.take n)).map cK)],.D (rN (tk.take n))]
structure EN (X:Nat->U7->Val) (k s w g lt cp mk:Int) (m:U7) (T:Val) (tk:List eh) (cu:uq):Prop where
 hH:TBL k s w g (jc tk) m
 hk:mk=rN tk
 hm:mk= -2199023255552\/ei mk=true
 hlt:0<=lt/\lt<=1048576
 hcp:1<=cp/\cp<=4096
 hok: ∀o∈tk,X5 o.1 o.2.1 o.2.2.1 o.2.2.2=0/\inI o.2.2.2
 hln:tk.length<=20
 hcu: ∀c∈cu,c<=tk.length
 hcl:cu.length<=20
 hmc: ∃mc,TBL k s w g (jc (tk.take (iJ cu))) mc
 hT:T=Ps X k s w g tk (iJ cu)
def Ck(mk lt:Int):Bool:=decide (0<=lt)&&decide (lt<=1048576)&&(decide (mk= -2199023255552)||ei mk)
def nW(a:U7):Val:= .B (Ck (ce a 0).I (ce a 1).I&&decide ((ce a 2).I<cq .sub .i64 (ce a 0).I (ce a 1).I))
def gU(mk lt t:Int):Int:=if Ck mk lt then(if ei t then(if t<mk then 181 else 0)else 61)else 2
def ef9(a:U7):Val:= .D (gU (ce a 0).I (ce a 1).I (ce a 2).I)
def og(a:U7):Val:=if gU (ce a 0).I (ce a 1).I (ce a 2).I=0 then ce a 2 else ce a 0
def BD(k s w g lt cp:Int):Bool:=X9 k s w g&&decide (0<=lt)&&decide (lt<=1048576)&&decide (1<=cp)&&decide (cp<=4096)
def ZI(a:U7):Val:= .B (BD (ce a 0).I (ce a 1).I (ce a 2).I (ce a 3).I (ce a 4).I (ce a 5).I)
def pC(lt:Int):Bool:=decide (0<=lt)&&decide (lt<=1048576)
def eg1(a:U7):Val:= .D (if pC (ce a 0).I then-2199023255552 else 0)
def YX(a:U7):Val:=if pC (ce a 0).I then ce a 0 else .D 0
def ZF(a:U7):Val:= .D (if pC (ce a 0).I then 0 else 2)
def eg4(a:U7):Val:= .B (decide ((ce a 0).L.length<=1000)&&decide (0<=(ce a 1).I))
def wL(a:U7):Val:=if(ce a 1).I=0\/((ce a 0).L.length:Int)<(ce a 1).I then .D 0 else X1 (cg (ce a 0).L ((ce a 1).I-1).toNat) 0
def Up(a:U7):Val:= .B (decide ((ce a 1).I<=((ce a 0).L.length:Int)))
def eg5(a:U7):Val:= .B (match ce a 0 with| .A _=>true|_=>false)
def Ni(l:U7)(i:Nat):Bool:=decide (50<(X1 (cg l i) 2).toS.length)||decide (ci (cg l i) 5< -1000000)||decide (1000000<ci (cg l i) 5)
def ol(l:U7):Nat×U7:=il (.B false) (λk=>[.B false,.D k]) (Ni l) (min l.length 100)
def YK(a:U7):Val:=cx (ol (ce a 4).L)
def Ee(a:U7):Val:= .B (if(ol (ce a 0).L).1=1 then false else decide (((ce a 0).L.length:Int)<=(ce a 1).I))
def eg7(X:Nat->U7->Val)(a:U7)(l:Val):Val:=qD [kU X [ce a 0,ce a 1,ce a 2,ce a 3,uY [l]],sM [l]]
def im(X:Nat->U7->Val)(a:U7):Val:=X 208 [ce a 8,dy X [ce a 7,ce a 0]]
def Hj(X:Nat->U7->Val)(a:U7):Val:=X 208 [eg7 X a (.A ((ce a 6).L.take (wL [ce a 7,.D (ce a 7).L.length]).I.toNat)),eg7 X a (ce a 8)]
def gS(n1 n2:Nat)(cp st:Int):Int:=if n2<n1/\cq .sub .i64 cp n1<st then 160 else 0
def Dc(a:U7):U7:=[ce a 3,ce a 4,ce a 5,ce a 6,ce a 7,ce a 11,ce a 12,ce a 13,ce a 14]
def iI(X:Nat->U7->Val)(a:U7):Int:=
 if X5 (ce a 11).I (ce a 12).toS (ce a 13).I (ce a 14).I≠0 then X5 (ce a 11).I (ce a 12).toS (ce a 13).I (ce a 14).I
 else if(ce a 11).I=1 then(if(nW [ce a 0,ce a 1,ce a 13]).Z then 180 else if dp (Dc a)≠0 then dp (Dc a)
  else gS (X 208 [ce a 8,dy X [dR X (Dc a),ce a 0]]).L.length (im X a).L.length (ce a 2).I (ce a 15).I)
 else if gU (ce a 0).I (ce a 1).I (ce a 13).I≠0 then gU (ce a 0).I (ce a 1).I (ce a 13).I
 else gS (X 208 [ce a 8,dy X [ce a 7,og [ce a 0,ce a 1,ce a 13]]]).L.length (im X a).L.length (ce a 2).I (ce a 15).I
def opL(a:U7):Val:= .A ((ce a 6).L++[.A [ce a 8,ce a 9,ce a 10,ce a 11]])
def ea0(X:Nat->U7->Val)(a:U7):Int:=
 if X5 (ce a 8).I (ce a 9).toS (ce a 10).I (ce a 11).I≠0 then X5 (ce a 8).I (ce a 9).toS (ce a 10).I (ce a 11).I
 else if(ce a 8).I=2/\(ce a 10).I<(sM [ce a 6]).I then 181
 else if(ce a 8).I=1/\(nW [sM [ce a 6],ce a 4,ce a 10]).Z=true then 180
 else if(UK [ce a 0,ce a 1,ce a 2,ce a 3,uY [opL a]]).Z=false then 30
 else gS (Hj X [ce a 0,ce a 1,ce a 2,ce a 3,ce a 4,ce a 5,ce a 6,ce a 7,opL a]).L.length (Hj X [ce a 0,ce a 1,ce a 2,ce a 3,ce a 4,ce a 5,ce a 6,ce a 7,ce a 6]).L.length (ce a 5).I (ce a 12).I
def eq1(X:Nat->U7->Val)(a:U7):Val:= .D (if a.length=16 then iI X a else ea0 X a)
def gp(k s w g lt cp mk:Int)(m:U7)(T:Val)(tk:List eh)(cu:uq):U7:=[.D mk,.D lt,.D cp,.D k,.D s,.D w,.D g,.A m,T,.A (tk.map cJ),.A (cu.map eB)]
def EW(k s w g lt cp:Int)(tk:List eh)(cu:uq):U7:=[.D k,.D s,.D w,.D g,.D lt,.D cp,.A (tk.map cJ),.A (cu.map eB)]
def gw(o:eh)(st:Int):U7:=[.D o.1,.vs o.2.1,.D o.2.2.1,.D o.2.2.2,.D st]
def eq2(X:Nat->U7->Val)(a:U7):Prop:= ∃k s w g lt cp mk m T tk cu,a=gp k s w g lt cp mk m T tk cu/\EN X k s w g lt cp mk m T tk cu
def eq3(X:Nat->U7->Val)(a:U7):Prop:= ∃k s w g lt cp mk m T tk cu o st,(a=gp k s w g lt cp mk m T tk cu++gw o st\/a=EW k s w g lt cp tk cu++gw o st)/\EN X k s w g lt cp mk m T tk cu/\inI o.2.2.2/\tk.length<20
def eq4(X:Nat->U7->Val)(a:U7):Prop:= ∃k s w g lt cp mk m T tk cu tk' m',a=EW k s w g lt cp tk cu++[.A (tk'.map cJ)]/\EN X k s w g lt cp mk m T tk cu/\TBL k s w g (jc tk') m'/\tk'.length<=21
def eq5(X:Nat->U7->Val)(a:U7):Prop:= ∃k s w g lt cp mk m T tk cu e,a=gp k s w g lt cp mk m T tk cu++EW k s w g lt cp tk cu++[.D e]/\EN X k s w g lt cp mk m T tk cu/\0<=e
abbrev ActM:=Bool×eh×Int
def actV(x:ActM):Val:= .A [.B x.1,.D x.2.1.1,.vs x.2.1.2.1,.D x.2.1.2.2.1,.D x.2.1.2.2.2,.D x.2.2]
def eq6(a:U7):Prop:= ∃k s w g lt cp l e,a=[.D k,.D s,.D w,.D g,.D lt,.D cp,.A (List.map actV l),.D e]/\0<=e/\ ∀x∈l,inI x.2.1.2.2.2
def Nx(z:Val)(L:U7):Nat->U7
 |0=>L
 |i+1=>(Nx z L i).set i z
def zop:Val:= .A [.D 0,.vs [],.D 0,.D 0]
def eq7:Val:= .A [.vs [],.D 0,.D 0,.B false,.D 0,.D 0,.D 0,.D 0]
structure ES where
 mark:Int
 m:U7
 T:Val
 tk:List eh
 cu:uq
def es0:ES:=⟨-2199023255552,[],.A [],[],[]⟩
def ES.args(x:ES)(k s w g lt cp:Int):U7:=gp k s w g lt cp x.mark x.m x.T x.tk x.cu
def ES.step(X:Nat->U7->Val)(k s w g lt cp:Int)(x:ES)(y:ActM):ES:=
 if y.1=true then {x with T:=dy X [.A x.m,.D x.mark],cu:=x.cu++[x.tk.length]}
 else if iI X (x.args k s w g lt cp++gw y.2.1 y.2.2)≠0 then x
 else if y.2.1.1=1 then {x with m:=(dR X (Dc (x.args k s w g lt cp++gw y.2.1 y.2.2))).L,tk:=x.tk++[y.2.1]}
 else {x with mark:=y.2.1.2.2.1,tk:=x.tk++[y.2.1]}
def ES.run(X:Nat->U7->Val)(k s w g lt cp:Int)(l:List ActM):ES:=l.foldl (ES.step X k s w g lt cp) es0
def ES.st(x:ES)(i:Nat):U7:=[.B false,.D i,.D x.mark,.D x.T.L.length,.D x.tk.length,.D x.cu.length,.D x.tk.length,.D x.cu.length,.A x.m,x.T,.A (x.tk.map cJ),.A (x.cu.map eB),.A (x.tk.map cJ),.A (x.cu.map eB)]
def BF(r:Val):ActM:=((X1 r 0).Z,(ci r 1,(X1 r 2).toS,ci r 3,ci r 4),ci r 5)
def eq8(X:Nat->U7->Val)(a:U7):Val:=cx (0,(ES.run X (ce a 24).I (ce a 25).I (ce a 26).I (ce a 27).I (ce a 35).I (ce a 36).I ((ce a 16).L.map BF)).st (ce a 16).L.length)
def dS4:Val:= .A [.vs [63],.D 0,.D 0,.D 0,.D 0,.D 0,.D 0]
def FU(X:Nat->U7->Val):Nat->U7->Val:=λi a=>match i with
 |456=>cx (0,[.D (ce a 1).L.length,.A (Nx dS4 (ce a 1).L (ce a 1).L.length)])
 |937=>eg4 a
 |938=>wL a
 |939=>Up a
 |941=>eg1 a
 |942=>YX a
 |943=>ZF a
 |944=>ZI a
 |945=>nW a
 |946=>og a
 |947=>ef9 a
 |948=>eg5 a
 |950=>Ee a
 |951=>im X a
 |953=> .B (bP (eq2 X a))
 |954=>eq1 X a
 |955=> .B (bP (eq3 X a))
 |956=>Hj X a
 |957=> .B (bP (eq4 X a))
 |958=> .B (bP (eq5 X a))
 |959=> .B (bP (eq6 a))
 |960=>YK a
 |961=>cx (0,[.B false,.D 2])
 |962=>cx (0,[ce a 0,.D (ce a 2).L.length,.A (Nx zop (ce a 2).L (ce a 2).L.length)])
 |963=>cx (0,[.D (ce a 1).L.length,.A (Nx eq7 (ce a 1).L (ce a 1).L.length)])
 |965=>eq8 X a
 |_=>FQ X i a
def eq9(a:U7):Prop:= ∃k s w g lt cp l,a=[.D k,.D s,.D w,.D g,.D lt,.D cp,.A (List.map actV l)]/\ ∀x∈l,inI x.2.1.2.2.2
abbrev E9:=ES×Int
def rY(X:Nat->U7->Val)(k s w g lt cp:Int)(x:E9)(y:ActM):E9:=
 (x.1.step X k s w g lt cp (y.1,y.2.1,x.2),if y.1=true then x.2+((im X (x.1.args k s w g lt cp)).L.length:Int)else x.2)
def iB(X:Nat->U7->Val)(k s w g lt cp:Int)(l:List ActM):E9:=l.foldl (rY X k s w g lt cp) (es0,0)
def iO(x:E9)(i:Nat):U7:=[.B false,.D x.2,.D x.1.mark,.D (iJ x.1.cu),.D x.1.T.L.length,.D i,.D x.1.mark,.D x.1.T.L.length,.D x.1.tk.length,.D x.1.cu.length,x.1.T,.A x.1.m,x.1.T,.A (x.1.tk.map cJ),.A (x.1.cu.map eB)]
def er0(X:Nat->U7->Val)(a:U7):Val:=cx (0,iO (iB X (ce a 18).I (ce a 19).I (ce a 20).I (ce a 21).I (ce a 22).I (ce a 23).I ((ce a 17).L.map BF)) (ce a 17).L.length)
def FV(X:Nat->U7->Val):Nat->U7->Val:=λi a=>match i with
 |979=> .B (bP (eq9 a))
 |985=>er0 X a
 |_=>FU X i a
def dS5{X:Nat->U7->Val}(h:XOk X):XOk (FV X):=⟨h.x431,h.x491,h.x490,h.x490u,h.x3⟩
