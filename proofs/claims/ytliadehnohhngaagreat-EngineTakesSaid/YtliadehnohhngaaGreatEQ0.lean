import Derived.Test.YtliadehnohhngaaGreatEP21
set_option linter.all false
noncomputable section
namespace Go.Ev.S9
open Go Go.Ev
def OI(L L':U0):U0:=L.filter λr=> !L'.any λy=>decide (Y2 y=Y2 r)
def vY(L L':U0):U0:=L'.filter λr=> !L.any λy=>decide (km y=km r)
def es1(was:U0)(y:Val):Bool:=was.any λr=>decide (km r=km y)
def rtX(a:U0):Val:= .A [ce a 5,ce a 6,ce a 7,ce a 8]
def xj(a:U0):Int:=if Y4 (ce a 5).I (ce a 6).S (ce a 7).I (ce a 8).I≠0 then Y4 (ce a 5).I (ce a 6).S (ce a 7).I (ce a 8).I else if(ce a 5).I≠1 then 2 else if eY (ce a 0).I (ce a 1).I (ce a 2).I (ce a 3).I ((ce a 4).L++[rtX a])=true then 0 else 30
def Jd(X:Nat->U0->Val)(a:U0):U0:=(li X [ce a 0,ce a 1,ce a 2,ce a 3,ce a 4]).L
def Ie(X:Nat->U0->Val)(a:U0):U0:=(li X [ce a 0,ce a 1,ce a 2,ce a 3,.A ((ce a 4).L++[rtX a])]).L
def es3(a:U0):Val:= .D (xj a)
def YE(X:Nat->U0->Val)(a:U0):Val:= .A (if xj a=0 then(OI (Jd X a) (Ie X a)).map fF else [])
def TB(X:Nat->U0->Val)(a:U0):Val:= .A (if xj a=0 then(vY (Jd X a) (Ie X a)).map cO else [])
def es4(a:U0):Val:=lW ((OI (ce a 4).L (ce a 6).L).map fF) (ce a 4).L.length
def es5(a:U0):Val:=lW ((vY (ce a 4).L (ce a 6).L).map cO) (ce a 6).L.length
def es6(a:U0):Val:=cC (0,[.B (es1 (ce a 3).L (cg (ce a 5).L (ce a 10).I.toNat)),.D (ce a 3).L.length])
def es7(a:U0):Val:=lW (cw (λi=>[cO (cg (ce a 5).L i)]) (ce a 5).L.length) (ce a 5).L.length
def es8(a:U0):Val:= .B (decide ((ce a 0).L.map Y2=(ce a 1).L.map Y2))
def pnB(a b:U0)(i:Nat):Bool:= !decide (Y2 (cg a i)=Y2 (cg b i))
def es9(a:U0):Val:=cC (gg (.B false) (λk=>[.B false,.D k]) (pnB (ce a 4).L (ce a 7).L) (ce a 4).L.length)
def et0:Val:= .A [.vs [],.D 0,.D 0,.D 0,.D 0,.D 0,.D 0]
def Wq(L:U0):Nat->U0
 |0=>L
 |i+1=>(Wq L i).set i et0
def et1(a:U0):Val:=cC (0,[ce a 0,.D (ce a 2).L.length,.A (Wq (ce a 2).L (ce a 2).L.length)])
def et2(a:U0):Val:=cC (0,[.D (ce a 1).L.length,.A (Wq (ce a 1).L (ce a 1).L.length)])
structure TBL (k s w g:Int) (evs:List dw) (m:U0):Prop where
 R:cY k s w g=true
 T:TOK (eD k s w g) evs m
 tm:gZ evs
 V:EG evs
 ln:evs.length<=24
def et3(a:U0):Prop:= ∃k s w g evs m,ce a 5= .D k/\ce a 6= .D s/\ce a 7= .D w/\ce a 8= .D g/\ce a 4= .A m/\ce a 9= .A (evs.map cP)/\TBL k s w g evs m
def et4(a:U0):Prop:= ∃k s w g evs m ek ks t v,ce a 0= .D k/\ce a 1= .D s/\ce a 2= .D w/\ce a 3= .D g/\ce a 4= .A (evs.map cP)/\ce a 5= .D ek/\ce a 6= .vs ks/\ce a 7= .D t/\ce a 8= .D v/\inI v/\TBL k s w g evs m/\evs.length<24
def bP(p:Prop):Bool:= @decide p (Classical.propDecidable p)
def bP_iff{p:Prop}:bP p=true↔p:= @decide_eq_true_iff p (Classical.propDecidable p)
def et5(a:U0):Val:= .B (bP (et4 a))
def et6(a:U0):Val:= .B (bP (et3 a))
def et7(a:U0):Val:= .B (lJ (ce a 0)&&(lJ (ce a 1)&&(lJ (ce a 2)&&(lJ (ce a 3)&&LU (ce a 4)))))
def re(X:Nat->U0->Val)(a b c d:Val)(ops:U0):Nat->Int×Val×U0
 |0=>(0,.A [],[])
 |i+1=>(if(re X a b c d ops i).1=0 then dD (BI a b c d (re X a b c d ops i).2.1 (cg ops i))else(re X a b c d ops i).1,fx X (BI a b c d (re X a b c d ops i).2.1 (cg ops i)),if dD (BI a b c d (re X a b c d ops i).2.1 (cg ops i))≠0 then(re X a b c d ops i).2.2 else(re X a b c d ops i).2.2++[wC (cg ops i)])
def puV(X:Nat->U0->Val)(a b c d:Val)(ops:U0)(i:Nat):U0:=[.B false,.D (re X a b c d ops i).2.2.length,.D (re X a b c d ops i).1,.D i,(re X a b c d ops i).2.1,.A (re X a b c d ops i).2.2]
def et8(X:Nat->U0->Val)(a:U0):Val:=cC (0,puV X (ce a 10) (ce a 11) (ce a 12) (ce a 13) (ce a 8).L (ce a 8).L.length)
def et9(L:U0)(p:PaneM):Bool:=L.any λr=>decide (Y2 r=p)
def eu0(X:Nat->U0->Val)(a:U0):Val:=cC (0,[.B (et9 (X 490 [ce a 17]).L ⟨(ce a 10).S,(ce a 11).I,(ce a 12).I⟩),.D (X 490 [ce a 17]).L.length])
def eu1(X:Nat->U0->Val)(a:U0):Val:=if(ce a 1).I=2 then(if(ce a 5).L.length=0 then cC (0,[.D 0,.D 2,.D 0])else cC (1,[.D 2,.D 2,.D 0]))else cC (ofR X (ce a 4) (ce a 5) (ce a 6) (ce a 7) (ce a 11).L)
def FQ(X:Nat->U0->Val):Nat->U0->Val:=λi a=>match i with
 |771=>eu1 X a
 |900=>es8 a
 |903=>YE X a
 |904=>TB X a
 |905=>es3 a
 |906=>et5 a
 |907=>et6 a
 |908=>et7 a
 |920=>es4 a
 |921=>es5 a
 |922=>es6 a
 |923=>es7 a
 |924=>es9 a
 |925=>et1 a
 |926=>et2 a
 |927=>et8 X a
 |928=>eu0 X a
 |_=>FE X i a
abbrev eL:=Int×qw×Int×Int
def cH(o:eL):Val:= .A [.D o.1,.vs o.2.1,.D o.2.2.1,.D o.2.2.2]
def dX(tk:List eL):List dw:=tk.filterMap λo=>if o.1=1 then some (o.2.1,o.2.2.1,o.2.2.2)else none
def tq(tk:List eL):Int:=tk.foldl (λm o=>if o.1=2 then o.2.2.1 else m) (-2199023255552)
def jn(cu:HQ):Nat:=cu.getLastD 0
def eA(c:Nat):Val:= .A [.D c]
def Nj(X:Nat->U0->Val)(k s w g:Int)(tk:List eL)(n:Nat):Val:=oU [li X [.D k,.D s,.D w,.D g,.A ((dX (tk.take n)).map cP)],.D (tq (tk.take n))]
structure EN (X:Nat->U0->Val) (k s w g lt cp mk:Int) (m:U0) (T:Val) (tk:List eL) (cu:HQ):Prop where
 hH:TBL k s w g (dX tk) m
 hk:mk=tq tk
 hm:mk= -2199023255552\/dW mk=true
 hlt:0<=lt/\lt<=1048576
 hcp:1<=cp/\cp<=4096
 hok: ∀o∈tk,Y4 o.1 o.2.1 o.2.2.1 o.2.2.2=0/\inI o.2.2.2
 hln:tk.length<=20
 hcu: ∀c∈cu,c<=tk.length
 hcl:cu.length<=20
 hmc: ∃mc,TBL k s w g (dX (tk.take (jn cu))) mc
 hT:T=Nj X k s w g tk (jn cu)
def uO(mk lt:Int):Bool:=decide (0<=lt)&&decide (lt<=1048576)&&(decide (mk= -2199023255552)||dW mk)
def iQ(a:U0):Val:= .B (uO (ce a 0).I (ce a 1).I&&decide ((ce a 2).I<cr .sub .i64 (ce a 0).I (ce a 1).I))
def fR(mk lt t:Int):Int:=if uO mk lt then(if dW t then(if t<mk then 181 else 0)else 61)else 2
def ZB(a:U0):Val:= .D (fR (ce a 0).I (ce a 1).I (ce a 2).I)
def om(a:U0):Val:=if fR (ce a 0).I (ce a 1).I (ce a 2).I=0 then ce a 2 else ce a 0
def yZ(k s w g lt cp:Int):Bool:=cY k s w g&&decide (0<=lt)&&decide (lt<=1048576)&&decide (1<=cp)&&decide (cp<=4096)
def YX(a:U0):Val:= .B (yZ (ce a 0).I (ce a 1).I (ce a 2).I (ce a 3).I (ce a 4).I (ce a 5).I)
def oP(lt:Int):Bool:=decide (0<=lt)&&decide (lt<=1048576)
def el4(a:U0):Val:= .D (if oP (ce a 0).I then-2199023255552 else 0)
def el5(a:U0):Val:=if oP (ce a 0).I then ce a 0 else .D 0
def el6(a:U0):Val:= .D (if oP (ce a 0).I then 0 else 2)
def RO(a:U0):Val:= .B (decide ((ce a 0).L.length<=1000)&&decide (0<=(ce a 1).I))
def vH(a:U0):Val:=if(ce a 1).I=0\/((ce a 0).L.length:Int)<(ce a 1).I then .D 0 else Y5 (cg (ce a 0).L ((ce a 1).I-1).toNat) 0
def JE(a:U0):Val:= .B (decide ((ce a 1).I<=((ce a 0).L.length:Int)))
def ZY(a:U0):Val:= .B (match ce a 0 with| .A _=>true|_=>false)
def My(l:U0)(i:Nat):Bool:=decide (50<(Y5 (cg l i) 2).S.length)||decide (ci (cg l i) 5< -1000000)||decide (1000000<ci (cg l i) 5)
def rH(l:U0):Nat×U0:=gg (.B false) (λk=>[.B false,.D k]) (My l) (min l.length 100)
def el8(a:U0):Val:=cC (rH (ce a 4).L)
def JZ(a:U0):Val:= .B (if(rH (ce a 0).L).1=1 then false else decide (((ce a 0).L.length:Int)<=(ce a 1).I))
def el9(X:Nat->U0->Val)(a:U0)(l:Val):Val:=oU [li X [ce a 0,ce a 1,ce a 2,ce a 3,oG [l]],mZ [l]]
def sm(X:Nat->U0->Val)(a:U0):Val:=X 208 [ce a 8,eI X [ce a 7,ce a 0]]
def nF(X:Nat->U0->Val)(a:U0):Val:=X 208 [el9 X a (.A ((ce a 6).L.take (vH [ce a 7,.D (ce a 7).L.length]).I.toNat)),el9 X a (ce a 8)]
def gu(n1 n2:Nat)(cp st:Int):Int:=if n2<n1/\cr .sub .i64 cp n1<st then 160 else 0
def LF(a:U0):U0:=[ce a 3,ce a 4,ce a 5,ce a 6,ce a 7,ce a 11,ce a 12,ce a 13,ce a 14]
def lX(X:Nat->U0->Val)(a:U0):Int:=
 if Y4 (ce a 11).I (ce a 12).S (ce a 13).I (ce a 14).I≠0 then Y4 (ce a 11).I (ce a 12).S (ce a 13).I (ce a 14).I
 else if(ce a 11).I=1 then(if(iQ [ce a 0,ce a 1,ce a 13]).Z then 180 else if dD (LF a)≠0 then dD (LF a)
  else gu (X 208 [ce a 8,eI X [fx X (LF a),ce a 0]]).L.length (sm X a).L.length (ce a 2).I (ce a 15).I)
 else if fR (ce a 0).I (ce a 1).I (ce a 13).I≠0 then fR (ce a 0).I (ce a 1).I (ce a 13).I
 else gu (X 208 [ce a 8,eI X [ce a 7,om [ce a 0,ce a 1,ce a 13]]]).L.length (sm X a).L.length (ce a 2).I (ce a 15).I
def xC(a:U0):Val:= .A ((ce a 6).L++[.A [ce a 8,ce a 9,ce a 10,ce a 11]])
def Kg(X:Nat->U0->Val)(a:U0):Int:=
 if Y4 (ce a 8).I (ce a 9).S (ce a 10).I (ce a 11).I≠0 then Y4 (ce a 8).I (ce a 9).S (ce a 10).I (ce a 11).I
 else if(ce a 8).I=2/\(ce a 10).I<(mZ [ce a 6]).I then 181
 else if(ce a 8).I=1/\(iQ [mZ [ce a 6],ce a 4,ce a 10]).Z=true then 180
 else if(rj [ce a 0,ce a 1,ce a 2,ce a 3,oG [xC a]]).Z=false then 30
 else gu (nF X [ce a 0,ce a 1,ce a 2,ce a 3,ce a 4,ce a 5,ce a 6,ce a 7,xC a]).L.length (nF X [ce a 0,ce a 1,ce a 2,ce a 3,ce a 4,ce a 5,ce a 6,ce a 7,ce a 6]).L.length (ce a 5).I (ce a 12).I
def eu2(X:Nat->U0->Val)(a:U0):Val:= .D (if a.length=16 then lX X a else Kg X a)
def fP(k s w g lt cp mk:Int)(m:U0)(T:Val)(tk:List eL)(cu:HQ):U0:=[.D mk,.D lt,.D cp,.D k,.D s,.D w,.D g,.A m,T,.A (tk.map cH),.A (cu.map eA)]
def fS(k s w g lt cp:Int)(tk:List eL)(cu:HQ):U0:=[.D k,.D s,.D w,.D g,.D lt,.D cp,.A (tk.map cH),.A (cu.map eA)]
def eZ(o:eL)(st:Int):U0:=[.D o.1,.vs o.2.1,.D o.2.2.1,.D o.2.2.2,.D st]
def eu3(X:Nat->U0->Val)(a:U0):Prop:= ∃k s w g lt cp mk m T tk cu,a=fP k s w g lt cp mk m T tk cu/\EN X k s w g lt cp mk m T tk cu
def eu4(X:Nat->U0->Val)(a:U0):Prop:= ∃k s w g lt cp mk m T tk cu o st,(a=fP k s w g lt cp mk m T tk cu++eZ o st\/a=fS k s w g lt cp tk cu++eZ o st)/\EN X k s w g lt cp mk m T tk cu/\inI o.2.2.2/\tk.length<20
def eu5(X:Nat->U0->Val)(a:U0):Prop:= ∃k s w g lt cp mk m T tk cu tk' m',a=fS k s w g lt cp tk cu++[.A (tk'.map cH)]/\EN X k s w g lt cp mk m T tk cu/\TBL k s w g (dX tk') m'/\tk'.length<=21
def eu6(X:Nat->U0->Val)(a:U0):Prop:= ∃k s w g lt cp mk m T tk cu e,a=fP k s w g lt cp mk m T tk cu++fS k s w g lt cp tk cu++[.D e]/\EN X k s w g lt cp mk m T tk cu/\0<=e
abbrev ActM:=Bool×eL×Int
def actV(x:ActM):Val:= .A [.B x.1,.D x.2.1.1,.vs x.2.1.2.1,.D x.2.1.2.2.1,.D x.2.1.2.2.2,.D x.2.2]
def eu7(a:U0):Prop:= ∃k s w g lt cp l e,a=[.D k,.D s,.D w,.D g,.D lt,.D cp,.A (List.map actV l),.D e]/\0<=e/\ ∀x∈l,inI x.2.1.2.2.2
def eJ(z:Val)(L:U0):Nat->U0
 |0=>L
 |i+1=>(eJ z L i).set i z
def kO:Val:= .A [.D 0,.vs [],.D 0,.D 0]
def YR:Val:= .A [.vs [],.D 0,.D 0,.B false,.D 0,.D 0,.D 0,.D 0]
structure ES where
 mark:Int
 m:U0
 T:Val
 tk:List eL
 cu:HQ
def es0:ES:=⟨-2199023255552,[],.A [],[],[]⟩
def ES.args(x:ES)(k s w g lt cp:Int):U0:=fP k s w g lt cp x.mark x.m x.T x.tk x.cu
def ES.step(X:Nat->U0->Val)(k s w g lt cp:Int)(x:ES)(y:ActM):ES:=
 if y.1=true then {x with T:=eI X [.A x.m,.D x.mark],cu:=x.cu++[x.tk.length]}
 else if lX X (x.args k s w g lt cp++eZ y.2.1 y.2.2)≠0 then x
 else if y.2.1.1=1 then {x with m:=(fx X (LF (x.args k s w g lt cp++eZ y.2.1 y.2.2))).L,tk:=x.tk++[y.2.1]}
 else {x with mark:=y.2.1.2.2.1,tk:=x.tk++[y.2.1]}
def ES.run(X:Nat->U0->Val)(k s w g lt cp:Int)(l:List ActM):ES:=l.foldl (ES.step X k s w g lt cp) es0
def ES.st(x:ES)(i:Nat):U0:=[.B false,.D i,.D x.mark,.D x.T.L.length,.D x.tk.length,.D x.cu.length,.D x.tk.length,.D x.cu.length,.A x.m,x.T,.A (x.tk.map cH),.A (x.cu.map eA),.A (x.tk.map cH),.A (x.cu.map eA)]
def Ix(r:Val):ActM:=((Y5 r 0).Z,(ci r 1,(Y5 r 2).S,ci r 3,ci r 4),ci r 5)
def eu8(X:Nat->U0->Val)(a:U0):Val:=cC (0,(ES.run X (ce a 24).I (ce a 25).I (ce a 26).I (ce a 27).I (ce a 35).I (ce a 36).I ((ce a 16).L.map Ix)).st (ce a 16).L.length)
def Vl:Val:= .A [.vs [63],.D 0,.D 0,.D 0,.D 0,.D 0,.D 0]
def FU(X:Nat->U0->Val):Nat->U0->Val:=λi a=>match i with
 |456=>cC (0,[.D (ce a 1).L.length,.A (eJ Vl (ce a 1).L (ce a 1).L.length)])
 |937=>RO a
 |938=>vH a
 |939=>JE a
 |941=>el4 a
 |942=>el5 a
 |943=>el6 a
 |944=>YX a
 |945=>iQ a
 |946=>om a
 |947=>ZB a
 |948=>ZY a
 |950=>JZ a
 |951=>sm X a
 |953=> .B (bP (eu3 X a))
 |954=>eu2 X a
 |955=> .B (bP (eu4 X a))
 |956=>nF X a
 |957=> .B (bP (eu5 X a))
 |958=> .B (bP (eu6 X a))
 |959=> .B (bP (eu7 a))
 |960=>el8 a
 |961=>cC (0,[.B false,.D 2])
 |962=>cC (0,[ce a 0,.D (ce a 2).L.length,.A (eJ kO (ce a 2).L (ce a 2).L.length)])
 |963=>cC (0,[.D (ce a 1).L.length,.A (eJ YR (ce a 1).L (ce a 1).L.length)])
 |965=>eu8 X a
 |_=>FQ X i a
def ee2{X:Nat->U0->Val}(h:XOk X):XOk (FU X):=⟨h.x431,h.x491,h.x490,h.x490u,h.x3⟩
