import Derived.Test.YtipefnncbnbliaaGreatEP21
set_option linter.unusedSimpArgs false
set_option linter.unusedVariables false
namespace Go.Ev.S9
open Go Go.Ev
def Kq:SX:= .app 923 [zL ck,aN,ck,aN,zl 0,aM]
def Ng:SX:= zo Kq 2
def ee2:VT:= .ite (zs aR (zl 0)) (.need (zp aR) (.need (zn (cC aV (zl 2002)) (zb (zL (zc aW (.op .row [zv 0 2001]))) 1000000)) (.ret 0 [zL (zc aW (.op .row [zv 0 2001])),zi aR,zc aW (.op .row [zv 0 2001])]))) (.ret 1 [aV,aR,aW])
def T_lrows:VT:= .loop ⟨923,[zL ck,aN,ck],2000,[aN,zl 0,aM]⟩ ee2 [.need (cC (zo Kq 0) (zL Ng)) (.ret 0 [Ng])]
def e82:VT:= .ite (zs aR (zl 0)) (.need (zp aR) (.need (zs aR (zl 1)) (.ite (dJ (zn (.op (.scmp .eql) [zg 0 2001 0,zg 1 2001 0]) (zn (cC (zg 0 2001 1) (zg 1 2001 1)) (cC (zg 0 2001 2) (zg 1 2001 2))))) (.ret 2 [.cb false,aR]) (.ret 0 [aV,zi aR])))) (.ret 1 [aV,aR])
def T_samePanes:VT:= .ite (dv (zl 0) (zl 1)) (.ret 0 [.cb false]) (.loop ⟨924,[.cb false,aN],2000,[aN,zl 0,aM,aN,zl 1,aO]⟩ e82 [.ret 0 [.cb true],.ret 0 [zo (.app 924 [.cb false,aN,aN,zl 0,aM,aN,zl 1,aO]) 0]])
def Kx:SX:= .app 701 [be,bd,bf,bh]
def sY:SX:= zc aS (.op .row [.op .row [be,bd,bf,bh]])
def cZ:SX:= .app 828 [aM,aO,aT,aU,aS]
def dK:SX:= .app 828 [aM,aO,aT,aU,sY]
def Hs:SX:= .app 920 [zL ck,aN,ck,zL cZ,cZ,zL dK,dK]
def vw:SX:= zo Hs 0
def rj:SX:= zo Hs 2
def DT:SX:= .app 921 [zL ck,aN,ck,zL cZ,cZ,zL dK,dK,vw,rj]
def HZ:SX:= zo DT 2
def Y0:SX:= cC aV (zl 2002)
def Y1:SX:= zc aW (.op .row [.op .row [bX cZ aR 0,bX cZ aR 1,bX cZ aR 2]])
def Tu:VT:= .ite (zs aR (zL cZ)) (.need (zp aR) (.need (zb (zL dK) 1000000) (.ite (dJ (.app 827 [dK,bX cZ aR 0,bX cZ aR 1,bX cZ aR 2])) (.need (zn Y0 (zb (zL Y1) 1000000)) (.ret 0 [zL Y1,zi aR,Y1])) (.ret 0 [aV,zi aR,aW])))) (.ret 1 [aV,aR,aW])
def Y2:SX:= zs aR (zL dK)
def Lv:VT:= .ite (zs bg (zL cZ)) (.ite bu (.ret 0 [.cb true,zi bg]) (.need (zp bg) (.need (zn (zp aR) Y2) (.ret 0 [.op .ite [bu,.cb true,zn (zn (.op (.scmp .eql) [bX cZ bg 0,bX dK aR 0]) (zn (cC (bX cZ bg 1) (bX dK aR 1)) (cC (bX cZ bg 2) (bX dK aR 2)))) (zn (cC (bX cZ bg 3) (bX dK aR 3)) (zn (cC (bX cZ bg 4) (bX dK aR 4)) (zn (cC (bX cZ bg 5) (bX dK aR 5)) (cC (bX cZ bg 6) (bX dK aR 6)))))],zi bg])))) (.ret 1 [bu,bg])
def Y3:SX:= zc aW (.op .row [.op .row [bX dK aR 0,bX dK aR 1,bX dK aR 2,bX dK aR 3,bX dK aR 4,bX dK aR 5,bX dK aR 6]])
def US:VT:= .ite Y2 (.loop ⟨922,[.cb false,aN],4000,[zL cZ,cZ,zL dK,dK,vw,rj,aV,aW,aR]⟩ Lv [.ite (dJ (zo (.app 922 [.cb false,aN,zL cZ,cZ,zL dK,dK,vw,rj,aV,aW,aR]) 0)) (.need (zp aR) (.need (zn Y0 (zb (zL Y3) 1000000)) (.ret 0 [zL Y3,zi aR,Y3]))) (.ret 0 [aV,zi aR,aW])]) (.ret 1 [aV,aR,aW])
def Y4:SX:= zb (zl 4) 1000000
def T_rTry:VT:= .ite (dv Kx aN) (.ret 0 [Kx,ck,ck]) (.ite (dv be aZ) (.ret 0 [bn,ck,ck]) (.need Y4 (.need (zb (zL sY) 1000000) (.need (zn (zb (zL sY) 100) (.app 840 [aM,aO,aT,aU,sY])) (.ite (dJ (.app 829 [aM,aO,aT,aU,sY])) (.ret 0 [bL,ck,ck]) (.need (zn (zb (zl 4) 100) (.app 840 [aM,aO,aT,aU,aS])) (.loop ⟨920,[zL ck,aN,ck],2000,[zL cZ,cZ,zL dK,dK]⟩ Tu [.loop ⟨921,[zL ck,aN,ck],2000,[zL cZ,cZ,zL dK,dK,vw,rj]⟩ US [.need (zn (cC vw (zL rj)) (cC (zo DT 0) (zL HZ))) (.ret 0 [aN,rj,HZ])]])))))))
def oS:SX:= zL (.app 490 [aS])
def gT:SX:= .app 828 [be,bd,bf,bh,bH]
def oT:SX:= zL (.app 726 [aS,bt])
def BF:SX:= zo (.app 925 [.cb false,aN,.app 490 [aS],aM,aO,aT,aU,aS,bt,zL gT,gT,oS,.app 490 [aS],oT,.app 726 [aS,bt]]) 0
def Y5:SX:= .app 721 [aS,zg 4002 4001 0,zg 4002 4001 1,zg 4002 4001 2]
def Y6:SX:= .op .row [.cs [],aN,aN,aN,aN,aN,aN]
def xy:VT:= .ite (zs bg oS) (.need (zp bg) (.need (zs bg (zl 4002)) (.need Y4 (.ite (dJ (.app 722 [aS,zg 4002 4001 0,zg 4002 4001 1,zg 4002 4001 2])) (.ret 2 [.cb false,bg,bm]) (.ite (dJ (zn (cC (bX Y5 aN 0) (zg 4002 4001 3)) (zn (cC (bX Y5 aN 1) (zg 4002 4001 4)) (zn (cC (bX Y5 aN 2) (zg 4002 4001 5)) (cC (bX Y5 aN 3) (zg 4002 4001 6)))))) (.ret 2 [.cb false,bg,bm]) (.ret 0 [bu,zi bg,.op .lset [bm,bg,Y6]])))))) (.ret 1 [bu,bg,bm])
def Gd:VT:= .ite (zs bu oT) (.need (zp bu) (.need (zs bu (zl 4001)) (.ret 0 [zi bu,.op .lset [bg,bu,Y6]]))) (.ret 1 [bu,bg])
def T_is:VT:= .need (zn (zb (zl 9) 100) (.app 840 [be,bd,bf,bh,bH])) (.ite (dJ (.app 829 [be,bd,bf,bh,bH])) (.ret 0 [.cb false]) (.need (zn (zn (zb (zl 4) 400) (.app 431 [aS])) (.app 491 [aS])) (.ite (dv oS (zL gT)) (.ret 0 [.cb false]) (.need (zn (zb oS 400) (.app 431 [.app 490 [aS]])) (.need (zb oS 1000000) (.ite (dJ (.app 3 [.app 490 [aS],gT])) (.ret 0 [.cb false]) (.need (zn (zb oT 400) (.app 431 [.app 726 [aS,bt]])) (.need (zn (zb (zL gT) 400) (.app 431 [gT])) (.need (zb oT 1000000) (.ite (dJ (.app 3 [.app 726 [aS,bt],.app 832 [gT,bt]])) (.ret 0 [.cb false]) (.loop ⟨925,[.cb false,aN,.app 490 [aS]],4000,[aM,aO,aT,aU,aS,bt,zL gT,gT,oS,.app 490 [aS],oT,.app 726 [aS,bt]]⟩ xy [.loop ⟨926,[aN,.app 726 [aS,bt]],4000,[aM,aO,aT,aU,aS,bt,zL gT,gT,oT,.app 726 [aS,bt]]⟩ Gd [.loop ⟨925,[BF,aN,.app 490 [aS]],4000,[aM,aO,aT,aU,aS,bt,zL gT,gT,oS,.app 490 [aS],oT,.app 726 [aS,bt]]⟩ xy [.loop ⟨926,[aN,.app 726 [aS,bt]],4000,[aM,aO,aT,aU,aS,bt,zL gT,gT,oT,.app 726 [aS,bt]]⟩ Gd [.ret 0 [.cb true]],.ret 0 [zo (.app 925 [BF,aN,.app 490 [aS],aM,aO,aT,aU,aS,bt,zL gT,gT,oS,.app 490 [aS],oT,.app 726 [aS,bt]]) 0]]],.ret 0 [BF]])))))))))))
def FH:SX:= .app 771 [aN,bn,aN,aN,zl 4,aS,zl 4]
def Ij:SX:= zo FH 1
def Gs:SX:= ze Ij 2
def Ge:SX:= ze (zo FH 0) 2
def qg:SX:= .app 927 [.cb false,zL ck,aN,aN,ck,ck,aN,zl 4,aS,be,aM,aO,aT,aU,bd,bf,bh,aM,aO,aT,aU,ck]
def gS:SX:= zo qg 4
def qk:SX:= zo qg 1
def tQ:SX:= zo qg 5
def uv:SX:= zo qg 2
def wz:SX:= .app 722 [gS,bd,bf,bh]
def vN:SX:= .app 771 [aN,aN,aN,ck,aM,aO,aT,aU,ck,aN,zl 4,aS,zl 4]
def Ee:SX:= zo vN 1
def EY:SX:= zn (zp qk) (fJ qk (zL tQ))
def BM:SX:= .op .lsub [tQ,aN,qk]
def IG:SX:= zb (zL BM) 100
def JL:SX:= .app 907 [aM,aO,aT,aU,gS,aM,aO,aT,aU,BM,be]
def Zu:SX:= zn IG JL
def Tp:SX:= zn EY Zu
def nM:SX:= .op .beq [wz,zo (.app 928 [.cb false,aN,aN,zl 4,aS,be,aM,aO,aT,aU,bd,bf,bh,aM,aO,aT,aU,gS,qk,tQ,uv,wz]) 0]
def II:SX:= zo vN 0
def KQ:SX:= ze II 0
def Y7:SX:= zs aW (zl 4)
def e83:VT:= .ite Y7 (.need (zp aW) (.ite (dv aR aN) (.ret 2 [aR,aR,aW]) (.ret 0 [aV,aZ,zi aW]))) (.ret 1 [aV,aR,aW])
def Y8:SX:= .app 701 [zg 4 2003 0,zg 4 2003 1,zg 4 2003 2,zg 4 2003 3]
def Y9:SX:= .app 732 [aM,aO,aT,aU,bp,zg 4 2003 0,zg 4 2003 1,zg 4 2003 2,zg 4 2003 3]
def Y10:SX:= dv Y9 (.app 905 [aM,aO,aT,aU,.op .lsub [bq,aN,aR],zg 4 2003 0,zg 4 2003 1,zg 4 2003 2,zg 4 2003 3])
def LS:SX:= .app 730 [aM,aO,aT,aU,bp,zg 4 2003 0,zg 4 2003 1,zg 4 2003 2,zg 4 2003 3]
def Y12:SX:= dJ (.app 900 [LS,.app 903 [aM,aO,aT,aU,.op .lsub [bq,aN,aR],zg 4 2003 0,zg 4 2003 1,zg 4 2003 2,zg 4 2003 3]])
def sD:SX:= .app 731 [aM,aO,aT,aU,bp,zg 4 2003 0,zg 4 2003 1,zg 4 2003 2,zg 4 2003 3]
def Y14:SX:= zn (zb (zL sD) 400) (.app 431 [sD])
def Y15:SX:= zb (zL sD) 1000000
def Y16:SX:= dJ (.app 3 [sD,.app 904 [aM,aO,aT,aU,.op .lsub [bq,aN,aR],zg 4 2003 0,zg 4 2003 1,zg 4 2003 2,zg 4 2003 3]])
def Y17:SX:= .app 907 [aM,aO,aT,aU,bp,aM,aO,aT,aU,.op .lsub [bq,aN,aR],be]
def Bp:SX:= .app 733 [aM,aO,aT,aU,bp,zg 4 2003 0,zg 4 2003 1,zg 4 2003 2,zg 4 2003 3]
def ot:SX:= zc bq (.op .row [.op .row [zg 4 2003 0,zg 4 2003 1,zg 4 2003 2,zg 4 2003 3]])
def Ch(h n r:SX):VT:= .ite Y10 (.ret 2 [.cb false,aR,aW,bj,bp,bq]) (.need (zb (zL LS) 400) (.ite Y12 (.ret 2 [.cb false,aR,aW,bj,bp,bq]) (.need Y14 (.need Y15 (.ite Y16 (.ret 2 [.cb false,aR,aW,bj,bp,bq]) (.need Y17 (.ite (dv Y9 h) (.ret 2 [.cb false,aR,aW,bj,Bp,bq]) (.ite (ze aW 0) (.ret 0 [aV,n,h,zi bj,Bp,r]) (.ret 0 [aV,n,aW,zi bj,Bp,r])))))))))
def PR:VT:= .ite (zs bj (zl 4)) (.need (zp bj) (.need (zn (zn (zn (zb (zl 2004) 400) (.app 431 [bp])) (.app 491 [bp])) (.app 739 [aM,bp,zg 4 2003 1])) (.need (zn (zn (zp aR) (fJ aR (zl 2005))) (zn (zb (zL (.op .lsub [bq,aN,aR])) 100) (.app 906 [aM,aO,aT,aU,.op .lsub [bq,aN,aR],zg 4 2003 0,zg 4 2003 1,zg 4 2003 2,zg 4 2003 3]))) (.ite (dv Y8 aN) (Ch Y8 aR bq) (.ite (dv (zg 4 2003 0) aZ) (Ch bn aR bq) (.need (zn (cC aR (zl 2005)) (zb (zl 2005) 1000000)) (.need (zb (zL ot) 1000000) (.need (zn (zb (zL ot) 100) (.app 840 [aM,aO,aT,aU,ot])) (.ite (dJ (.app 829 [aM,aO,aT,aU,ot])) (Ch bL aR bq) (Ch aN (zL ot) ot)))))))))) (.ret 1 [aV,aR,aW,bj,bp,bq])
def SZ:VT:= .need (zn (zn (zb (zL gS) 400) (.app 431 [gS])) (.app 491 [gS])) (.ite (zs aR (zL (.app 490 [gS]))) (.ite aV (.ret 0 [.cb true,zi aR]) (.need (zp aR) (.ret 0 [.op .ite [aV,.cb true,zn (.op (.scmp .eql) [bX (.app 490 [gS]) aR 0,bd]) (zn (cC (bX (.app 490 [gS]) aR 1) bf) (cC (bX (.app 490 [gS]) aR 2) bh))],zi aR]))) (.ret 1 [aV,aR]))
def Ia:VT:= .ite Y7 (.need (zp aW) (.ite (dv aR aN) (.ret 2 [aR,aR,aW,bj]) (.need (zn (zn (zn (zb (zl 2003) 400) (.app 431 [bj])) (.app 491 [bj])) (.app 739 [aM,bj,zg 4 2002 1])) (.ret 0 [aV,.app 732 [aM,aO,aT,aU,bj,zg 4 2002 0,zg 4 2002 1,zg 4 2002 2,zg 4 2002 3],zi aW,.app 733 [aM,aO,aT,aU,bj,zg 4 2002 0,zg 4 2002 1,zg 4 2002 2,zg 4 2002 3]])))) (.ret 1 [aV,aR,aW,bj])
def T_puts:VT:= .ite (dJ (.app 734 [aS,.ci 24])) (.ret 0 [.cb true]) (.ite (zt (.op .slen [bd]) 50) (.ret 0 [.cb true]) (.ite (dJ (.app 700 [aM,aO,aT,aU])) (.loop ⟨771,[aN,bn,aN],2000,[aN,zl 4,aS,zl 4]⟩ e83 [.ite (dv Ij aN) (.ite Gs (.ret 0 [Gs]) (.ret 0 [.cb false])) (.ret 0 [.cb false]),.ite Ge (.ret 0 [Ge]) (.ret 0 [.cb false])]) (.loop ⟨927,[.cb false,zL ck,aN,aN,ck,ck],2000,[aN,zl 4,aS,be,aM,aO,aT,aU,bd,bf,bh,aM,aO,aT,aU,ck]⟩ PR [.need (zb (zL gS) 1000000) (.loop ⟨928,[.cb false,aN],2000,[aN,zl 4,aS,be,aM,aO,aT,aU,bd,bf,bh,aM,aO,aT,aU,gS,qk,tQ,uv,wz]⟩ SZ [.loop ⟨771,[aN,aN,aN,ck],2000,[aM,aO,aT,aU,ck,aN,zl 4,aS,zl 4]⟩ Ia [.ite (dv Ee aN) (.ite (dv Ee uv) (.ret 0 [.cb false]) (.ite (dJ (.op .beq [ze Ee 0,.cb false])) (.ret 0 [.cb false]) (.need Tp (.ite nM (.ret 0 [nM]) (.ret 0 [.cb false]))))) (.ite (dv aN uv) (.ret 0 [.cb false]) (.need (zn EY (zn IG (.app 907 [aM,aO,aT,aU,zo vN 3,aM,aO,aT,aU,BM,be]))) (.need JL (.ite nM (.ret 0 [nM]) (.ret 0 [.cb false]))))),.ite (dv II uv) (.ret 0 [.cb false]) (.ite (dJ (.op .beq [KQ,.cb false])) (.ret 0 [.cb false]) (.ite KQ (.need (zn EY (.cb false)) (.need Zu (.ite nM (.ret 0 [nM]) (.ret 0 [.cb false])))) (.need Tp (.ite nM (.ret 0 [nM]) (.ret 0 [.cb false])))))]]),.ret 0 [zo qg 0]])))
def pU(L L':List Val):List Val:=L.filter λr=> !L'.any λy=>decide (Z2 y=Z2 r)
def lX(L L':List Val):List Val:=L'.filter λr=> !L.any λy=>decide (eW y=eW r)
def gE(was:List Val)(y:Val):Bool:=was.any λr=>decide (eW r=eW y)
def wZ(a:List Val):Val:= .vl [bV a 5,bV a 6,bV a 7,bV a 8]
def kw(a:List Val):Int:=if Z9 (bV a 5).toI (bV a 6).toS (bV a 7).toI (bV a 8).toI≠0 then Z9 (bV a 5).toI (bV a 6).toS (bV a 7).toI (bV a 8).toI else if(bV a 5).toI≠1 then 2 else if fB (bV a 0).toI (bV a 1).toI (bV a 2).toI (bV a 3).toI ((bV a 4).toL++[wZ a])=true then 0 else 30
def kY(X:Nat->List Val->Val)(a:List Val):List Val:=(nO X [bV a 0,bV a 1,bV a 2,bV a 3,bV a 4]).toL
def kK(X:Nat->List Val->Val)(a:List Val):List Val:=(nO X [bV a 0,bV a 1,bV a 2,bV a 3,.vl ((bV a 4).toL++[wZ a])]).toL
def Tg(a:List Val):Val:= .vi (kw a)
def Ac(X:Nat->List Val->Val)(a:List Val):Val:= .vl (if kw a=0 then(pU (kY X a) (kK X a)).map eh else [])
def GJ(X:Nat->List Val->Val)(a:List Val):Val:= .vl (if kw a=0 then(lX (kY X a) (kK X a)).map cK else [])
def e84(a:List Val):Val:=mF ((pU (bV a 4).toL (bV a 6).toL).map eh) (bV a 4).toL.length
def e85(a:List Val):Val:=mF ((lX (bV a 4).toL (bV a 6).toL).map cK) (bV a 6).toL.length
def IN(a:List Val):Val:=cr (0,[.vb (gE (bV a 3).toL (bW (bV a 5).toL (bV a 10).toI.toNat)),.vi (bV a 3).toL.length])
def e86(a:List Val):Val:=mF (cn (λi=>[cK (bW (bV a 5).toL i)]) (bV a 5).toL.length) (bV a 5).toL.length
def Og(a:List Val):Val:= .vb (decide ((bV a 0).toL.map Z2=(bV a 1).toL.map Z2))
def tI(a b:List Val)(i:Nat):Bool:= !decide (Z2 (bW a i)=Z2 (bW b i))
def ZZ(a:List Val):Val:=cr (gv (.vb false) (λk=>[.vb false,.vi k]) (tI (bV a 4).toL (bV a 7).toL) (bV a 4).toL.length)
def Er:Val:= .vl [.vs [],.vi 0,.vi 0,.vi 0,.vi 0,.vi 0,.vi 0]
def dZ(L:List Val):Nat->List Val
 |0=>L
 |i+1=>(dZ L i).set i Er
def ee3(a:List Val):Val:=cr (0,[bV a 0,.vi (bV a 2).toL.length,.vl (dZ (bV a 2).toL (bV a 2).toL.length)])
def ee4(a:List Val):Val:=cr (0,[.vi (bV a 1).toL.length,.vl (dZ (bV a 1).toL (bV a 1).toL.length)])
structure TBL (k s w g:Int) (evs:List dy) (m:List Val):Prop where
 R:cT k s w g=true
 T:TOK (ei k s w g) evs m
 tm:gA evs
 va:BT evs
 ln:evs.length<=24
def ee5(a:List Val):Prop:= ∃k s w g evs m,bV a 5= .vi k/\bV a 6= .vi s/\bV a 7= .vi w/\bV a 8= .vi g/\bV a 4= .vl m/\bV a 9= .vl (evs.map cD)/\TBL k s w g evs m
def e88(a:List Val):Prop:= ∃k s w g evs m ek ks t v,bV a 0= .vi k/\bV a 1= .vi s/\bV a 2= .vi w/\bV a 3= .vi g/\bV a 4= .vl (evs.map cD)/\bV a 5= .vi ek/\bV a 6= .vs ks/\bV a 7= .vi t/\bV a 8= .vi v/\cH v/\TBL k s w g evs m/\evs.length<24
noncomputable def bP(p:Prop):Bool:= @decide p (Classical.propDecidable p)
theorem EE{p:Prop}:bP p=true↔p:= @decide_eq_true_iff p (Classical.propDecidable p)
noncomputable def ee6(a:List Val):Val:= .vb (bP (e88 a))
noncomputable def ee7(a:List Val):Val:= .vb (bP (ee5 a))
def ee8(a:List Val):Val:= .vb (isVi (bV a 0)&&(isVi (bV a 1)&&(isVi (bV a 2)&&(isVi (bV a 3)&&opsOk (bV a 4)))))
noncomputable def eL(X:Nat->List Val->Val)(a b c d:Val)(ops:List Val):Nat->Int×Val×List Val
 |0=>(0,.vl [],[])
 |i+1=>(if(eL X a b c d ops i).1=0 then dD (iO a b c d (eL X a b c d ops i).2.1 (bW ops i))else(eL X a b c d ops i).1,fN X (iO a b c d (eL X a b c d ops i).2.1 (bW ops i)),if dD (iO a b c d (eL X a b c d ops i).2.1 (bW ops i))≠0 then(eL X a b c d ops i).2.2 else(eL X a b c d ops i).2.2++[El (bW ops i)])
noncomputable def nu(X:Nat->List Val->Val)(a b c d:Val)(ops:List Val)(i:Nat):List Val:=[.vb false,.vi (eL X a b c d ops i).2.2.length,.vi (eL X a b c d ops i).1,.vi i,(eL X a b c d ops i).2.1,.vl (eL X a b c d ops i).2.2]
noncomputable def ee9(X:Nat->List Val->Val)(a:List Val):Val:=cr (0,nu X (bV a 10) (bV a 11) (bV a 12) (bV a 13) (bV a 8).toL (bV a 8).toL.length)
def mR(L:List Val)(p:PaneM):Bool:=L.any λr=>decide (Z2 r=p)
def ef0(X:Nat->List Val->Val)(a:List Val):Val:=cr (0,[.vb (mR (X 490 [bV a 17]).toL ⟨(bV a 10).toS,(bV a 11).toI,(bV a 12).toI⟩),.vi (X 490 [bV a 17]).toL.length])
noncomputable def Ua(X:Nat->List Val->Val)(a:List Val):Val:=if(bV a 1).toI=2 then(if(bV a 5).toL.length=0 then cr (0,[.vi 0,.vi 2,.vi 0])else cr (1,[.vi 2,.vi 2,.vi 0]))else cr (Ez X (bV a 4) (bV a 5) (bV a 6) (bV a 7) (bV a 11).toL)
noncomputable def FQ(X:Nat->List Val->Val):Nat->List Val->Val:=λi a=>match i with
 |771=>Ua X a
 |900=>Og a
 |903=>Ac X a
 |904=>GJ X a
 |905=>Tg a
 |906=>ee6 a
 |907=>ee7 a
 |908=>ee8 a
 |920=>e84 a
 |921=>e85 a
 |922=>IN a
 |923=>e86 a
 |924=>ZZ a
 |925=>ee3 a
 |926=>ee4 a
 |927=>ee9 X a
 |928=>ef0 X a
 |_=>FE X i a
theorem e01{X:Nat->List Val->Val}(h:XOk X):XOk (FQ X):=⟨h.x431,h.x491,h.x490,h.x490u,h.x3⟩
end Go.Ev.S9
