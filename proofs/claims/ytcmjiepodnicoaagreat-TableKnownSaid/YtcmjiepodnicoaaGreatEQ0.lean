import Derived.Test.YtcmjiepodnicoaaGreatEP21
set_option linter.unusedSimpArgs false
set_option linter.unusedVariables false
namespace Go.Ev.S9
open Go Go.Ev
def JB:SX:= .app 923 [zL cu,aM,cu,aM,zl 0,aN]
def Kl:SX:= zo JB 2
def XJ:VT:= .ite (zs aR (zl 0)) (.need (zp aR) (.need (zn (cJ aV (zl 2002)) (zb (zL (zc aW (.op .row [zv 0 2001]))) 1000000)) (.ret 0 [zL (zc aW (.op .row [zv 0 2001])),zi aR,zc aW (.op .row [zv 0 2001])]))) (.ret 1 [aV,aR,aW])
def T_lrows:VT:= .loop ⟨923,[zL cu,aM,cu],2000,[aM,zl 0,aN]⟩ XJ [.need (cJ (zo JB 0) (zL Kl)) (.ret 0 [Kl])]
def e77:VT:= .ite (zs aR (zl 0)) (.need (zp aR) (.need (zs aR (zl 1)) (.ite (dP (zn (.op (.scmp .eql) [zg 0 2001 0,zg 1 2001 0]) (zn (cJ (zg 0 2001 1) (zg 1 2001 1)) (cJ (zg 0 2001 2) (zg 1 2001 2))))) (.ret 2 [.cb false,aR]) (.ret 0 [aV,zi aR])))) (.ret 1 [aV,aR])
def T_samePanes:VT:= .ite (cZ (zl 0) (zl 1)) (.ret 0 [.cb false]) (.loop ⟨924,[.cb false,aM],2000,[aM,zl 0,aN,aM,zl 1,aO]⟩ e77 [.ret 0 [.cb true],.ret 0 [zo (.app 924 [.cb false,aM,aM,zl 0,aN,aM,zl 1,aO]) 0]])
def LU:SX:= .app 701 [be,bd,bf,bi]
def ul:SX:= zc aS (.op .row [.op .row [be,bd,bf,bi]])
def dE:SX:= .app 828 [aN,aO,aT,aU,aS]
def ef:SX:= .app 828 [aN,aO,aT,aU,ul]
def Ij:SX:= .app 920 [zL cu,aM,cu,zL dE,dE,zL ef,ef]
def wt:SX:= zo Ij 0
def sM:SX:= zo Ij 2
def HE:SX:= .app 921 [zL cu,aM,cu,zL dE,dE,zL ef,ef,wt,sM]
def MN:SX:= zo HE 2
def Y0:SX:= cJ aV (zl 2002)
def Y1:SX:= zc aW (.op .row [.op .row [cj dE aR 0,cj dE aR 1,cj dE aR 2]])
def Sn:VT:= .ite (zs aR (zL dE)) (.need (zp aR) (.need (zb (zL ef) 1000000) (.ite (dP (.app 827 [ef,cj dE aR 0,cj dE aR 1,cj dE aR 2])) (.need (zn Y0 (zb (zL Y1) 1000000)) (.ret 0 [zL Y1,zi aR,Y1])) (.ret 0 [aV,zi aR,aW])))) (.ret 1 [aV,aR,aW])
def Y2:SX:= zs aR (zL ef)
def xO:VT:= .ite (zs bg (zL dE)) (.ite bu (.ret 0 [.cb true,zi bg]) (.need (zp bg) (.need (zn (zp aR) Y2) (.ret 0 [.op .ite [bu,.cb true,zn (zn (.op (.scmp .eql) [cj dE bg 0,cj ef aR 0]) (zn (cJ (cj dE bg 1) (cj ef aR 1)) (cJ (cj dE bg 2) (cj ef aR 2)))) (zn (cJ (cj dE bg 3) (cj ef aR 3)) (zn (cJ (cj dE bg 4) (cj ef aR 4)) (zn (cJ (cj dE bg 5) (cj ef aR 5)) (cJ (cj dE bg 6) (cj ef aR 6)))))],zi bg])))) (.ret 1 [bu,bg])
def Y3:SX:= zc aW (.op .row [.op .row [cj ef aR 0,cj ef aR 1,cj ef aR 2,cj ef aR 3,cj ef aR 4,cj ef aR 5,cj ef aR 6]])
def Qh:VT:= .ite Y2 (.loop ⟨922,[.cb false,aM],4000,[zL dE,dE,zL ef,ef,wt,sM,aV,aW,aR]⟩ xO [.ite (dP (zo (.app 922 [.cb false,aM,zL dE,dE,zL ef,ef,wt,sM,aV,aW,aR]) 0)) (.need (zp aR) (.need (zn Y0 (zb (zL Y3) 1000000)) (.ret 0 [zL Y3,zi aR,Y3]))) (.ret 0 [aV,zi aR,aW])]) (.ret 1 [aV,aR,aW])
def Y4:SX:= zb (zl 4) 1000000
def T_rTry:VT:= .ite (cZ LU aM) (.ret 0 [LU,cu,cu]) (.ite (cZ be aZ) (.ret 0 [bm,cu,cu]) (.need Y4 (.need (zb (zL ul) 1000000) (.need (zn (zb (zL ul) 100) (.app 840 [aN,aO,aT,aU,ul])) (.ite (dP (.app 829 [aN,aO,aT,aU,ul])) (.ret 0 [bJ,cu,cu]) (.need (zn (zb (zl 4) 100) (.app 840 [aN,aO,aT,aU,aS])) (.loop ⟨920,[zL cu,aM,cu],2000,[zL dE,dE,zL ef,ef]⟩ Sn [.loop ⟨921,[zL cu,aM,cu],2000,[zL dE,dE,zL ef,ef,wt,sM]⟩ Qh [.need (zn (cJ wt (zL sM)) (cJ (zo HE 0) (zL MN))) (.ret 0 [aM,sM,MN])]])))))))
def oW:SX:= zL (.app 490 [aS])
def iv:SX:= .app 828 [be,bd,bf,bi,bI]
def pi:SX:= zL (.app 726 [aS,bt])
def CZ:SX:= zo (.app 925 [.cb false,aM,.app 490 [aS],aN,aO,aT,aU,aS,bt,zL iv,iv,oW,.app 490 [aS],pi,.app 726 [aS,bt]]) 0
def Y5:SX:= .app 721 [aS,zg 4002 4001 0,zg 4002 4001 1,zg 4002 4001 2]
def Y6:SX:= .op .row [.cs [],aM,aM,aM,aM,aM,aM]
def wG:VT:= .ite (zs bg oW) (.need (zp bg) (.need (zs bg (zl 4002)) (.need Y4 (.ite (dP (.app 722 [aS,zg 4002 4001 0,zg 4002 4001 1,zg 4002 4001 2])) (.ret 2 [.cb false,bg,bn]) (.ite (dP (zn (cJ (cj Y5 aM 0) (zg 4002 4001 3)) (zn (cJ (cj Y5 aM 1) (zg 4002 4001 4)) (zn (cJ (cj Y5 aM 2) (zg 4002 4001 5)) (cJ (cj Y5 aM 3) (zg 4002 4001 6)))))) (.ret 2 [.cb false,bg,bn]) (.ret 0 [bu,zi bg,.op .lset [bn,bg,Y6]])))))) (.ret 1 [bu,bg,bn])
def vt:VT:= .ite (zs bu pi) (.need (zp bu) (.need (zs bu (zl 4001)) (.ret 0 [zi bu,.op .lset [bg,bu,Y6]]))) (.ret 1 [bu,bg])
def T_is:VT:= .need (zn (zb (zl 9) 100) (.app 840 [be,bd,bf,bi,bI])) (.ite (dP (.app 829 [be,bd,bf,bi,bI])) (.ret 0 [.cb false]) (.need (zn (zn (zb (zl 4) 400) (.app 431 [aS])) (.app 491 [aS])) (.ite (cZ oW (zL iv)) (.ret 0 [.cb false]) (.need (zn (zb oW 400) (.app 431 [.app 490 [aS]])) (.need (zb oW 1000000) (.ite (dP (.app 3 [.app 490 [aS],iv])) (.ret 0 [.cb false]) (.need (zn (zb pi 400) (.app 431 [.app 726 [aS,bt]])) (.need (zn (zb (zL iv) 400) (.app 431 [iv])) (.need (zb pi 1000000) (.ite (dP (.app 3 [.app 726 [aS,bt],.app 832 [iv,bt]])) (.ret 0 [.cb false]) (.loop ⟨925,[.cb false,aM,.app 490 [aS]],4000,[aN,aO,aT,aU,aS,bt,zL iv,iv,oW,.app 490 [aS],pi,.app 726 [aS,bt]]⟩ wG [.loop ⟨926,[aM,.app 726 [aS,bt]],4000,[aN,aO,aT,aU,aS,bt,zL iv,iv,pi,.app 726 [aS,bt]]⟩ vt [.loop ⟨925,[CZ,aM,.app 490 [aS]],4000,[aN,aO,aT,aU,aS,bt,zL iv,iv,oW,.app 490 [aS],pi,.app 726 [aS,bt]]⟩ wG [.loop ⟨926,[aM,.app 726 [aS,bt]],4000,[aN,aO,aT,aU,aS,bt,zL iv,iv,pi,.app 726 [aS,bt]]⟩ vt [.ret 0 [.cb true]],.ret 0 [zo (.app 925 [CZ,aM,.app 490 [aS],aN,aO,aT,aU,aS,bt,zL iv,iv,oW,.app 490 [aS],pi,.app 726 [aS,bt]]) 0]]],.ret 0 [CZ]])))))))))))
def HN:SX:= .app 771 [aM,bm,aM,aM,zl 4,aS,zl 4]
def Md:SX:= zo HN 1
def HJ:SX:= ze Md 2
def GM:SX:= ze (zo HN 0) 2
def rV:SX:= .app 927 [.cb false,zL cu,aM,aM,cu,cu,aM,zl 4,aS,be,aN,aO,aT,aU,bd,bf,bi,aN,aO,aT,aU,cu]
def gU:SX:= zo rV 4
def qT:SX:= zo rV 1
def vd:SX:= zo rV 5
def wS:SX:= zo rV 2
def Ar:SX:= .app 722 [gU,bd,bf,bi]
def vQ:SX:= .app 771 [aM,aM,aM,cu,aN,aO,aT,aU,cu,aM,zl 4,aS,zl 4]
def FU:SX:= zo vQ 1
def Eh:SX:= zn (zp qT) (fO qT (zL vd))
def CK:SX:= .op .lsub [vd,aM,qT]
def Mu:SX:= zb (zL CK) 100
def KB:SX:= .app 907 [aN,aO,aT,aU,gU,aN,aO,aT,aU,CK,be]
def cy2:SX:= zn Mu KB
def Tw:SX:= zn Eh cy2
def oC:SX:= .op .beq [Ar,zo (.app 928 [.cb false,aM,aM,zl 4,aS,be,aN,aO,aT,aU,bd,bf,bi,aN,aO,aT,aU,gU,qT,vd,wS,Ar]) 0]
def IP:SX:= zo vQ 0
def Kr:SX:= ze IP 0
def Y7:SX:= zs aW (zl 4)
def Co:VT:= .ite Y7 (.need (zp aW) (.ite (cZ aR aM) (.ret 2 [aR,aR,aW]) (.ret 0 [aV,aZ,zi aW]))) (.ret 1 [aV,aR,aW])
def Y8:SX:= .app 701 [zg 4 2003 0,zg 4 2003 1,zg 4 2003 2,zg 4 2003 3]
def Y9:SX:= .app 732 [aN,aO,aT,aU,bp,zg 4 2003 0,zg 4 2003 1,zg 4 2003 2,zg 4 2003 3]
def Y10:SX:= cZ Y9 (.app 905 [aN,aO,aT,aU,.op .lsub [bq,aM,aR],zg 4 2003 0,zg 4 2003 1,zg 4 2003 2,zg 4 2003 3])
def Ea:SX:= .app 730 [aN,aO,aT,aU,bp,zg 4 2003 0,zg 4 2003 1,zg 4 2003 2,zg 4 2003 3]
def Y12:SX:= dP (.app 900 [Ea,.app 903 [aN,aO,aT,aU,.op .lsub [bq,aM,aR],zg 4 2003 0,zg 4 2003 1,zg 4 2003 2,zg 4 2003 3]])
def qU:SX:= .app 731 [aN,aO,aT,aU,bp,zg 4 2003 0,zg 4 2003 1,zg 4 2003 2,zg 4 2003 3]
def Y14:SX:= zn (zb (zL qU) 400) (.app 431 [qU])
def Y15:SX:= zb (zL qU) 1000000
def Y16:SX:= dP (.app 3 [qU,.app 904 [aN,aO,aT,aU,.op .lsub [bq,aM,aR],zg 4 2003 0,zg 4 2003 1,zg 4 2003 2,zg 4 2003 3]])
def Y17:SX:= .app 907 [aN,aO,aT,aU,bp,aN,aO,aT,aU,.op .lsub [bq,aM,aR],be]
def Ce:SX:= .app 733 [aN,aO,aT,aU,bp,zg 4 2003 0,zg 4 2003 1,zg 4 2003 2,zg 4 2003 3]
def pt:SX:= zc bq (.op .row [.op .row [zg 4 2003 0,zg 4 2003 1,zg 4 2003 2,zg 4 2003 3]])
def AE(h n r:SX):VT:= .ite Y10 (.ret 2 [.cb false,aR,aW,bj,bp,bq]) (.need (zb (zL Ea) 400) (.ite Y12 (.ret 2 [.cb false,aR,aW,bj,bp,bq]) (.need Y14 (.need Y15 (.ite Y16 (.ret 2 [.cb false,aR,aW,bj,bp,bq]) (.need Y17 (.ite (cZ Y9 h) (.ret 2 [.cb false,aR,aW,bj,Ce,bq]) (.ite (ze aW 0) (.ret 0 [aV,n,h,zi bj,Ce,r]) (.ret 0 [aV,n,aW,zi bj,Ce,r])))))))))
def Dz:VT:= .ite (zs bj (zl 4)) (.need (zp bj) (.need (zn (zn (zn (zb (zl 2004) 400) (.app 431 [bp])) (.app 491 [bp])) (.app 739 [aN,bp,zg 4 2003 1])) (.need (zn (zn (zp aR) (fO aR (zl 2005))) (zn (zb (zL (.op .lsub [bq,aM,aR])) 100) (.app 906 [aN,aO,aT,aU,.op .lsub [bq,aM,aR],zg 4 2003 0,zg 4 2003 1,zg 4 2003 2,zg 4 2003 3]))) (.ite (cZ Y8 aM) (AE Y8 aR bq) (.ite (cZ (zg 4 2003 0) aZ) (AE bm aR bq) (.need (zn (cJ aR (zl 2005)) (zb (zl 2005) 1000000)) (.need (zb (zL pt) 1000000) (.need (zn (zb (zL pt) 100) (.app 840 [aN,aO,aT,aU,pt])) (.ite (dP (.app 829 [aN,aO,aT,aU,pt])) (AE bJ aR bq) (AE aM (zL pt) pt)))))))))) (.ret 1 [aV,aR,aW,bj,bp,bq])
def BQ:VT:= .need (zn (zn (zb (zL gU) 400) (.app 431 [gU])) (.app 491 [gU])) (.ite (zs aR (zL (.app 490 [gU]))) (.ite aV (.ret 0 [.cb true,zi aR]) (.need (zp aR) (.ret 0 [.op .ite [aV,.cb true,zn (.op (.scmp .eql) [cj (.app 490 [gU]) aR 0,bd]) (zn (cJ (cj (.app 490 [gU]) aR 1) bf) (cJ (cj (.app 490 [gU]) aR 2) bi))],zi aR]))) (.ret 1 [aV,aR]))
def xn:VT:= .ite Y7 (.need (zp aW) (.ite (cZ aR aM) (.ret 2 [aR,aR,aW,bj]) (.need (zn (zn (zn (zb (zl 2003) 400) (.app 431 [bj])) (.app 491 [bj])) (.app 739 [aN,bj,zg 4 2002 1])) (.ret 0 [aV,.app 732 [aN,aO,aT,aU,bj,zg 4 2002 0,zg 4 2002 1,zg 4 2002 2,zg 4 2002 3],zi aW,.app 733 [aN,aO,aT,aU,bj,zg 4 2002 0,zg 4 2002 1,zg 4 2002 2,zg 4 2002 3]])))) (.ret 1 [aV,aR,aW,bj])
def T_puts:VT:= .ite (dP (.app 734 [aS,bQ])) (.ret 0 [.cb true]) (.ite (zt (.op .slen [bd]) 50) (.ret 0 [.cb true]) (.ite (dP (.app 700 [aN,aO,aT,aU])) (.loop ⟨771,[aM,bm,aM],2000,[aM,zl 4,aS,zl 4]⟩ Co [.ite (cZ Md aM) (.ite HJ (.ret 0 [HJ]) (.ret 0 [.cb false])) (.ret 0 [.cb false]),.ite GM (.ret 0 [GM]) (.ret 0 [.cb false])]) (.loop ⟨927,[.cb false,zL cu,aM,aM,cu,cu],2000,[aM,zl 4,aS,be,aN,aO,aT,aU,bd,bf,bi,aN,aO,aT,aU,cu]⟩ Dz [.need (zb (zL gU) 1000000) (.loop ⟨928,[.cb false,aM],2000,[aM,zl 4,aS,be,aN,aO,aT,aU,bd,bf,bi,aN,aO,aT,aU,gU,qT,vd,wS,Ar]⟩ BQ [.loop ⟨771,[aM,aM,aM,cu],2000,[aN,aO,aT,aU,cu,aM,zl 4,aS,zl 4]⟩ xn [.ite (cZ FU aM) (.ite (cZ FU wS) (.ret 0 [.cb false]) (.ite (dP (.op .beq [ze FU 0,.cb false])) (.ret 0 [.cb false]) (.need Tw (.ite oC (.ret 0 [oC]) (.ret 0 [.cb false]))))) (.ite (cZ aM wS) (.ret 0 [.cb false]) (.need (zn Eh (zn Mu (.app 907 [aN,aO,aT,aU,zo vQ 3,aN,aO,aT,aU,CK,be]))) (.need KB (.ite oC (.ret 0 [oC]) (.ret 0 [.cb false]))))),.ite (cZ IP wS) (.ret 0 [.cb false]) (.ite (dP (.op .beq [Kr,.cb false])) (.ret 0 [.cb false]) (.ite Kr (.need (zn Eh (.cb false)) (.need cy2 (.ite oC (.ret 0 [oC]) (.ret 0 [.cb false])))) (.need Tw (.ite oC (.ret 0 [oC]) (.ret 0 [.cb false])))))]]),.ret 0 [zo rV 0]])))
def qn(L L':List Val):List Val:=L.filter λr=> !L'.any λy=>decide (Z6 y=Z6 r)
def lZ(L L':List Val):List Val:=L'.filter λr=> !L.any λy=>decide (fJ y=fJ r)
def gJ(was:List Val)(y:Val):Bool:=was.any λr=>decide (fJ r=fJ y)
def xo(a:List Val):Val:= .vl [ce a 5,ce a 6,ce a 7,ce a 8]
def lv(a:List Val):Int:=if dH (ce a 5).toI (ce a 6).toS (ce a 7).toI (ce a 8).toI≠0 then dH (ce a 5).toI (ce a 6).toS (ce a 7).toI (ce a 8).toI else if(ce a 5).toI≠1 then 2 else if gg (ce a 0).toI (ce a 1).toI (ce a 2).toI (ce a 3).toI ((ce a 4).toL++[xo a])=true then 0 else 30
def lQ(X:Nat->List Val->Val)(a:List Val):List Val:=(oL X [ce a 0,ce a 1,ce a 2,ce a 3,ce a 4]).toL
def lC(X:Nat->List Val->Val)(a:List Val):List Val:=(oL X [ce a 0,ce a 1,ce a 2,ce a 3,.vl ((ce a 4).toL++[xo a])]).toL
def PW(a:List Val):Val:= .vi (lv a)
def zX(X:Nat->List Val->Val)(a:List Val):Val:= .vl (if lv a=0 then(qn (lQ X a) (lC X a)).map eP else [])
def FX(X:Nat->List Val->Val)(a:List Val):Val:= .vl (if lv a=0 then(lZ (lQ X a) (lC X a)).map cQ else [])
def Wr(a:List Val):Val:=mP ((qn (ce a 4).toL (ce a 6).toL).map eP) (ce a 4).toL.length
def e79(a:List Val):Val:=mP ((lZ (ce a 4).toL (ce a 6).toL).map cQ) (ce a 6).toL.length
def JL(a:List Val):Val:=cA (0,[.vb (gJ (ce a 3).toL (cg (ce a 5).toL (ce a 10).toI.toNat)),.vi (ce a 3).toL.length])
def YI(a:List Val):Val:=mP (cB (λi=>[cQ (cg (ce a 5).toL i)]) (ce a 5).toL.length) (ce a 5).toL.length
def Vx(a:List Val):Val:= .vb (decide ((ce a 0).toL.map Z6=(ce a 1).toL.map Z6))
def ue(a b:List Val)(i:Nat):Bool:= !decide (Z6 (cg a i)=Z6 (cg b i))
def WU(a:List Val):Val:=cA (gZ (.vb false) (λk=>[.vb false,.vi k]) (ue (ce a 4).toL (ce a 7).toL) (ce a 4).toL.length)
def Il:Val:= .vl [.vs [],.vi 0,.vi 0,.vi 0,.vi 0,.vi 0,.vi 0]
def ew(L:List Val):Nat->List Val
 |0=>L
 |i+1=>(ew L i).set i Il
def ed1(a:List Val):Val:=cA (0,[ce a 0,.vi (ce a 2).toL.length,.vl (ew (ce a 2).toL (ce a 2).toL.length)])
def ed2(a:List Val):Val:=cA (0,[.vi (ce a 1).toL.length,.vl (ew (ce a 1).toL (ce a 1).toL.length)])
structure TBL (k s w g:Int) (evs:List dG) (m:List Val):Prop where
 R:cV k s w g=true
 T:TOK (eH k s w g) evs m
 tm:fT evs
 va:qL evs
 ln:evs.length<=24
def ed3(a:List Val):Prop:= ∃k s w g evs m,ce a 5= .vi k/\ce a 6= .vi s/\ce a 7= .vi w/\ce a 8= .vi g/\ce a 4= .vl m/\ce a 9= .vl (evs.map cw)/\TBL k s w g evs m
def Za(a:List Val):Prop:= ∃k s w g evs m ek ks t v,ce a 0= .vi k/\ce a 1= .vi s/\ce a 2= .vi w/\ce a 3= .vi g/\ce a 4= .vl (evs.map cw)/\ce a 5= .vi ek/\ce a 6= .vs ks/\ce a 7= .vi t/\ce a 8= .vi v/\cP v/\TBL k s w g evs m/\evs.length<24
noncomputable def bP(p:Prop):Bool:= @decide p (Classical.propDecidable p)
theorem Gr{p:Prop}:bP p=true↔p:= @decide_eq_true_iff p (Classical.propDecidable p)
noncomputable def ed4(a:List Val):Val:= .vb (bP (Za a))
noncomputable def ed5(a:List Val):Val:= .vb (bP (ed3 a))
def Hi(a:List Val):Val:= .vb (ed (ce a 0)&&(ed (ce a 1)&&(ed (ce a 2)&&(ed (ce a 3)&&wX (ce a 4)))))
noncomputable def fh(X:Nat->List Val->Val)(a b c d:Val)(ops:List Val):Nat->Int×Val×List Val
 |0=>(0,.vl [],[])
 |i+1=>(if(fh X a b c d ops i).1=0 then dC (gk a b c d (fh X a b c d ops i).2.1 (cg ops i))else(fh X a b c d ops i).1,eQ X (gk a b c d (fh X a b c d ops i).2.1 (cg ops i)),if dC (gk a b c d (fh X a b c d ops i).2.1 (cg ops i))≠0 then(fh X a b c d ops i).2.2 else(fh X a b c d ops i).2.2++[lq (cg ops i)])
noncomputable def nA(X:Nat->List Val->Val)(a b c d:Val)(ops:List Val)(i:Nat):List Val:=[.vb false,.vi (fh X a b c d ops i).2.2.length,.vi (fh X a b c d ops i).1,.vi i,(fh X a b c d ops i).2.1,.vl (fh X a b c d ops i).2.2]
noncomputable def ed6(X:Nat->List Val->Val)(a:List Val):Val:=cA (0,nA X (ce a 10) (ce a 11) (ce a 12) (ce a 13) (ce a 8).toL (ce a 8).toL.length)
def nX(L:List Val)(p:PaneM):Bool:=L.any λr=>decide (Z6 r=p)
def ed7(X:Nat->List Val->Val)(a:List Val):Val:=cA (0,[.vb (nX (X 490 [ce a 17]).toL ⟨(ce a 10).toS,(ce a 11).toI,(ce a 12).toI⟩),.vi (X 490 [ce a 17]).toL.length])
noncomputable def GQ(X:Nat->List Val->Val)(a:List Val):Val:=if(ce a 1).toI=2 then(if(ce a 5).toL.length=0 then cA (0,[.vi 0,.vi 2,.vi 0])else cA (1,[.vi 2,.vi 2,.vi 0]))else cA (qX X (ce a 4) (ce a 5) (ce a 6) (ce a 7) (ce a 11).toL)
def kk(n:Nat):Nat->Nat
 |0=>n
 |i+1=>kk n i*5/3+7*i
def dD6:List Val:=[.vl [.vs [97]],.vl [.vs [97]],.vl [.vs [98]]]
def Ys:List Val:=[.vl [.vi 5],.vl [.vi (-2)],.vl [.vi 9223372036854775805],.vl [.vi 4],.vl [.vi (-4611686018427387904)]]
def wW(k i:Nat):Val:= .vl [.vi 1,Z7 (cg dD6 ((k+i) % 3)) 0,.vi (((k % 12*3:Nat):Int)-9),Z7 (cg Ys ((k/3+i) % 5)) 0]
def nW(n:Nat):Nat->List Val
 |0=>[]
 |i+1=>nW n i++[wW (kk n i) i]
def og(n i:Nat):List Val:=[.vi i,.vi (kk n i),.vi i,.vl (nW n i)]
def Xx(a:List Val):Val:=cA (0,[.vb false,.vi 144])
def SU(a:List Val):Val:=cA (0,og (ce a 1).toI.toNat 4)
noncomputable def FQ(X:Nat->List Val->Val):Nat->List Val->Val:=λi a=>match i with
 |771=>GQ X a
 |900=>Vx a
 |903=>zX X a
 |904=>FX X a
 |905=>PW a
 |906=>ed4 a
 |907=>ed5 a
 |908=>Hi a
 |920=>Wr a
 |921=>e79 a
 |922=>JL a
 |923=>YI a
 |924=>WU a
 |925=>ed1 a
 |926=>ed2 a
 |927=>ed6 X a
 |928=>ed7 X a
 |970=>Xx a
 |971=>SU a
 |_=>FE X i a
theorem dX6{X:Nat->List Val->Val}(h:XOk X):XOk (FQ X):=⟨h.x431,h.x491,h.x490,h.x490u,h.x3⟩
end Go.Ev.S9
