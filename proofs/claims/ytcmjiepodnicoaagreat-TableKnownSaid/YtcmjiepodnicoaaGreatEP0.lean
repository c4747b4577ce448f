import Derived.Test.YtcmjiepodnicoaaGreatEL19
set_option linter.unusedSimpArgs false
set_option linter.unusedVariables false
namespace Go.Ev.S9
open Go Go.Ev
def QE:SX:= gY aO aZ
def Ud:SX:= zb aO 1048576
def UZ:SX:= ze aT 0
def Qu:SX:= ze aU 0
def T_rRight:VT:= .ite (ze aN 1) (.ite (QE) (.ite (Ud) (.ite (UZ) (.ret 0 [Qu]) (.ret 0 [.cb false])) (.ret 0 [.cb false])) (.ret 0 [.cb false])) (.ite (ze aN 2) (.ite (QE) (.ite (Ud) (.ite (gY aT aZ) (.ite (zb aT 1048576) (.ite (Qu) (.need (cZ aT aM) (.ite (ze (.op (.ar .rem .i64) [aO,aT]) 0) (.ret 0 [zb (.op (.ar .quo .i64) [aO,aT]) 16]) (.ret 0 [.cb false]))) (.ret 0 [.cb false])) (.ret 0 [.cb false])) (.ret 0 [.cb false])) (.ret 0 [.cb false])) (.ret 0 [.cb false])) (.ite (ze aN 3) (.ite (gY aU aZ) (.ite (zb aU 1048576) (.ite (ze aO 0) (.ret 0 [UZ]) (.ret 0 [.cb false])) (.ret 0 [.cb false])) (.ret 0 [.cb false])) (.ret 0 [.cb false])))
def UO:SX:= ze aN 2
def OW:SX:= .op (.scmp .neq) [aO,.cs []]
def OV:SX:= cZ aU aM
def Hz:SX:= zs aT (.ci (-1099511627776))
def In:SX:= zt aT 1099511627776
def T_rev:VT:= .ite (cZ aN aZ) (.ite (cZ aN bm) (.ret 0 [.ci 80]) (.ite (UO) (.ite (OW) (.ret 0 [bK]) (.ite (OV) (.ret 0 [bK]) (.ite (Hz) (.ret 0 [bG]) (.ite (In) (.ret 0 [bG]) (.ret 0 [aM]))))) (.ite (Hz) (.ret 0 [bG]) (.ite (In) (.ret 0 [bG]) (.ret 0 [aM]))))) (.ite (zs (.op .slen [aO]) aZ) (.ret 0 [bK]) (.ite (zt (.op .slen [aO]) 32) (.ret 0 [bK]) (.ite (UO) (.ite (OW) (.ret 0 [bK]) (.ite (OV) (.ret 0 [bK]) (.ite (Hz) (.ret 0 [bG]) (.ite (In) (.ret 0 [bG]) (.ret 0 [aM]))))) (.ite (Hz) (.ret 0 [bG]) (.ite (In) (.ret 0 [bG]) (.ret 0 [aM]))))))
def cX5:SX:= .op (.ar .and .i64) [aN,bR]
def WS:SX:= za (.op (.ar .shr .i64) [aN,bL]) (.op (.ar .shr .i64) [cX5,bL])
def cX7:SX:= za aM (.op (.ar .shr .i64) [WS,bL])
def T_r3of:VT:= .ret 0 [.op (.ar .and .i64) [cX5,bR],.op (.ar .and .i64) [WS,bR],.op (.ar .and .i64) [cX7,bR],za aM (.op (.ar .shr .i64) [cX7,bL])]
def bX8:SX:= za aN aS
def bX9:SX:= za (za aO be) (.op (.ar .shr .i64) [bX8,bL])
def bY0:SX:= za (za aT bd) (.op (.ar .shr .i64) [bX9,bL])
def T_r3plus:VT:= .ret 0 [.op (.ar .and .i64) [bX8,bR],.op (.ar .and .i64) [bX9,bR],.op (.ar .and .i64) [bY0,bR],za (za aU bf) (.op (.ar .shr .i64) [bY0,bL])]
def lH:SX:= .op (.ar .or .i64) [.op (.ar .shl .i64) [aO,bL],aN]
def T_r3fit:VT:= .ite (dP (zn (cJ (cj (.app 810 [lH]) aM 0) aN) (zn (cJ (cj (.app 810 [lH]) aM 1) aO) (zn (cJ (cj (.app 810 [lH]) aM 2) aT) (cJ (cj (.app 810 [lH]) aM 3) aU))))) (.ret 0 [aM,.cb false]) (.ret 0 [lH,.cb true])
def tz:SX:= .app 850 [aM,aM,aM,aM,aM,aM,zl 0,aN]
def wY:SX:= zo tz 1
def vV:SX:= zo tz 2
def wO:SX:= zo tz 3
def vw:SX:= zo tz 4
def XP:VT:= .ite (zs aV (zl 0)) (.need (zp aV) (.ret 0 [zi aV,cj (.app 811 [aR,aW,bj,bp,cj (.app 810 [zg 0 2000 0]) aM 0,cj (.app 810 [zg 0 2000 0]) aM 1,cj (.app 810 [zg 0 2000 0]) aM 2,cj (.app 810 [zg 0 2000 0]) aM 3]) aM 0,cj (.app 811 [aR,aW,bj,bp,cj (.app 810 [zg 0 2000 0]) aM 0,cj (.app 810 [zg 0 2000 0]) aM 1,cj (.app 810 [zg 0 2000 0]) aM 2,cj (.app 810 [zg 0 2000 0]) aM 3]) aM 1,cj (.app 811 [aR,aW,bj,bp,cj (.app 810 [zg 0 2000 0]) aM 0,cj (.app 810 [zg 0 2000 0]) aM 1,cj (.app 810 [zg 0 2000 0]) aM 2,cj (.app 810 [zg 0 2000 0]) aM 3]) aM 2,cj (.app 811 [aR,aW,bj,bp,cj (.app 810 [zg 0 2000 0]) aM 0,cj (.app 810 [zg 0 2000 0]) aM 1,cj (.app 810 [zg 0 2000 0]) aM 2,cj (.app 810 [zg 0 2000 0]) aM 3]) aM 3])) (.ret 1 [aV,aR,aW,bj,bp])
def T_r3Sum:VT:= .loop ⟨850,[aM,aM,aM,aM,aM],2000,[aM,zl 0,aN]⟩ XP [.ite (dP (.app 813 [wY,vV,wO,vw])) (.ret 0 [aM,bJ]) (.ret 0 [.app 812 [wY,vV,wO,vw],aM])]
def Fv:SX:= .app 851 [aM,aM,aM,aM,aM,aM,aM,aM,aM,aM,zl 0,aN,.app 842 [aN]]
def Iq:VT:= .ite (zs aV (zl 0)) (.ite (ze aV 0) (.need (zp aV) (.ret 0 [zi aV,aR,aW,bj,bp,bq,bv,zg 0 2000 0,zg 0 2000 0])) (.need (zp aV) (.ite (zs (zg 0 2000 0) bB) (.ite (fV (zg 0 2000 0) bw) (.ret 0 [zi aV,aR,aW,bj,bp,bq,bv,zg 0 2000 0,zg 0 2000 0]) (.ret 0 [zi aV,aR,aW,bj,bp,bq,bv,zg 0 2000 0,bw])) (.ite (fV (zg 0 2000 0) bw) (.ret 0 [zi aV,aR,aW,bj,bp,bq,bv,bB,zg 0 2000 0]) (.ret 0 [zi aV,aR,aW,bj,bp,bq,bv,bB,bw]))))) (.ret 1 [aV,aR,aW,bj,bp,bq,bv,bB,bw])
def T_rAll:VT:= .need (zb (zl 0) 100) (.ite (cZ (.app 843 [aN]) aM) (.ret 0 [aM,aM,aM,aM,.app 843 [aN]]) (.loop ⟨851,[aM,aM,aM,aM,aM,aM,aM,aM,aM],2000,[aM,zl 0,aN,.app 842 [aN]]⟩ Iq [.ret 0 [zl 0,.app 842 [aN],zo Fv 7,zo Fv 8,aM]]))
def Xf:SX:= .op (.ar .mul .i64) [zm (zm (.op (.ar .quo .i64) [aS,aT]) (.op (.ar .quo .i64) [aO,aT])) aZ,aT]
def dA8:SX:= .app 853 [zL cu,Xf,cu,aS,aN,aO,aT,aU]
def dA9:SX:= zo dA8 2
def Wy:SX:= .op (.ar .mul .i64) [zm (zm (.op (.ar .quo .i64) [aS,aO]) (.op (.ar .quo .i64) [aO,aO])) aZ,aO]
def dB1:SX:= .app 853 [zL cu,Wy,cu,aS,aN,aO,aT,aU]
def Zk:SX:= zo dB1 2
def FF:VT:= .ite (fO aR aS) (.ite (zs aS (za aR aO)) (.need (zn (cJ aV (zl 2002)) (zb (zL (zc aW (.op .row [.op .row [aR,za aR aO]]))) 1000000)) (.ite (ze aN 2) (.ret 0 [zL (zc aW (.op .row [.op .row [aR,za aR aO]])),za aR aT,zc aW (.op .row [.op .row [aR,za aR aO]])]) (.ret 0 [zL (zc aW (.op .row [.op .row [aR,za aR aO]])),za aR aO,zc aW (.op .row [.op .row [aR,za aR aO]])]))) (.ite (ze aN 2) (.ret 0 [aV,za aR aT,aW]) (.ret 0 [aV,za aR aO,aW]))) (.ret 1 [aV,aR,aW])
def T_rOf:VT:= .ite (dP (.app 700 [aN,aO,aT,aU])) (.ret 0 [cu]) (.ite (zs aS (.ci (-1099511627776))) (.ret 0 [cu]) (.ite (zt aS 1099511627776) (.ret 0 [cu]) (.ite (ze aN 3) (.ret 0 [.op .row [.op .row [aS,za aS aU]]]) (.ite (ze aN 2) (.need (cZ aT aM) (.loop ⟨853,[zL cu,Xf,cu],2000,[aS,aN,aO,aT,aU]⟩ FF [.need (cJ (zo dA8 0) (zL dA9)) (.ret 0 [dA9])])) (.need (cZ aO aM) (.loop ⟨853,[zL cu,Wy,cu],2000,[aS,aN,aO,aT,aU]⟩ FF [.need (cJ (zo dB1 0) (zL Zk)) (.ret 0 [Zk])]))))))
def lD:SX:= .app 860 [aM,zL cu,aM,cu,aN,aM,zl 1,aO]
def sy:SX:= zo lD 3
def uY:SX:= .app 854 [zL sy,.cb true,sy]
def oV:SX:= zo uY 0
def nq:SX:= zo uY 2
def CA:SX:= .app 855 [zL cu,aM,cu,oV,nq]
def JK:SX:= zo CA 2
def X0:SX:= cJ aR (zl 2003)
def X1:SX:= zc bj (.op .row [.op .row [zg 1 2002 0,za (zg 1 2002 0) aN]])
def TE:VT:= .ite (zs aW (zl 1)) (.need (zp aW) (.ite (gY (zg 1 2002 0) (.ci (-1099511627776))) (.ite (dP (zb (zg 1 2002 0) 1099511627776)) (.ret 2 [bm,aR,aW,bj]) (.need (zn X0 (zb (zL X1) 1000000)) (.ret 0 [aV,zL X1,zi aW,X1]))) (.ret 2 [bm,aR,aW,bj]))) (.ret 1 [aV,aR,aW,bj])
def X2:SX:= cJ bH (zl 6002)
def X3:SX:= zc bD (.op .row [.op .row [zg 2002 6001 0,zg 2002 6001 1]])
def SL:VT:= .need (zp aV) (.ite (zs bz aV) (.ite (cZ bz bg) (.ite (cZ bz bE) (.need (zp bz) (.need (zs bz (zl 2002)) (.need (zn X2 (zb (zL X3) 1000000)) (.ret 0 [zL X3,zi bz,X3])))) (.ret 0 [bH,zi bz,bD])) (.ret 0 [bH,zi bz,bD])) (.ret 1 [bH,bz,bD]))
def X4:SX:= .op .row [.op .row [.op .imin [zg 2002 4001 0,zg 2002 5001 0],.op .imax [zg 2002 4001 1,zg 2002 5001 1]]]
def X5:SX:= .app 859 [zL X4,aM,X4,aV,aW,bg,bE]
def QM:VT:= .need (zp aV) (.ite (zs bE aV) (.need (zn (zp bg) (zs bg aV)) (.need (zs bg (zl 2002)) (.need (zp bE) (.need (zs bE (zl 2002)) (.ite (zs (zg 2002 4001 0) (zg 2002 5001 1)) (.ite (dP (zs (zg 2002 5001 0) (zg 2002 4001 1))) (.ret 0 [.va 5000,zi bE]) (.loop ⟨859,[zL X4,aM,X4],6000,[aV,aW,bg,bE]⟩ SL [.need (cJ (zo X5 0) (zL (zo X5 2))) (.ret 2 [zL (zo X5 2),.cb true,bE,zo X5 2])])) (.ret 0 [.va 5000,zi bE])))))) (.ret 1 [.va 5000,bE]))
def X6:SX:= .app 858 [bu,zi bg,aV,aW,bg]
def Ow:VT:= .need (zp aV) (.ite (zs bg aV) (.loop ⟨858,[bu,zi bg],5000,[aV,aW,bg]⟩ QM [.ret 0 [zo X6 0,zi bg],.need (cJ (zo X6 0) (zL (zo X6 3))) (.ret 2 [zL (zo X6 3),zo X6 1,bg,zo X6 3])]) (.ret 1 [bu,bg]))
def X7:SX:= .app 857 [.cb false,aM,aV,aW]
def FZ:VT:= .ite aR (.loop ⟨857,[.cb false,aM],4000,[aV,aW]⟩ Ow [.ret 0 [aV,.cb false,aW],.need (cJ (zo X7 0) (zL (zo X7 3))) (.ret 0 [zL (zo X7 3),zo X7 1,zo X7 3])]) (.ret 1 [aV,aR,aW])
def X8:SX:= zc aW (.op .row [.op .row [cj nq aR 0,cj nq aR 1]])
def X9:SX:= cj bc (zm aY aZ) 0
def Jk:SX:= .op .lset [bc,zm aY aZ,.op .row [zg 3001 3000 0,zg 3001 3000 1]]
def Rr:VT:= .ite (zt aY 0) (.need (zn (zp (zm aY aZ)) (zs (zm aY aZ) (zL X8))) (.need (zs (zm aY aZ) (zl 3001)) (.need (zn (zp aY) (zs aY (zL X8))) (.need (zs aY (zl 3001)) (.ite (fV X9 (zg 3001 3000 0)) (.need (zs aY (zL Jk)) (.ret 0 [zm aY aZ,.op .lset [Jk,aY,.op .row [X9,cj bc (zm aY aZ) 1]]])) (.ret 1 [aY,bc])))))) (.ret 1 [aY,bc])
def Nt:SX:= cJ aV (zl 2002)
def DC:SX:= zo (.app 856 [aR,X8,oV,nq,zL X8,X8,aR]) 1
def e54:VT:= .need (zp oV) (.ite (zs aR oV) (.need (zp aR) (.need (zs aR (zL nq)) (.need (zn Nt (zb (zL X8) 1000000)) (.loop ⟨856,[aR,X8],3000,[oV,nq,zL X8,X8,aR]⟩ Rr [.need (cJ (zL X8) (zL DC)) (.ret 0 [zL DC,zi aR,DC])])))) (.ret 1 [aV,aR,aW]))
def T_sOf:VT:= .ite (gY aN aZ) (.ite (dP (zb aN 1048576)) (.ret 0 [bm,cu]) (.loop ⟨860,[aM,zL cu,aM,cu],2000,[aN,aM,zl 1,aO]⟩ TE [.need (cJ (zo lD 1) (zL sy)) (.loop ⟨854,[zL sy,.cb true,sy],2000,[]⟩ FZ [.loop ⟨855,[zL cu,aM,cu],2000,[oV,nq]⟩ e54 [.need (cJ (zo CA 0) (zL JK)) (.ret 0 [aM,JK])]]),.ret 0 [zo lD 0,cu]])) (.ret 0 [bm,cu])
def Ue:VT:= .ite (zs aR (zl 0)) (.need (zp aR) (.ite (zn (.op (.scmp .eql) [zg 0 2001 0,aO]) (zn (cJ (zg 0 2001 1) aT) (cJ (zg 0 2001 2) aU))) (.ret 2 [.cb true,aR]) (.ret 0 [aV,zi aR]))) (.ret 1 [aV,aR])
def T_has:VT:= .loop ⟨864,[.cb false,aM],2000,[aM,zl 0,aN,aO,aT,aU]⟩ Ue [.ret 0 [.cb false],.ret 0 [zo (.app 864 [.cb false,aM,aM,zl 0,aN,aO,aT,aU]) 0]]
def uS:SX:= .app 861 [zL cu,aM,cu,aM,zl 4,aS,be,aN,aO,aT,aU]
def nl:SX:= zo uS 0
def nP:SX:= zo uS 2
def Be:SX:= .op .lsub [nP,aM,nl]
def ot:SX:= .app 824 [aU,Be]
def NO:SX:= .app 862 [zL cu,aM,cu,zL ot,ot]
def Mt:SX:= zo NO 2
def Ke:SX:= .app 863 [zL cu,aM,cu,aN,aO,aT,aU,nl,nP]
def Mw:SX:= zo Ke 2
def X13:SX:= zs aR (zl 4)
def RA:SX:= zc aW (.op .row [.op .row [zg 4 2001 2]])
def ea9:VT:= .ite X13 (.need (zp aR) (.ite (.op (.scmp .eql) [zg 4 2001 1,be]) (.need (zn Nt (zb (zL RA) 1000000)) (.ret 0 [zL RA,zi aR,RA])) (.ret 0 [aV,zi aR,aW]))) (.ret 1 [aV,aR,aW])
def QT:SX:= zc aW (.op .row [.op .row [cj ot aR 0,cj ot aR 1]])
def eb0:VT:= .ite (zs aR (zL ot)) (.need (zp aR) (.need (zn Nt (zb (zL QT) 1000000)) (.ret 0 [zL QT,zi aR,QT]))) (.ret 1 [aV,aR,aW])
def ye:SX:= zc aW (.app 704 [aN,aO,aT,aU,cj nP aR 0])
def OJ:VT:= .need (zp nl) (.ite (zs aR nl) (.need (zp aR) (.need (zs aR (zL nP)) (.need (zn Nt (zb (zL ye) 1000000)) (.ret 0 [zL ye,zi aR,ye])))) (.ret 1 [aV,aR,aW]))
def T_rSpans:VT:= .loop ⟨861,[zL cu,aM,cu],2000,[aM,zl 4,aS,be,aN,aO,aT,aU]⟩ ea9 [.ite (ze aN 3) (.need (zn (zn (zp nl) (fO nl (zL nP))) (zb (zL Be) 100)) (.loop ⟨862,[zL cu,aM,cu],2000,[zL ot,ot]⟩ eb0 [.need (cJ (zo NO 0) (zL Mt)) (.ret 0 [Mt])])) (.loop ⟨863,[zL cu,aM,cu],2000,[aN,aO,aT,aU,nl,nP]⟩ OJ [.need (cJ (zo Ke 0) (zL Mw)) (.ret 0 [Mw])])]
def uz:SX:= .app 865 [.cb false,zL cu,aM,cu,aM,zl 4,aS,aN,aO,aT,aU]
def GN:SX:= zo uz 1
def Ms:SX:= zo uz 3
def zJ:SX:= .op .lsub [Ms,aM,GN]
def ep:SX:= .app 826 [aN,aO,aT,aU,aS,zg 4 2002 1]
def AX:SX:= zc bD (.op .row [.op .row [zg 4 6001 3]])
def Kq:VT:= .ite (zs bz (zl 4)) (.need (zp bz) (.ite (.op (.scmp .eql) [zg 4 6001 1,zg 4 2002 1]) (.need (zn (zp bn) (zs bn (zL ep))) (.ite (gY (zg 4 6001 2) (cj ep bn 0)) (.ite (zs (zg 4 6001 2) (cj ep bn 1)) (.need (zn X2 (zb (zL AX) 1000000)) (.ret 0 [zL AX,zi bz,AX])) (.ret 0 [bH,zi bz,bD])) (.ret 0 [bH,zi bz,bD]))) (.ret 0 [bH,zi bz,bD]))) (.ret 1 [bH,bz,bD])
def X19:SX:= zs aW (zl 4)
def ph:SX:= .app 867 [zL cu,aM,cu,aM,zl 4,aS,aN,aO,aT,aU,bg,bF,aW,zL ep,ep,bn,zg 4 2002 1,cj ep bn 0,cj ep bn 1]
def mA:SX:= .op .lsub [zo ph 2,aM,zo ph 0]
def xg:SX:= zc bF (.op .row [.op .row [zg 4 2002 1,cj ep bn 0,cj ep bn 1,cj (.app 820 [mA]) aM 0,cj (.app 820 [mA]) aM 1,cj (.app 820 [mA]) aM 2,cj (.app 820 [mA]) aM 3]])
def RV:VT:= .ite (zs bn (zL ep)) (.need (zn (zp aW) X19) (.need (zp bn) (.need (zn (zn (zp bg) (fO bg (zl 4003))) (zb (zL (.op .lsub [bF,aM,bg])) 1000000)) (.ite (.app 827 [.op .lsub [bF,aM,bg],zg 4 2002 1,cj ep bn 0,cj ep bn 1]) (.ret 0 [bu,bg,zi bn,bF]) (.loop ⟨867,[zL cu,aM,cu],6000,[aM,zl 4,aS,aN,aO,aT,aU,bg,bF,aW,zL ep,ep,bn,zg 4 2002 1,cj ep bn 0,cj ep bn 1]⟩ Kq [.need (zn (zn (zp (zo ph 0)) (fO (zo ph 0) (zL (zo ph 2)))) (zb (zL mA) 100)) (.ite (cZ (.app 843 [mA]) aM) (.ret 2 [.cb false,bg,bn,bF]) (.need (zn (cJ bg (zl 4003)) (zb (zL xg) 1000000)) (.ret 0 [bu,zL xg,zi bn,xg])))]))))) (.ret 1 [bu,bg,bn,bF])
def fS:SX:= .app 866 [aV,zl 2003,aM,bj,aM,zl 4,aS,aN,aO,aT,aU,aW,zL ep,ep]
def X24:SX:= cJ (zo fS 1) (zL (zo fS 3))
def PI:VT:= .ite X19 (.need (zp aW) (.need (zb (zl 4) 100) (.need X0 (.loop ⟨866,[aV,zl 2003,aM,bj],4000,[aM,zl 4,aS,aN,aO,aT,aU,aW,zL ep,ep]⟩ RV [.need X24 (.ret 0 [zo fS 0,zL (zo fS 3),zi aW,zo fS 3]),.need X24 (.ret 2 [zo fS 0,zL (zo fS 3),aW,zo fS 3])])))) (.ret 1 [aV,aR,aW,bj])
def T_rRows:VT:= .loop ⟨865,[.cb false,zL cu,aM,cu],2000,[aM,zl 4,aS,aN,aO,aT,aU]⟩ PI [.need (zn (zn (zp GN) (fO GN (zL Ms))) (zn (zb (zL zJ) 400) (.app 431 [zJ]))) (.ret 0 [.cb true,.app 490 [zJ]]),.ret 0 [zo uz 0,cu]]
def Ly:SX:= .app 868 [zL cu,aM,cu,aM,zl 0,aN,aO]
def JA:SX:= zo Ly 2
def e55:VT:= .ite (zs aR (zl 0)) (.need (zp aR) (.ite (fO (zg 0 2001 2) aO) (.need (zn (cJ aV (zl 2002)) (zb (zL (zc aW (.op .row [zv 0 2001]))) 1000000)) (.ret 0 [zL (zc aW (.op .row [zv 0 2001])),zi aR,zc aW (.op .row [zv 0 2001])])) (.ret 0 [aV,zi aR,aW]))) (.ret 1 [aV,aR,aW])
def T_rFired:VT:= .loop ⟨868,[zL cu,aM,cu],2000,[aM,zl 0,aN,aO]⟩ e55 [.need (cJ (zo Ly 0) (zL JA)) (.ret 0 [JA])]
def L852:VT:= .ite (zs aR (zl 0)) (.need (zp aR) (.need (zs aR (zl 1)) (.ite (dP (zn (zn (.op (.scmp .eql) [zg 0 2001 0,zg 1 2001 0]) (zn (cJ (zg 0 2001 1) (zg 1 2001 1)) (cJ (zg 0 2001 2) (zg 1 2001 2)))) (zn (cJ (zg 0 2001 3) (zg 1 2001 3)) (zn (cJ (zg 0 2001 4) (zg 1 2001 4)) (zn (cJ (zg 0 2001 5) (zg 1 2001 5)) (cJ (zg 0 2001 6) (zg 1 2001 6))))))) (.ret 2 [.cb false,aR]) (.ret 0 [aV,zi aR])))) (.ret 1 [aV,aR])
def T_sameV:VT:= .ite (cZ (zl 0) (zl 1)) (.ret 0 [.cb false]) (.loop ⟨852,[.cb false,aM],2000,[aM,zl 0,aN,aM,zl 1,aO]⟩ L852 [.ret 0 [.cb true],.ret 0 [zo (.app 852 [.cb false,aM,aM,zl 0,aN,aM,zl 1,aO]) 0]])
def jo:SX:= zL (.app 490 [aS])
def vY:SX:= zo (.app 763 [aM,aM,jo,.app 490 [aS],be,jo]) 0
def Hv:SX:= zi vY
def IE:SX:= .app 764 [vY,Hv,.app 490 [aS],jo,.app 490 [aS],be]
def oK:SX:= zo IE 0
def Rj:SX:= zp oK
def xX:SX:= .op .isub [jo,oK]
def Mo:SX:= .op .iadd [oK,xX]
def wN:SX:= zo IE 2
def LW:SX:= zc (.op .lsub [wN,aM,oK]) (zc (.op .lrep [xX,.op .row [.cs [],aM,aM,aM,aM,aM,aM]]) (.op .lsub [wN,Mo,zL wN]))
def SK:VT:= .ite (zs aR jo) (.need (zp aR) (.ite (fV (cj (.app 490 [aS]) aR 2) be) (.ret 2 [aR,aR]) (.ret 0 [aV,zi aR]))) (.ret 1 [aV,aR])
def PU:VT:= .ite (zs aR jo) (.need (zp aR) (.need (zs aR (zl 2002)) (.ite (dP (fV (zg 2002 2001 2) be)) (.need (zn (zp aV) (zs aV jo)) (.need (zs aV (zl 2002)) (.ret 0 [zi aV,zi aR,.op .lset [aW,aV,zv 2002 2001]]))) (.ret 0 [aV,zi aR,aW])))) (.ret 1 [aV,aR,aW])
def T_fired:VT:= .need (zn (zn (zb (zl 4) 400) (.app 431 [aS])) (.app 491 [aS])) (.loop ⟨763,[aM,aM],2000,[jo,.app 490 [aS],be,jo]⟩ SK [.ret 0 [.app 490 [aS]],.ite (cJ vY (.ci (-1))) (.ret 0 [.app 490 [aS]]) (.loop ⟨764,[vY,Hv,.app 490 [aS]],2000,[jo,.app 490 [aS],be]⟩ PU [.need (zn Rj (fO oK jo)) (.need (zn (zn Rj (zp xX)) (zn (zb xX 1000000) (fO Mo (zL wN)))) (.need (fO oK (zL LW)) (.ret 0 [.op .lsub [LW,aM,oK]])))])])
variable{I:Opq}{n v0:Nat}
def dB5(l:List Val)(mark:Int)(i:Nat):List Val:=bif decide (ci (cg l i) 2<=mark)then [cQ (cg l i)]else []
def tp(l:List Val)(mark:Int):List Val:=cB (dB5 l mark) l.length
def eb1(l:List Val)(i:Nat):List Val:=bif decide (ci (cg l i) 0=1)then [lq (cg l i)]else []
def JE(l:List Val):List Val:=cB (eb1 l) l.length
def e56(l:List Val):List Val:=cB (λi=>[lq (cg l i)]) l.length
def Of(l:List Val)(key:List UInt8)(i:Nat):List Val:=bif decide ((Z7 (cg l i) 1).toS=key)then [.vl [Z7 (cg l i) 2]]else []
def lT(l:List Val)(key:List UInt8):List Val:=cB (Of l key) l.length
def rmR(l:List Val):Nat->Nat×List Val
 |0=>(0,[.vi 0,.vi (-1)])
 |k+1=>if ci (cg l k) 0=2 then(1,[Z7 (cg l k) 2,.vi k])else rmR l k
def EF(l:List Val):Nat->Val
 |0=> .vi (-2199023255552)
 |k+1=>if ci (cg l k) 0=2 then Z7 (cg l k) 2 else EF l k
def DM(l:List Val)(p:PaneM)(i:Nat):Bool:=decide (Z6 (cg l i)=p)
def SS(n:Int):Int:=cn .and .i64 n 4294967295
def Mr(n:Int):Int:=cn .add .i64 (cn .shr .i64 n 32) (cn .shr .i64 (SS n) 32)
def LV(n:Int):Int:=cn .add .i64 0 (cn .shr .i64 (Mr n) 32)
def gS(n:Int):List Int:=[cn .and .i64 (SS n) 4294967295,cn .and .i64 (Mr n) 4294967295,cn .and .i64 (LV n) 4294967295,cn .add .i64 0 (cn .shr .i64 (LV n) 32)]
def OQ(x y:List Int):Int:=cn .add .i64 (x.getD 0 0) (y.getD 0 0)
def KH(x y:List Int):Int:=cn .add .i64 (cn .add .i64 (x.getD 1 0) (y.getD 1 0)) (cn .shr .i64 (OQ x y) 32)
def KT(x y:List Int):Int:=cn .add .i64 (cn .add .i64 (x.getD 2 0) (y.getD 2 0)) (cn .shr .i64 (KH x y) 32)
def sw(x y:List Int):List Int:=[cn .and .i64 (OQ x y) 4294967295,cn .and .i64 (KH x y) 4294967295,cn .and .i64 (KT x y) 4294967295,cn .add .i64 (cn .add .i64 (x.getD 3 0) (y.getD 3 0)) (cn .shr .i64 (KT x y) 32)]
def bk(a b:Int):Int:=cn .or .i64 (cn .shl .i64 b 32) a
def oJ(w:List Int):Bool:=decide (gS (bk (w.getD 0 0) (w.getD 1 0))=[w.getD 0 0,w.getD 1 0,w.getD 2 0,w.getD 3 0])
def ny(l:List Val):Nat->List Int
 |0=>[0,0,0,0]
 |k+1=>sw (ny l k) (gS (ci (cg l k) 0))
def vI(l:List Int):List Val:=l.map .vi
def yJ(a:List Val)(i:Nat):List Int:=[(ce a i).toI,(ce a (i+1)).toI,(ce a (i+2)).toI,(ce a (i+3)).toI]
def fN(l:List Val):Nat->Val×Val
 |0=>(.vi 0,.vi 0)
 |k+1=>if k=0 then(Z7 (cg l k) 0,Z7 (cg l k) 0)else(if ci (cg l k) 0<(fN l k).1.toI then Z7 (cg l k) 0 else(fN l k).1,if(fN l k).2.toI<ci (cg l k) 0 then Z7 (cg l k) 0 else(fN l k).2)
def DU(v0:Nat)(row:SX):SX:= zc (.va (v0+2)) (.op .row [row])
def zH(v0:Nat)(row:SX):VT:= .need (zn (cJ (.va v0) (zL (.va (v0+2)))) (zb (zL (DU v0 row)) 1000000)) (.ret 0 [zL (DU v0 row),zi (.va (v0+1)),DU v0 row])
def Fl(v0:Nat):VT:= .ret 0 [.va v0,zi (.va (v0+1)),.va (v0+2)]
def Ch(v0:Nat)(N:SX)(b:VT):VT:= .ite (zs (.va (v0+1)) N) (.need (zp (.va (v0+1))) b) (.ret 1 [.va v0,.va (v0+1),.va (v0+2)])
theorem lB(I:Opq)(v0:Nat)(a b c:Val):(I.upd v0 [a,b,c]).w v0=a:=by rw[cN];simp
theorem gr(I:Opq)(v0:Nat)(a b c:Val):(I.upd v0 [a,b,c]).w (v0+1)=b:=by rw[cN];simp
theorem kW(I:Opq)(v0:Nat)(a b c:Val):(I.upd v0 [a,b,c]).w (v0+2)=c:=by rw[cN];simp
theorem cU(I:Opq)(v0:Nat)(l:List Val)(h:n<v0):(I.upd v0 l).w n=I.w n:=by simp_all[cN,b9]
theorem Lw{row:SX}{i:Nat}{acc:List Val}{x:Val}(h0:I.w v0= .vi acc.length)(h1:I.w (v0+1)= .vi i)(h2:I.w (v0+2)= .vl acc)(hr:bZ I row=x)(hi:i<1000000)(ha:acc.length<1000000):
 Z0 (zH v0 row) I=some (0,[.vi (acc++[x]).length,.vi (i+1:Nat),.vl (acc++[x])]):=by
 have inc:cn .add .i64 (Val.vi (i:Int)).toI 1=((i+1:Nat):Int):=eJ (n:=1000000) hi (by omega);have dc:bZ I (DU v0 row)= .vl (acc++[x]):=by
  show Val.vl ((I.w (v0+2)).toL++[bZ I row])=_;simp_all
 refine W8 ?_ ?_
 .rw[cX,eo,cI,cy,h0,Z8,Z8,dR,h2,cF,dc];grind[wb]
 .show some (0,[Val.vi (bZ I (DU v0 row)).toL.length,Val.vi (cn .add .i64 (I.w (v0+1)).toI 1),bZ I (DU v0 row)])=_;simp_all
theorem PY{i:Nat}{acc:List Val}(h0:I.w v0= .vi acc.length)(h1:I.w (v0+1)= .vi i)(h2:I.w (v0+2)= .vl acc)(hi:i<1000000):
 Z0 (Fl v0) I=some (0,[.vi acc.length,.vi (i+1:Nat),.vl acc]):=by
 have inc:cn .add .i64 (Val.vi (i:Int)).toI 1=((i+1:Nat):Int):=eJ (n:=1000000) hi (by omega);show some (0,[I.w v0,Val.vi (cn .add .i64 (I.w (v0+1)).toI 1),I.w (v0+2)])=_;grind
theorem Sl{N:SX}{b:VT}{g:Nat->List Val}(hn:n<=100000)(hg: ∀i,(g i).length<=1)(hN: ∀vs,(bZ (I.upd v0 vs) N).toI=n)
 (hb: ∀i acc,i<n->acc.length<=i->Z0 b (I.upd v0 [.vi acc.length,.vi i,.vl acc])=some (0,[.vi (acc++g i).length,.vi (i+1:Nat),.vl (acc++g i)])):
 cO (λvs=>Z0 (Ch v0 N b) (I.upd v0 vs)) [.vi 0,.vi 0,.vl []]=some (0,[.vi (cB g n).length,.vi n,.vl (cB g n)]):=by
 have hl: ∀i,(cB g i).length<=i:=λi=>by have:=jD hg i;omega
 refine eE (st:=λi=>[.vi (cB g i).length,.vi i,.vl (cB g i)]) (n:=n) (λi hi=> ?_) ?_
 .refine cG ?_ (W8 ?_ (hb i (cB g i) hi (hl i)))
  .rw[cT,cy,gr,hN];exact c9 (by show(i:Int)<(n:Int);omega)
  simp_all[cI,cF,cy,gr,c9]
 .refine cE ?_ ?_
  .simp_all[cT,cy,gr,i6]
  .show some (1,[(I.upd v0 _).w v0,(I.upd v0 _).w (v0+1),(I.upd v0 _).w (v0+2)])=_;rw[lB,gr,kW]
theorem cX8{N c row:SX}{p:Nat->Bool}{f:Nat->Val}(hn:n<=100000)(hN: ∀vs,(bZ (I.upd v0 vs) N).toI=n)
 (hc: ∀i a acc,i<n->dB (I.upd v0 [a,.vi i,acc]) c=p i) (hr: ∀i a acc,i<n->bZ (I.upd v0 [a,.vi i,acc]) row=f i):
 cO (λvs=>Z0 (Ch v0 N (.ite c (zH v0 row) (Fl v0))) (I.upd v0 vs)) [.vi 0,.vi 0,.vl []]=some (0,[.vi (cB (λi=>bif p i then [f i]else []) n).length,.vi n,.vl (cB (λi=>bif p i then [f i]else []) n)]):=by
 refine Sl hn (λi=>by grind) hN λi acc hi ha=> ?_
 cases h:p i with
 |true=>exact cG ((hc i _ _ hi).trans h) (Lw (lB ..) (gr ..) (kW ..) (hr i _ _ hi) (by omega) (by omega))
 |false=>
  rw[cond_false,s8];exact cE ((hc i _ _ hi).trans h) (PY (lB ..) (gr ..) (kW ..) (by omega))
theorem cX9{N row:SX}{f:Nat->Val}(hn:n<=100000)(hN: ∀vs,(bZ (I.upd v0 vs) N).toI=n)(hr: ∀i a acc,i<n->bZ (I.upd v0 [a,.vi i,acc]) row=f i):
 cO (λvs=>Z0 (Ch v0 N (zH v0 row)) (I.upd v0 vs)) [.vi 0,.vi 0,.vl []]=some (0,[.vi (cB (λi=>[f i]) n).length,.vi n,.vl (cB (λi=>[f i]) n)]):=
 Sl hn (λi=>by simp) hN λi acc hi ha=>Lw (lB ..) (gr ..) (kW ..) (hr i _ _ hi) (by omega) (by omega)
theorem JX{q l:SX}{g:List Val}(e:bZ I q=cA (0,[.vi g.length,.vi n,.vl g]))(hl:bZ I l= .vl g){r:Option (Nat×List Val)}{T:VT}(h:Z0 T I=r):
 Z0 (.need (cJ (zo q 0) (zL l)) T) I=r:=by
 refine W8 ?_ h;have:bZ I (zo q 0)= .vi g.length:=by
  show co (bZ I q).toL 1 0=_;rw[e];rfl
 rw[eo,this,Z8,hl];exact c9 rfl
end Go.Ev.S9
namespace Go.Ev.S9
open Go Go.Ev
def jy(q k j:Nat):SX:= .op .lget [.va q,.va k,.ci j]
def Og(q k:Nat):SX:= .op .row [jy q k 0,jy q k 1,jy q k 2,jy q k 3,jy q k 4,jy q k 5,jy q k 6]
theorem df5:e55=Ch 2000 (zl 0) (.ite (fO (jy 0 2001 2) aO) (zH 2000 (Og 0 2001)) (Fl 2000)):=rfl
theorem tG{I:Opq}{q k:Nat}{i:Nat}(h:I.w k= .vi i)(j:Nat):bZ I (jy q k j)=Z7 (cg (I.w q).toL i) j:=by
 show co (I.w q).toL (I.w k).toI (j:Int)=_;rw[h];rfl
theorem cO0{I:Opq}{q k:Nat}{i:Nat}(h:I.w k= .vi i):bZ I (Og q k)=cQ (cg (I.w q).toL i):=by
 show Val.vl [bZ I (jy q k (0:Nat)),bZ I (jy q k (1:Nat)),bZ I (jy q k (2:Nat)),bZ I (jy q k (3:Nat)),bZ I (jy q k (4:Nat)),bZ I (jy q k (5:Nat)),bZ I (jy q k (6:Nat))]=_;rw[tG h,tG h,tG h,tG h,tG h,tG h,tG h];rfl
def mP(g:List Val)(n:Nat):Val:=cA (0,[.vi g.length,.vi n,.vl g])
def eb2(a:List Val):Val:=mP (JE (ce a 5).toL) (ce a 5).toL.length
def e57(a:List Val):Val:=mP (tp (ce a 5).toL (ce a 6).toI) (ce a 5).toL.length
def eb3(a:List Val):Val:=mP (e56 (ce a 5).toL) (ce a 5).toL.length
def eb4(a:List Val):Val:=cA (rmR (ce a 4).toL (ce a 4).toL.length)
def Ym(a:List Val):Val:=cA (gZ (.vb false) (λk=>[.vb true,.vi k]) (DM (ce a 4).toL ⟨(ce a 5).toS,(ce a 6).toI,(ce a 7).toI⟩) (ce a 4).toL.length)
variable{I:Opq}
theorem cO1(hf: ∀a,I.f 868 a=e57 a)(hn:(I.w 0).toL.length<=400):Z0 T_rFired I=some (0,[.vl (tp (I.w 0).toL (I.w 1).toI)]):=by
 have e0:bZ I Ly=cA (0,[.vi (tp (I.w 0).toL (I.w 1).toI).length,.vi (I.w 0).toL.length,.vl (tp (I.w 0).toL (I.w 1).toI)]):=by
  show I.f 868 [.vi 0,.vi 0,.vl [],.vi 0,.vi (I.w 0).toL.length,I.w 0,I.w 1]=_;rw[hf];rfl
 have d1:bZ I JA= .vl (tp (I.w 0).toL (I.w 1).toI):=by
  show co (bZ I Ly).toL 1 2=_;rw[e0];rfl
 refine Z5 (r:=(0,[.vi (tp (I.w 0).toL (I.w 1).toI).length,.vi (I.w 0).toL.length,.vl (tp (I.w 0).toL (I.w 1).toI)])) ?_ e0 (JX e0 d1 ?_)
 .rw[df5];refine cX8 (p:=λi=>decide (ci (cg (I.w 0).toL i) 2<=(I.w 1).toI)) (f:=λi=>cQ (cg (I.w 0).toL i)) (n:=(I.w 0).toL.length) (by omega) (λvs=> ?_) (λi a acc hi=> ?_) (λi a acc hi=> ?_)
  .rw[Z8,dR,cU _ _ _ (by omega)]
  .rfl
  rfl
 .show some (0,[bZ I JA])=_;rw[d1]
theorem dU2(hf: ∀a,I.f 864 a=Ym a)(hn:(I.w 0).toL.length<=1000000):Z0 T_has I=some (0,[.vb ((I.w 0).toL.any λr=>decide (Z6 r=⟨(I.w 1).toS,(I.w 2).toI,(I.w 3).toI⟩))]):=by
 have e0:I.f 864 [.vb false,.vi 0,.vi 0,.vi (I.w 0).toL.length,I.w 0,I.w 1,I.w 2,I.w 3]=cA (gZ (.vb false) (λk=>[.vb true,.vi k]) (DM (I.w 0).toL ⟨(I.w 1).toS,(I.w 2).toI,(I.w 3).toI⟩) (I.w 0).toL.length):=by rw[hf];rfl
 have h0:=GP (x:= .vb false) (px:=λk=>[.vb true,.vi k]) (bad:=DM (I.w 0).toL ⟨(I.w 1).toS,(I.w 2).toI,(I.w 3).toI⟩) (n:=(I.w 0).toL.length);have hany:(List.range (I.w 0).toL.length).any (DM (I.w 0).toL ⟨(I.w 1).toS,(I.w 2).toI,(I.w 3).toI⟩)=(I.w 0).toL.any λr=>decide (Z6 r=⟨(I.w 1).toS,(I.w 2).toI,(I.w 3).toI⟩):=WL (λr=>decide (Z6 r=⟨(I.w 1).toS,(I.w 2).toI,(I.w 3).toI⟩)) (.vl []) (I.w 0).toL
 refine Z5 (r:=gZ (.vb false) (λk=>[.vb true,.vi k]) (DM (I.w 0).toL ⟨(I.w 1).toS,(I.w 2).toI,(I.w 3).toI⟩) (I.w 0).toL.length) ?_ e0 ?_
 .show cO _ [.vb false,.vi 0]=_;have hd: ∀i,dB (I.upd 2000 [.vb false,.vi (i:Nat)]) (zn (.op (.scmp .eql) [zg 0 2001 0,aO]) (zn (cJ (zg 0 2001 1) aT) (cJ (zg 0 2001 2) aU)))=DM (I.w 0).toL ⟨(I.w 1).toS,(I.w 2).toI,(I.w 3).toI⟩ i:=λi=>by
   show(decide ((Z6 (cg (I.w 0).toL i)).key=(I.w 1).toS)&&(decide ((Z6 (cg (I.w 0).toL i)).a=(I.w 2).toI)&&decide ((Z6 (cg (I.w 0).toL i)).b=(I.w 3).toI)))=decide (Z6 (cg (I.w 0).toL i)=⟨(I.w 1).toS,(I.w 2).toI,(I.w 3).toI⟩);generalize Z6 (cg (I.w 0).toL i)=p;cases p;grind
  have hv: ∀i,(I.upd 2000 [.vb false,.vi (i:Nat)]).w 2001= .vi i:=λi=>by rfl
  have hv0: ∀i,(I.upd 2000 [.vb false,.vi (i:Nat)]).w 2000= .vb false:=λi=>by rfl
  refine xu (λi hi hb=> ?_) (λi hi hb=> ?_) ?_
  .refine cG ?_ (W8 ?_ (cE ((hd i).trans hb) ?_))
   .simp_all[cT,cy,Z8,dR,cU,c9]
   .rfl
   .show some (0,[(I.upd 2000 [.vb false,.vi i]).w 2000,Val.vi (cn .add .i64 ((I.upd 2000 [.vb false,.vi i]).w 2001).toI 1)])=_;grind[a09,eJ]
  .show Z0 Ue (I.upd 2000 [.vb false,.vi i])=_;refine cG ?_ (W8 ?_ (cG ((hd i).trans hb) ?_))
   .rw[cT,cy,hv,Z8,dR,cU _ _ _ (by omega)];exact c9 (by show(i:Int)<_;omega)
   .exact c9 (by show(0:Int)<=(i:Int);omega)
   rfl
  .show Z0 Ue (I.upd 2000 [.vb false,.vi (I.w 0).toL.length])=_;refine cE ?_ ?_
   .rw[cT,cy,hv,Z8,dR,cU _ _ _ (by omega)];exact i6 (by show¬((I.w 0).toL.length:Int)<_;omega)
   rfl
 .rw[h0]at e0;rw[h0,hany];rw[hany]at e0;cases hb:(I.w 0).toL.any λr=>decide (Z6 r=⟨(I.w 1).toS,(I.w 2).toI,(I.w 3).toI⟩)with
  |true=>
   rw[hb]at e0;show some (0,[co (I.f 864 [.vb false,.vi 0,.vi 0,.vi (I.w 0).toL.length,I.w 0,I.w 1,I.w 2,I.w 3]).toL 1 0])=_;rw[e0];rfl
  |false=>rfl
end Go.Ev.S9
namespace Go.Ev.S9
open Go Go.Ev
variable{I:Opq}
theorem cO2:Z0 T_rRight I=some (0,[Val.vb (cV (I.w 0).toI (I.w 1).toI (I.w 2).toI (I.w 3).toI)]):=by
 unfold T_rRight QE Ud UZ Qu cV;generalize ha:(I.w 0).toI=a;generalize hb:(I.w 1).toI=b;generalize hc:(I.w 2).toI=c;generalize hd:(I.w 3).toI=d;by_cases k1:a=1
 .by_cases q1:1<=b<;>by_cases q2:b<=1048576<;>by_cases q3:c=0<;>simp[Z0,ck,bZ,dB,cK,ha,hb,hc,hd,k1,q1,q2,q3]
 by_cases k2:a=2
 .by_cases q1:1<=b<;>by_cases q2:b<=1048576<;>by_cases q3:1<=c<;>by_cases q4:c<=1048576<;>try (simp[Z0,ck,bZ,dB,cK,ha,hb,hc,hd,k1,k2,q1,q2,q3,q4];done)
  have m1:cn .rem .i64 b c=b % c:=by
   exact S8 (by omega)
  have m2:cn .quo .i64 b c=b/c:=by
   show IntKind.i64.wrap (b.tdiv c)=b/c;have h1:0<=b/c:=T1 (by omega) (by omega);have h2:b/c<=b:=O8 _ (by omega);grind[lu]
  have c0: ¬c=0:=by omega
  by_cases q5:d=0<;>by_cases q6:b % c=0<;>simp[Z0,ck,bZ,dB,cK,ha,hb,hc,hd,k1,k2,q1,q2,q3,q4,q5,q6,m1,m2,c0]
 .by_cases k3:a=3
  .by_cases q1:1<=d<;>by_cases q2:d<=1048576<;>by_cases q3:b=0<;>simp[Z0,ck,bZ,dB,cK,ha,hb,hc,hd,k1,k2,k3,q1,q2,q3]
  simp_all[Z0,ck,bZ,dB,cK]
theorem dU3:Z0 T_rev I=some (0,[Val.vi (dH (I.w 0).toI (I.w 1).toS (I.w 2).toI (I.w 3).toI)]):=by
 unfold T_rev UO OW OV Hz In dH eU;generalize ha:(I.w 0).toI=a;generalize hk:(I.w 1).toS=k;generalize ht:(I.w 2).toI=t;generalize hv:(I.w 3).toI=v;have tt: ∀r:Option (Nat×List Val),(r=if t< -1099511627776 then some (0,[Val.vi 61])else if 1099511627776<t then some (0,[Val.vi 61])else some (0,[Val.vi 0]))->r=some (0,[Val.vi (if(decide (-1099511627776<=t)&&decide (t<=1099511627776))=true then 0 else 61)]):=λr e=>by
  grind
 by_cases a1:a=1
 .by_cases k0:k=[]
  .simp_all[Z0,ck,bZ,dB,cK]
  .have kp: ¬((k.length:Int)<1):=by grind[List.length_pos_iff]
   by_cases k1:32<k.length
   .have:(32:Int)<(k.length:Int):=by omega
    simp_all[Z0,ck,bZ,dB,cK]
   .have k1': ¬(32:Int)<(k.length:Int):=by omega
    simp_all[b9,Z0,ck,bZ,dB,cK]
 .by_cases a2:a=2
  .by_cases k0:k=[]<;>by_cases v0:v=0
   .simp_all[e8,Z0,ck,bZ,dB,cK]
   all_goals simp_all[Z0,ck,bZ,dB,cK]
  .rw[e8 (by omega)];simp_all[Z0,ck,bZ,dB,cK]
end Go.Ev.S9
namespace Go.Ev.S9
open Go Go.Ev
def sE(l:List Val):Int:=if oJ (ny l l.length)=true then 0 else 30
def sR(l:List Val):Int:=if oJ (ny l l.length)=true then bk ((ny l l.length).getD 0 0) ((ny l l.length).getD 1 0)else 0
def aA(l:List Val):List Val:=if sE l≠0 then [.vi 0,.vi 0,.vi 0,.vi 0]else [.vi l.length,.vi (sR l),(fN l l.length).1,(fN l l.length).2]
def IL(a:List Val):Val:= .vl [.vl (vI (gS (ce a 0).toI))]
def Vv(a:List Val):Val:= .vl [.vl (vI (sw (yJ a 0) (yJ a 4)))]
def Lh(a:List Val):Val:= .vi (if oJ (yJ a 0)=true then bk (ce a 0).toI (ce a 1).toI else 0)
def Ma(a:List Val):Val:= .vb (oJ (yJ a 0))
def ZX(a:List Val):Val:=cA (0,.vi (ce a 7).toL.length::vI (ny (ce a 7).toL (ce a 7).toL.length))
def Xh(a:List Val):Val:=cA (0,[.vi (ce a 11).toL.length,.vi 0,.vi 0,.vi 0,.vi 0,.vi 0,.vi 0,(fN (ce a 11).toL (ce a 11).toL.length).1,(fN (ce a 11).toL (ce a 11).toL.length).2])
variable{I:Opq}
theorem dB6:Z0 T_r3of I=some (0,vI (gS (I.w 0).toI)):=by
 rfl
theorem cO3:Z0 T_r3plus I=some (0,vI (sw [(I.w 0).toI,(I.w 1).toI,(I.w 2).toI,(I.w 3).toI] [(I.w 4).toI,(I.w 5).toI,(I.w 6).toI,(I.w 7).toI])):=by
 rfl
theorem df6(f0: ∀a,I.f 810 a=IL a):Z0 T_r3fit I=some (0,[Lh [I.w 0,I.w 1,I.w 2,I.w 3],Ma [I.w 0,I.w 1,I.w 2,I.w 3]]):=by
 have d0:bZ I lH= .vi (bk (I.w 0).toI (I.w 1).toI):=rfl;have dq: ∀j:Nat,bZ I (.op .lget [.app 810 [lH],aM,.ci j])=(vI (gS (bk (I.w 0).toI (I.w 1).toI))).getD j default:=λj=>by
  show co (I.f 810 [bZ I lH]).toL 0 (j:Int)=_;rw[f0,d0];rfl
 have q0:bZ I (cj (.app 810 [lH]) aM 0)=_:=dq 0;have q1:bZ I (cj (.app 810 [lH]) aM 1)=_:=dq 1;have q2:bZ I (cj (.app 810 [lH]) aM 2)=_:=dq 2;have q3:bZ I (cj (.app 810 [lH]) aM 3)=_:=dq 3;have hc:dB I (zn (cJ (cj (.app 810 [lH]) aM 0) aN) (zn (cJ (cj (.app 810 [lH]) aM 1) aO) (zn (cJ (cj (.app 810 [lH]) aM 2) aT) (cJ (cj (.app 810 [lH]) aM 3) aU))))=oJ (yJ [I.w 0,I.w 1,I.w 2,I.w 3] 0):=by
  rw[cX,cX,cX,eo,eo,eo,eo,q0,q1,q2,q3,cy,cy,cy,cy];have e:oJ (yJ [I.w 0,I.w 1,I.w 2,I.w 3] 0)=decide (gS (bk (I.w 0).toI (I.w 1).toI)=[(I.w 0).toI,(I.w 1).toI,(I.w 2).toI,(I.w 3).toI]):=rfl;rw[e];generalize bk (I.w 0).toI (I.w 1).toI=n;show(decide ((gS n).getD 0 0=(I.w 0).toI)&&(decide ((gS n).getD 1 0=(I.w 1).toI)&&(decide ((gS n).getD 2 0=(I.w 2).toI)&&decide ((gS n).getD 3 0=(I.w 3).toI))))=_;have e4:gS n=[(gS n).getD 0 0,(gS n).getD 1 0,(gS n).getD 2 0,(gS n).getD 3 0]:=rfl;grind
 unfold T_r3fit Lh Ma;cases h:oJ (yJ [I.w 0,I.w 1,I.w 2,I.w 3] 0)with
 |true=>exact cE (by grind[fm]) rfl
 |false=>exact cG (by grind[fm]) rfl
theorem VL(l:List Val): ∀k,∃a b c d,ny l k=[a,b,c,d]
 |0=>⟨0,0,0,0,rfl⟩
 |k+1=>⟨_,_,_,_,rfl⟩
theorem df7(f0: ∀a,I.f 810 a=IL a)(f1: ∀a,I.f 811 a=Vv a)(f2: ∀a,I.f 812 a=Lh a)(f3: ∀a,I.f 813 a=Ma a)(f850: ∀a,I.f 850 a=ZX a)(hn:(I.w 0).toL.length<=100):
 Z0 T_r3Sum I=some (0,[.vi (sR (I.w 0).toL),.vi (sE (I.w 0).toL)]):=by
 have e0:bZ I tz=cA (0,.vi (I.w 0).toL.length::vI (ny (I.w 0).toL (I.w 0).toL.length)):=by
  show I.f 850 [.vi 0,.vi 0,.vi 0,.vi 0,.vi 0,.vi 0,.vi (I.w 0).toL.length,I.w 0]=_;rw[f850];rfl
 have W0: ∀vs,(I.upd 2000 vs).w 0=I.w 0:=λvs=>cU _ _ _ (by omega)
 have hfu: ∀vs i a,(I.upd 2000 vs).f i a=I.f i a:=λvs i a=>by rfl
 refine Z5 (r:=(0,.vi (I.w 0).toL.length::vI (ny (I.w 0).toL (I.w 0).toL.length))) ?_ e0 ?_
 .refine eE (st:=λk=> .vi k::vI (ny (I.w 0).toL k)) (n:=(I.w 0).toL.length) (λk hk=> ?_) ?_
  .obtain⟨a,b,c,d,e4⟩:=VL (I.w 0).toL k;show Z0 XP (I.upd 2000 (.vi k::vI (ny (I.w 0).toL k)))=some (0,.vi (k+1:Nat)::vI (sw (ny (I.w 0).toL k) (gS (ci (cg (I.w 0).toL k) 0))));rw[e4];have v0:(I.upd 2000 (.vi k::vI [a,b,c,d])).w 2000= .vi k:=by rfl
   have v1:(I.upd 2000 (.vi k::vI [a,b,c,d])).w 2001= .vi a:=by rfl
   have v2:(I.upd 2000 (.vi k::vI [a,b,c,d])).w 2002= .vi b:=by rfl
   have v3:(I.upd 2000 (.vi k::vI [a,b,c,d])).w 2003= .vi c:=by rfl
   have v4:(I.upd 2000 (.vi k::vI [a,b,c,d])).w 2004= .vi d:=by rfl
   have w0:=W0 (.vi k::vI [a,b,c,d]);have g0: ∀x,(I.upd 2000 (.vi k::vI [a,b,c,d])).f 810 x=IL x:=λx=>(hfu _ _ _).trans (f0 x)
   have g1: ∀x,(I.upd 2000 (.vi k::vI [a,b,c,d])).f 811 x=Vv x:=λx=>(hfu _ _ _).trans (f1 x)
   generalize I.upd 2000 (.vi k::vI [a,b,c,d])=aa at*
   have inc:cn .add .i64 (Val.vi (k:Int)).toI 1=((k+1:Nat):Int):=eJ hk (by omega);have dx:bZ aa (zg 0 2000 0)=Z7 (cg (I.w 0).toL k) 0:=by
    show co (aa.w 0).toL (aa.w 2000).toI 0=_;rw[v0,w0];rfl
   have d0:bZ aa (.app 810 [zg 0 2000 0])= .vl [.vl (vI (gS (ci (cg (I.w 0).toL k) 0)))]:=by
    show aa.f 810 [bZ aa (zg 0 2000 0)]=_;rw[g0,dx];rfl
   have d1:bZ aa (.app 811 [aR,aW,bj,bp,cj (.app 810 [zg 0 2000 0]) aM 0,cj (.app 810 [zg 0 2000 0]) aM 1,cj (.app 810 [zg 0 2000 0]) aM 2,cj (.app 810 [zg 0 2000 0]) aM 3])= .vl [.vl (vI (sw [a,b,c,d] (gS (ci (cg (I.w 0).toL k) 0))))]:=by
    show aa.f 811 [aa.w 2001,aa.w 2002,aa.w 2003,aa.w 2004,co (bZ aa (.app 810 [zg 0 2000 0])).toL 0 0,co (bZ aa (.app 810 [zg 0 2000 0])).toL 0 1,co (bZ aa (.app 810 [zg 0 2000 0])).toL 0 2,co (bZ aa (.app 810 [zg 0 2000 0])).toL 0 3]=_;rw[g1,d0,v1,v2,v3,v4];rfl
   refine cG ?_ (W8 ?_ ?_)
   .simp_all[cT,cy,Z8,dR,c9]
   .simp_all[cI,cF,cy,c9]
   .generalize hX:SX.app 811 [aR,aW,bj,bp,cj (.app 810 [zg 0 2000 0]) aM 0,cj (.app 810 [zg 0 2000 0]) aM 1,cj (.app 810 [zg 0 2000 0]) aM 2,cj (.app 810 [zg 0 2000 0]) aM 3]=X at*
    show some (0,[Val.vi (cn .add .i64 (aa.w 2000).toI 1),co (bZ aa X).toL 0 0,co (bZ aa X).toL 0 1,co (bZ aa X).toL 0 2,co (bZ aa X).toL 0 3])=_;rw[d1,v0,inc];rfl
  .obtain⟨a,b,c,d,e4⟩:=VL (I.w 0).toL (I.w 0).toL.length;rw[e4];have w0:=W0 (.vi (I.w 0).toL.length::vI [a,b,c,d]);have v0:(I.upd 2000 (.vi (I.w 0).toL.length::vI [a,b,c,d])).w 2000= .vi (I.w 0).toL.length:=by rw[cN];simp
   refine cE ?_ ?_
   .rw[cT,cy,v0,Z8,dR,w0];exact i6 (by show¬((I.w 0).toL.length:Int)<_;omega)
   rfl
 .obtain⟨a,b,c,d,e4⟩:=VL (I.w 0).toL (I.w 0).toL.length;unfold sR sE;rw[e4]at e0⊢;have d1:bZ I wY= .vi a:=by show co (bZ I tz).toL 1 1=_;rw[e0];rfl
  have d2:bZ I vV= .vi b:=by show co (bZ I tz).toL 1 2=_;rw[e0];rfl
  have d3:bZ I wO= .vi c:=by show co (bZ I tz).toL 1 3=_;rw[e0];rfl
  have d4:bZ I vw= .vi d:=by show co (bZ I tz).toL 1 4=_;rw[e0];rfl
  have x3:dB I (.app 813 [wY,vV,wO,vw])=oJ [a,b,c,d]:=by
   show(I.f 813 [bZ I wY,bZ I vV,bZ I wO,bZ I vw]).toB=_;rw[f3,d1,d2,d3,d4];rfl
  have x2:bZ I (.app 812 [wY,vV,wO,vw])= .vi (if oJ [a,b,c,d]=true then bk a b else 0):=by
   show I.f 812 [bZ I wY,bZ I vV,bZ I wO,bZ I vw]=_;rw[f2,d1,d2,d3,d4];rfl
  cases h:oJ [a,b,c,d]with
  |true=>
   refine cE (by rw[fm,x3,h];rfl) ?_;show some (0,[bZ I (.app 812 [wY,vV,wO,vw]),Val.vi 0])=_;grind
  |false=>exact cG (by grind[fm]) rfl
end Go.Ev.S9
namespace Go.Ev.S9
open Go Go.Ev
variable{I:Opq}
def Mj(l:List Val)(k:Nat):List Val:=[.vi k,.vi 0,.vi 0,.vi 0,.vi 0,.vi 0,.vi 0,(fN l k).1,(fN l k).2]
def pn:SX:= zg 0 2000 0
def DB(a b:SX):VT:= .ret 0 [zi aV,aR,aW,bj,bp,bq,bv,a,b]
theorem df8:Iq= .ite (zs aV (zl 0)) (.ite (ze aV 0) (.need (zp aV) (DB pn pn)) (.need (zp aV) (.ite (zs pn bB) (.ite (fV pn bw) (DB pn pn) (DB pn bw)) (.ite (fV pn bw) (DB bB pn) (DB bB bw))))) (.ret 1 [aV,aR,aW,bj,bp,bq,bv,bB,bw]):=rfl
theorem dU5{l:List Val}(hl:(I.w 0).toL=l)(hn:l.length<=100):cO (λvs=>Z0 Iq (I.upd 2000 vs)) [.vi 0,.vi 0,.vi 0,.vi 0,.vi 0,.vi 0,.vi 0,.vi 0,.vi 0]=some (0,Mj l l.length):=by
 have W0: ∀vs,(I.upd 2000 vs).w 0=I.w 0:=λvs=>cU _ _ _ (by omega)
 have V: ∀(k:Nat) (a b:Val),(∀j,1<=j->j<=6->(I.upd 2000 [.vi k,.vi 0,.vi 0,.vi 0,.vi 0,.vi 0,.vi 0,a,b]).w (2000+j)= .vi 0)/\(I.upd 2000 [.vi k,.vi 0,.vi 0,.vi 0,.vi 0,.vi 0,.vi 0,a,b]).w 2000= .vi k/\(I.upd 2000 [.vi k,.vi 0,.vi 0,.vi 0,.vi 0,.vi 0,.vi 0,a,b]).w 2007=a/\(I.upd 2000 [.vi k,.vi 0,.vi 0,.vi 0,.vi 0,.vi 0,.vi 0,a,b]).w 2008=b:=λk a b=>by
  refine⟨λj h1 h2=> ?_,by rw[cN];simp,by rw[cN];simp,by rw[cN];simp⟩;rw[cN,e8 (by omega),show 2000+j-2000=j by omega];grind
 refine eE (st:=Mj l) (n:=l.length) (λk hk=> ?_) ?_
 .show Z0 Iq (I.upd 2000 [.vi k,.vi 0,.vi 0,.vi 0,.vi 0,.vi 0,.vi 0,(fN l k).1,(fN l k).2])=some (0,[.vi (k+1:Nat),.vi 0,.vi 0,.vi 0,.vi 0,.vi 0,.vi 0,(fN l (k+1)).1,(fN l (k+1)).2]);have hm:fN l (k+1)=if k=0 then(Z7 (cg l k) 0,Z7 (cg l k) 0)else(if ci (cg l k) 0<(fN l k).1.toI then Z7 (cg l k) 0 else(fN l k).1,if(fN l k).2.toI<ci (cg l k) 0 then Z7 (cg l k) 0 else(fN l k).2):=rfl
  rw[hm];generalize (fN l k).1=a;generalize (fN l k).2=b;obtain⟨vz,v0,v7,v8⟩:=V k a b;have w0:=W0 [.vi k,.vi 0,.vi 0,.vi 0,.vi 0,.vi 0,.vi 0,a,b];generalize I.upd 2000 [.vi k,.vi 0,.vi 0,.vi 0,.vi 0,.vi 0,.vi 0,a,b]=aa at*
  have inc:cn .add .i64 (Val.vi (k:Int)).toI 1=((k+1:Nat):Int):=eJ hk (by omega);have dx:bZ aa pn=Z7 (cg l k) 0:=by
   show co (aa.w 0).toL (aa.w 2000).toI 0=_;rw[v0,w0,hl];rfl
  have hr: ∀(p q:SX) (x y:Val),bZ aa p=x->bZ aa q=y->Z0 (DB p q) aa=some (0,[.vi (k+1:Nat),.vi 0,.vi 0,.vi 0,.vi 0,.vi 0,.vi 0,x,y]):=λp q x y h1 h2=>by
   show some (0,[Val.vi (cn .add .i64 (aa.w 2000).toI 1),aa.w (2000+1),aa.w (2000+2),aa.w (2000+3),aa.w (2000+4),aa.w (2000+5),aa.w (2000+6),bZ aa p,bZ aa q])=_;grind
  have hk0:dB aa (zp aV)=true:=by simp_all[cI,cF,cy,c9]
  rw[df8];refine cG ?_ ?_
  .simp_all[cT,cy,Z8,dR,c9]
  by_cases k0:k=0
  .simp_all[e8,cG,W8,eo,cy,cF,c9]
  .rw[b9 k0];refine cE ?_ (W8 hk0 ?_)
   .simp_all[eo,cy,cF,i6]
   have c1:dB aa (zs pn bB)=decide (ci (cg l k) 0<a.toI):=by rw[cT,dx,cy,v7];rfl
   have c2:dB aa (fV pn bw)=decide (b.toI<ci (cg l k) 0):=by rw[Ki,dx,cy,v8];rfl
   by_cases q1:ci (cg l k) 0<a.toI
   .rw[e8 q1];refine cG (c1.trans (c9 q1)) ?_;by_cases q2:b.toI<ci (cg l k) 0
    .simp_all[e8,cG,c9]
    .rw[b9 q2];exact cE (c2.trans (i6 q2)) (hr _ _ _ _ dx v8)
   .rw[b9 q1];refine cE (c1.trans (i6 q1)) ?_;by_cases q2:b.toI<ci (cg l k) 0
    .rw[e8 q2];exact cG (c2.trans (c9 q2)) (hr _ _ _ _ v7 dx)
    .rw[b9 q2];exact cE (c2.trans (i6 q2)) (hr _ _ _ _ v7 v8)
 .show Z0 Iq (I.upd 2000 [.vi l.length,.vi 0,.vi 0,.vi 0,.vi 0,.vi 0,.vi 0,(fN l l.length).1,(fN l l.length).2])=some (1,[.vi l.length,.vi 0,.vi 0,.vi 0,.vi 0,.vi 0,.vi 0,(fN l l.length).1,(fN l l.length).2]);obtain⟨vz,v0,v7,v8⟩:=V l.length (fN l l.length).1 (fN l l.length).2;have w0:=W0 [.vi l.length,.vi 0,.vi 0,.vi 0,.vi 0,.vi 0,.vi 0,(fN l l.length).1,(fN l l.length).2];generalize I.upd 2000 [.vi l.length,.vi 0,.vi 0,.vi 0,.vi 0,.vi 0,.vi 0,(fN l l.length).1,(fN l l.length).2]=aa at*
  refine cE ?_ ?_
  .simp_all[cT,cy,Z8,dR,i6]
  .show some (1,[aa.w 2000,aa.w (2000+1),aa.w (2000+2),aa.w (2000+3),aa.w (2000+4),aa.w (2000+5),aa.w (2000+6),aa.w 2007,aa.w 2008])=_;grind
theorem dB7(f2: ∀a,I.f 842 a= .vi (sR (ce a 0).toL))(f3: ∀a,I.f 843 a= .vi (sE (ce a 0).toL))(f851: ∀a,I.f 851 a=Xh a)(hn:(I.w 0).toL.length<=100):
 Z0 T_rAll I=some (0,[(aA (I.w 0).toL).getD 0 default,(aA (I.w 0).toL).getD 1 default,(aA (I.w 0).toL).getD 2 default,(aA (I.w 0).toL).getD 3 default,.vi (sE (I.w 0).toL)]):=by
 have d3:bZ I (.app 843 [aN])= .vi (sE (I.w 0).toL):=f3 _;have d2:bZ I (.app 842 [aN])= .vi (sR (I.w 0).toL):=f2 _;have c3:dB I (cZ (.app 843 [aN]) aM)= !decide (sE (I.w 0).toL=0):=by rw[eZ,cF,d3];rfl
 unfold T_rAll aA;refine W8 ?_ ?_
 .grind[cI,Z8,cF,dR,decide_eq_true]
 by_cases h:sE (I.w 0).toL=0
 .have e0:bZ I Fv=cA (0,Mj (I.w 0).toL (I.w 0).toL.length):=by
   show I.f 851 [.vi 0,.vi 0,.vi 0,.vi 0,.vi 0,.vi 0,.vi 0,.vi 0,.vi 0,.vi 0,.vi (I.w 0).toL.length,I.w 0,bZ I (.app 842 [aN])]=_;rw[f851];rfl
  refine cE (by grind) (Z5 (r:=(0,Mj (I.w 0).toL (I.w 0).toL.length)) (dU5 rfl hn) e0 ?_);show some (0,[Val.vi (I.w 0).toL.length,bZ I (.app 842 [aN]),co (bZ I Fv).toL 1 7,co (bZ I Fv).toL 1 8,Val.vi 0])=_;rw[e0,d2,h];rfl
 .refine cG (by rw[c3,i6 h];rfl) ?_;show some (0,[Val.vi 0,Val.vi 0,Val.vi 0,Val.vi 0,bZ I (.app 843 [aN])])=_;grind
end Go.Ev.S9
namespace Go.Ev.S9
open Go Go.Ev
theorem ET(x:Int):cn .and .i64 x 4294967295=x % 4294967296:=by
 show IntKind.i64.wrap (((BitVec.ofInt 64 x&&&BitVec.ofInt 64 4294967295).toNat:Nat):Int)=_;have h:(BitVec.ofInt 64 x&&&BitVec.ofInt 64 4294967295).toNat=(x % 18446744073709551616).toNat % 4294967296:=by
  rw[BitVec.toNat_and];have h2:(BitVec.ofInt 64 4294967295).toNat=2^32-1:=rfl;rw[h2,Nat.and_two_pow_sub_one_eq_mod,BitVec.toNat_ofInt];rfl
 grind[lu]
theorem As(x:Int):cn .shr .i64 x 32=x/4294967296:=by
 show x.fdiv (2^(min (32:Int).toNat 64))=_;grind
theorem dU6{a b n:Int}(h:cP n)(h0:a=n % 4294967296)(h1:b=n/4294967296 % 4294967296):bk a b=n:=by
 unfold bk;have e1:cn .shl .i64 b 32=n/4294967296*4294967296:=by
  show IntKind.i64.wrap (b*2^(min (32:Int).toNat 64))=_;unfold cP at h;simp only[IntKind.wrap,IntKind.bits,IntKind.signed];simp;omega
 rw[e1];show IntKind.i64.wrap (((BitVec.ofInt 64 (n/4294967296*4294967296)|||BitVec.ofInt 64 a).toNat:Nat):Int)=_;have h2:(BitVec.ofInt 64 (n/4294967296*4294967296)|||BitVec.ofInt 64 a).toNat=(n % 18446744073709551616).toNat:=by
  rw[BitVec.toNat_or,BitVec.toNat_ofInt,BitVec.toNat_ofInt];have e2:(n/4294967296*4294967296 % (2^64:Nat)).toNat=2^32*((n % 18446744073709551616).toNat/4294967296):=by
   omega
  have e3:(a % (2^64:Nat)).toNat=(n % 18446744073709551616).toNat % 4294967296:=by
   omega
  have hlt:(n % 18446744073709551616).toNat % 4294967296<2^32:=N4 _ (by decide);rw[e2,e3,<-Nat.two_pow_add_eq_or_of_lt hlt];omega
 grind[cP,IntKind.wrap,IntKind.bits,IntKind.signed]
def qh(w:List Int):Int:=w.getD 0 0+w.getD 1 0*4294967296+w.getD 2 0*18446744073709551616+w.getD 3 0*79228162514264337593543950336
def BE(w:List Int)(k:Int):Prop:= ∃a b c d,w=[a,b,c,d]/\0<=a/\a<4294967296/\0<=b/\b<4294967296/\0<=c/\c<4294967296/\ -k<=d/\d<=k
theorem cY0{n:Int}(h:cP n):gS n=[n % 4294967296,n/4294967296 % 4294967296,(if 0<=n then 0 else 4294967295),(if 0<=n then 0 else-1)]:=by
 unfold cP at h;have e0:SS n=n % 4294967296:=ET n;have e1:Mr n=n/4294967296:=by
  unfold Mr;rw[As,As,e0,gj (by omega) (by omega)];omega
 have e2:LV n=if 0<=n then 0 else-1:=by
  unfold LV;rw[As,e1,gj (by omega) (by omega)];split<;>omega
 unfold gS;rw[ET,ET,ET,As,e0,e1,e2];by_cases c:0<=n
 .rw[e8 c,e8 c,gj (by omega) (by omega)];congr 1;omega
 simp_all[b9,gj]
theorem Xc{n:Int}(h:cP n):BE (gS n) 1/\qh (gS n)=n:=by
 rw[cY0 h];refine⟨⟨_,_,_,_,rfl,by omega,by omega,by omega,by omega,by split<;>omega,by split<;>omega,by split<;>omega,by split<;>omega⟩,?_⟩;show n % 4294967296+n/4294967296 % 4294967296*4294967296+(if 0<=n then 0 else 4294967295)*18446744073709551616+(if 0<=n then 0 else-1)*79228162514264337593543950336=n;grind[cP]
theorem dB8{x y:List Int}{k:Int}(hk:0<=k)(hk2:k<=1000000)(hx:BE x k)(hy:BE y 1):BE (sw x y) (k+2)/\qh (sw x y)=qh x+qh y:=by
 obtain⟨a,b,c,d,rfl,a1,a2,b1,b2,c1,c2,d1,d2⟩:=hx;obtain⟨a',b',c',d',rfl,a1',a2',b1',b2',c1',c2',d1',d2'⟩:=hy;have e0:OQ [a,b,c,d] [a',b',c',d']=a+a':=by
  show cn .add .i64 a a'=_;grind[gj]
 have e1:KH [a,b,c,d] [a',b',c',d']=b+b'+(a+a')/4294967296:=by
  grind[KH,As,cn,gj]
 have e2:KT [a,b,c,d] [a',b',c',d']=c+c'+(b+b'+(a+a')/4294967296)/4294967296:=by
  grind[KT,As,cn,gj]
 have e3:sw [a,b,c,d] [a',b',c',d']=[(a+a') % 4294967296,(b+b'+(a+a')/4294967296) % 4294967296,(c+c'+(b+b'+(a+a')/4294967296)/4294967296) % 4294967296,d+d'+(c+c'+(b+b'+(a+a')/4294967296)/4294967296)/4294967296]:=by
  unfold sw;grind[ET,As,cn,gj]
 rw[e3];refine⟨⟨_,_,_,_,rfl,by omega,by omega,by omega,by omega,by omega,by omega,by omega,by omega⟩,?_⟩;show(a+a') % 4294967296+(b+b'+(a+a')/4294967296) % 4294967296*4294967296+(c+c'+(b+b'+(a+a')/4294967296)/4294967296) % 4294967296*18446744073709551616+(d+d'+(c+c'+(b+b'+(a+a')/4294967296)/4294967296)/4294967296)*79228162514264337593543950336=(a+b*4294967296+c*18446744073709551616+d*79228162514264337593543950336)+(a'+b'*4294967296+c'*18446744073709551616+d'*79228162514264337593543950336);omega
theorem cO5{w:List Int}{k:Int}(h:BE w k):(oJ w=true↔cP (qh w))/\(oJ w=true->bk (w.getD 0 0) (w.getD 1 0)=qh w):=by
 obtain⟨a,b,c,d,rfl,a1,a2,b1,b2,c1,c2,d1,d2⟩:=h;have hb:cP (bk a b):=by
  have:=We (x:=((BitVec.ofInt 64 (cn .shl .i64 b 32)|||BitVec.ofInt 64 a).toNat:Nat)) (by omega) (by omega);exact this.1
 have key:oJ [a,b,c,d]=true->cP (qh [a,b,c,d])/\bk a b=qh [a,b,c,d]:=λhf=>by
  have hf:gS (bk a b)=[a,b,c,d]:=j5 hf;have:=(Xc hb).2;rw[hf]at this;rw[this];exact⟨hb,rfl⟩
 refine⟨⟨λhf=>(key hf).1,λhi=> ?_⟩,λhf=>(key hf).2⟩;have hv:qh [a,b,c,d]=a+b*4294967296+c*18446744073709551616+d*79228162514264337593543950336:=rfl;have hn:cP (a+b*4294967296+c*18446744073709551616+d*79228162514264337593543950336):=by exact hi
 have hbk:bk a b=a+b*4294967296+c*18446744073709551616+d*79228162514264337593543950336:=dU6 hn (by omega) (by omega);show decide (gS (bk a b)=[a,b,c,d])=true;rw[hbk,cY0 hn];unfold cP at hn;grind
theorem ZP{l:List Val}(hl: ∀k,cP (ci (cg l k) 0)): ∀k,k<=400000->BE (ny l k) (2*k)/\qh (ny l k)=pT (λk=>ci (cg l k) 0) k
 |0,_=>⟨⟨0,0,0,0,rfl,by omega,by omega,by omega,by omega,by omega,by omega,by omega,by omega⟩,rfl⟩
 |k+1,h=>by
  obtain⟨h1,h2⟩:=ZP hl k (by omega);obtain⟨h3,h4⟩:=Xc (hl k);obtain⟨h5,h6⟩:=dB8 (by omega) (by omega) h1 h3;refine⟨?_,?_⟩
  .obtain⟨a,b,c,d,e,r⟩:=h5;refine⟨a,b,c,d,e,?_⟩;obtain⟨r1,r2,r3,r4,r5,r6,r7,r8⟩:=r;exact⟨r1,r2,r3,r4,r5,r6,by omega,by omega⟩
  grind[qh,sw,ny,gS,ci,cg,pT]
theorem dU7{l:List Val}(hl: ∀r∈l,cP (ci r 0))(hn:l.length<=400000):(sE l=0↔cP (pT (λk=>ci (cg l k) 0) l.length))/\(sE l=0->sR l=pT (λk=>ci (cg l k) 0) l.length):=by
 have hg: ∀k,cP (ci (cg l k) 0):=λk=>by
  by_cases c:k<l.length
  .exact hl _ (iN c)
  .have e:cg l k= .vl []:=by simp[cg,j8,t7 (C8.1 c)]
   rw[e];exact Ot
 obtain⟨h1,h2⟩:=ZP hg l.length hn;obtain⟨h3,h4⟩:=cO5 h1;unfold sE sR;grind
theorem dB9{x y:Int}(h: -9223372036854775808<=x*y)(h2:x*y<9223372036854775808):cn .mul .i64 x y=x*y:=lu h h2
def lc(b d s t:Int)(i:Nat):List Val:=bif decide (t<b+i*d+s)then [.vl [.vi (b+i*d),.vi (b+i*d+s)]]else []
def je(b d t:Int):Nat:=((t-b)/d+1).toNat
def Cr(b d s t:Int):List Val:=[.vi (cB (lc b d s t) (je b d t)).length,.vi (b+je b d t*d),.vl (cB (lc b d s t) (je b d t))]
def e61(a:List Val):Val:=cA (0,Cr (ce a 1).toI (dT (ce a 4).toI (ce a 5).toI (ce a 6).toI) (ce a 5).toI (ce a 3).toI)
theorem dU8{t d:Int}(hd:0<d)(h1: -1099511627776<=t)(h2:t<=1099511627776):cn .quo .i64 t d=t/d\/cn .quo .i64 t d=t/d+1:=by
 have e:cn .quo .i64 t d=IntKind.i64.wrap (t.tdiv d):=rfl;have lo: -1099511627776<=t/d:=by
  refine(V8 hd).2 ?_;omega
 have hi:t/d<=1099511627776:=by
  by_cases c:0<=t
  .exact Int.le_trans (O8 d c) h2
  .have:t/d<0:=V9 (by omega) hd;omega
 grind[lu]
theorem bz0{G:Nat->List Val}{H:Nat->List Val}{e:Nat}(h0: ∀i,i<e->G i=[]): ∀n,(∀j,j<n->G (e+j)=H j)->cB G (e+n)=cB H n
 |0,_=>by
  have: ∀k,k<=e->cB G k=[]:=λk=>by
   induction k with
   |zero=>intro _;rfl
   |succ k ih=>grind[cB]
  exact this e (e9 _)
 |n+1,h=>by
  show cB G (e+n)++G (e+n)=cB H n++H n;rw[bz0 h0 n λj hj=>h j (by omega),h n (by omega)]
theorem dU9{b d s t D:Int}{n e:Nat}(hd:0<d)(hs:n*d=s)(hD:D=t-t % d)(hb:b=D-s+d-e*d)(he:1<=e):cB (lc b d s t) (je b d t)=cB (jc (D-s+d) d s) n/\je b d t=e+n:=by
 have q0:=I9 t (show d≠0 by omega);have q1:=J0 t hd;have hN:je b d t=e+n:=by
  unfold je;have:(t-b)/d=(e:Int)+n-1:=by
   have e1:t-b=t % d+((e:Int)+n-1)*d:=by
    have:((e:Int)+n-1)*d=e*d+n*d-d:=by rw[J2,F9,Int.one_mul]
    omega
   rw[e1,Int.add_mul_ediv_right _ _ (by omega),Int.ediv_eq_zero_of_lt q0 q1];omega
  omega
 refine⟨?_,hN⟩;rw[hN];refine bz0 (λi hi=> ?_) n λj hj=> ?_
 .unfold lc;have:(i:Int)*d+d<=e*d:=by
   have:((i:Int)+1)*d<=e*d:=G4 (by omega) (by omega);rw[F9]at this;omega
  grind
 .unfold lc jc;have e2:0<=(j:Int)*d:=J1 (by omega) (by omega);grind
variable{I:Opq}
theorem dV0{k s l t b d:Int}(hk:(I.w 0).toI=k)(hs:(I.w 1).toI=s)(hl:(I.w 2).toI=l)(ht:(I.w 4).toI=t)(hd:dT k s l=d)(d0:0<d)(d1:d<=1048576)(s0:1<=s)(s1:s<=1048576)(t1: -1099511627776<=t)(t2:t<=1099511627776)(b0: -1099651627776<=b)(hn:je b d t<=100):
 cO (λvs=>Z0 FF (I.upd 2000 vs)) [.vi 0,.vi b,.vl []]=some (0,Cr b d s t):=by
 have lim: ∀i,i<je b d t->b+i*d<=t:=λi hi=>by
  unfold je at hi;have h1:=Int.ediv_mul_le (t-b) (show d≠0 by omega);have h2:(i:Int)*d<=(t-b)/d*d:=G4 (by omega) (by omega);omega
 have ea0:t<b+je b d t*d:=by
  unfold je;have h1:=Int.lt_ediv_add_one_mul_self (t-b) d0;by_cases c:0<=(t-b)/d+1
  .grind
  .have:((t-b)/d+1)*d<=0*d:=G4 (by omega) (by omega);grind
 have h:=Da (step:=λvs=>Z0 FF (I.upd 2000 vs)) (n:=je b d t) (a0:=[]) (g:=lc b d s t) (λi acc=>[.vi acc.length,.vi (b+i*d),.vl acc]) (s0:=[.vi 0,.vi b,.vl []]) (p:=Cr b d s t) ?_ (λi hi=> ?_) ?_
 .exact h
 .simp
 .rw[List.nil_append];have hlen:(cB (lc b d s t) i).length<=i:=by
   have:=jD (g:=lc b d s t) (m:=1) (λi=>by grind[lc,decide]) i;omega
  generalize cB (lc b d s t) i=acc at hlen;have w0:(I.upd 2000 [.vi acc.length,.vi (b+i*d),.vl acc]).w 0=I.w 0:=cU _ _ _ (by omega);have w1:(I.upd 2000 [.vi acc.length,.vi (b+i*d),.vl acc]).w 1=I.w 1:=cU _ _ _ (by omega);have w2:(I.upd 2000 [.vi acc.length,.vi (b+i*d),.vl acc]).w 2=I.w 2:=cU _ _ _ (by omega);have w4:(I.upd 2000 [.vi acc.length,.vi (b+i*d),.vl acc]).w 4=I.w 4:=cU _ _ _ (by omega);have v0:=lB I 2000 (.vi acc.length) (.vi (b+i*d)) (.vl acc);have v1:=gr I 2000 (.vi acc.length) (.vi (b+i*d)) (.vl acc);have v2:=kW I 2000 (.vi acc.length) (.vi (b+i*d)) (.vl acc);generalize I.upd 2000 [.vi acc.length,.vi (b+i*d),.vl acc]=aa at*
  have hi1:=lim i hi;have ge:0<=(i:Int)*d:=J1 (by omega) (by omega);have a1:cn .add .i64 (b+i*d) s=b+i*d+s:=gj (by omega) (by omega);have a2:cn .add .i64 (b+i*d) d=b+(i+1:Nat)*d:=by
   grind[gj,Int.natCast_add,Int.add_mul]
  have dn:bZ aa (.op .row [aR,za aR aO])= .vl [.vi (b+i*d),.vi (b+i*d+s)]:=by
   show Val.vl [aa.w 2001,.vi (cn .add .i64 (aa.w 2001).toI (aa.w 1).toI)]=_;simp_all
  have dc:bZ aa (zc aW (.op .row [.op .row [aR,za aR aO]]))= .vl (acc++[.vl [.vi (b+i*d),.vi (b+i*d+s)]]):=by
   show Val.vl ((aa.w 2002).toL++[bZ aa (.op .row [aR,za aR aO])])=_;simp_all
  refine cG ?_ ?_
  .simp_all[cI,cy,c9]
  unfold lc;by_cases c:t<b+i*d+s
  .refine cG ?_ (W8 ?_ ?_)
   .show decide ((aa.w 4).toI<cn .add .i64 (aa.w 2001).toI (aa.w 1).toI)=true;simp_all
   .rw[cX,eo,cI,cy,v0,Z8,Z8,dR,v2,cF,dc];grind[wb]
   .by_cases k2:k=2
    .refine cG (by rw[eo,cy,w0,hk];exact c9 k2) ?_;show some (0,[Val.vi (bZ aa _).toL.length,Val.vi (cn .add .i64 (aa.w 2001).toI (aa.w 2).toI),bZ aa (.op .lcat _)])=_;simp_all[a09,dT,e8]
    .refine cE (by rw[eo,cy,w0,hk];exact i6 k2) ?_;show some (0,[Val.vi (bZ aa _).toL.length,Val.vi (cn .add .i64 (aa.w 2001).toI (aa.w 1).toI),bZ aa (.op .lcat _)])=_;simp_all[a09,dT,b9]
  .rw[i6 c,cond_false,s8];refine cE ?_ ?_
   .show decide ((aa.w 4).toI<cn .add .i64 (aa.w 2001).toI (aa.w 1).toI)=false;simp_all
   .by_cases k2:k=2
    .refine cG (by rw[eo,cy,w0,hk];exact c9 k2) ?_;show some (0,[aa.w 2000,Val.vi (cn .add .i64 (aa.w 2001).toI (aa.w 2).toI),aa.w 2002])=_;simp_all[a09,dT,e8]
    .refine cE (by rw[eo,cy,w0,hk];exact i6 k2) ?_;show some (0,[aa.w 2000,Val.vi (cn .add .i64 (aa.w 2001).toI (aa.w 1).toI),aa.w 2002])=_;simp_all[a09,dT,b9]
 .rw[List.nil_append];have v1:=gr I 2000 (.vi (cB (lc b d s t) (je b d t)).length) (.vi (b+je b d t*d)) (.vl (cB (lc b d s t) (je b d t)));have w4:(I.upd 2000 [.vi (cB (lc b d s t) (je b d t)).length,.vi (b+je b d t*d),.vl (cB (lc b d s t) (je b d t))]).w 4=I.w 4:=cU _ _ _ (by omega);refine cE ?_ ?_
  .rw[cI,cy,cy,v1,w4,ht];exact i6 (by show¬b+je b d t*d<=t;omega)
  rfl
end Go.Ev.S9
namespace Go.Ev.S9
open Go Go.Ev
theorem cO6{t s d:Int}{n:Nat}(hd:0<d)(d1:d<=1048576)(hs:n*d=s)(n0:1<=n)(n1:n<=16)(h1: -1099511627776<=t)(h2:t<=1099511627776):
 ∃e:Nat,1<=e/\e<=2/\cn .mul .i64 (cn .sub .i64 (cn .sub .i64 (cn .quo .i64 t d) (cn .quo .i64 s d)) 1) d=fU t d-s+d-e*d/\ -1099651627776<=fU t d-s+d-e*d:=by
 have q0:=I9 t (show d≠0 by omega);have q1:=J0 t hd;have hs1:s<=16777216:=by
  have:(n:Int)*d<=16*d:=G4 (by omega) (by omega);omega
 have hs0:0<=s:=by rw[<-hs];exact J1 (by omega) (by omega)
 have qs:cn .quo .i64 s d=n:=by
  have e:cn .quo .i64 s d=IntKind.i64.wrap (s.tdiv d):=rfl;grind[Int.tdiv_eq_ediv_of_nonneg,Int.mul_ediv_cancel,lu]
 have hD:fU t d=t/d*d:=by
  grind[Int.emod_def,Int.mul_comm,fU]
 have fb: -1099511627776-1048576<=t/d*d/\t/d*d<=t:=by
  grind[Int.emod_def,Int.mul_comm]
 have fq: -1099511627777<=t/d/\t/d<=1099511627776:=by
  refine⟨?_,?_⟩
  .have:(-1099511627777)*d<=t:=by omega
   simp_all[V8]
  .by_cases c:0<=t
   .exact Int.le_trans (O8 d c) h2
   .have:t/d<0:=V9 (by omega) hd;omega
 rcases dU8 hd h1 h2 with q|q
 .refine⟨2,by omega,by omega,?_,?_⟩
  .rw[q,qs,kN (x:=t/d) (by omega) (by omega),kN (by omega) (by omega)];have e:(t/d-n-1)*d=t/d*d-s-d:=by rw[J2,J2,hs,Int.one_mul]
   rw[dB9 (by omega) (by omega),e,hD];omega
  omega
 .refine⟨1,by omega,by omega,?_,?_⟩
  .rw[q,qs,kN (x:=t/d+1) (by omega) (by omega),kN (by omega) (by omega)];have e:(t/d+1-n-1)*d=t/d*d-s:=by
    have:t/d+1-n-1=t/d-n:=by omega
    rw[this,J2,hs]
   rw[dB9 (by omega) (by omega),e,hD];omega
  omega
variable{I:Opq}
theorem dV1(f700: ∀a,I.f 700 a= .vb (cV (ce a 0).toI (ce a 1).toI (ce a 2).toI (ce a 3).toI))(f853: ∀a,I.f 853 a=e61 a):
 Z0 T_rOf I=some (0,[.vl (dw (I.w 0).toI (I.w 1).toI (I.w 2).toI (I.w 3).toI (I.w 4))]):=by
 generalize hk:(I.w 0).toI=k;generalize hs:(I.w 1).toI=s;generalize hl:(I.w 2).toI=l;generalize hg:(I.w 3).toI=g;unfold T_rOf dw;generalize ht:(I.w 4).toI=t;have r0:dB I (.app 700 [aN,aO,aT,aU])=cV k s l g:=by
  show(I.f 700 [I.w 0,I.w 1,I.w 2,I.w 3]).toB=_;rw[f700,<-hk,<-hs,<-hl,<-hg];rfl
 cases hR:cV k s l g with
 |false=>exact cG (by rw[fm,r0,hR];rfl) rfl
 |true=>
 refine cE (by rw[fm,r0,hR];rfl) ?_;by_cases t1:t< -1099511627776
 .have e:eU t=false:=by unfold eU;rw[decide_eq_false (by omega)];rfl
  rw[e];exact cG (by rw[cT,cF,cy,ht];exact c9 t1) rfl
 refine cE (by rw[cT,cF,cy,ht];exact i6 t1) ?_;by_cases t2:1099511627776<t
 .have e:eU t=false:=by unfold eU;rw[decide_eq_false (p:=t<=1099511627776) (by omega),Bool.and_false]
  rw[e];exact cG (by show decide ((1099511627776:Int)<(I.w 4).toI)=true;rw[ht];exact c9 t2) rfl
 refine cE (by show decide ((1099511627776:Int)<(I.w 4).toI)=false;rw[ht];exact i6 t2) ?_;have e:eU t=true:=by unfold eU;rw[decide_eq_true (by omega),decide_eq_true (by omega)];rfl
 rw[e];show Z0 _ I=some (0,[Val.vl (if k=3 then [.vl [I.w 4,.vi (t+g)]]else cB (jc (fU t (dT k s l)-s+dT k s l) (dT k s l) s) (fP k s l))]);by_cases k3:k=3
 .rw[e8 k3];refine cG (by rw[eo,cy,hk];exact c9 k3) ?_;have:cn .add .i64 t g=t+g:=by
   unfold cV at hR;simp[k3]at hR;exact gj (by omega) (by omega)
  show some (0,[Val.vl [Val.vl [I.w 4,Val.vi (cn .add .i64 (I.w 4).toI (I.w 3).toI)]]])=_;rw[ht,hg,this]
 rw[b9 k3];refine cE (by rw[eo,cy,hk];exact i6 k3) ?_;have main: ∀{d:Int} {n:Nat} {X:SX},dT k s l=d->fP k s l=n->0<d->d<=1048576->n*d=s->1<=n->n<=16->1<=s->s<=1048576->bZ I X= .vi (cn .mul .i64 (cn .sub .i64 (cn .sub .i64 (cn .quo .i64 t d) (cn .quo .i64 s d)) 1) d)->
  Z0 (.loop ⟨853,[zL cu,X,cu],2000,[aS,aN,aO,aT,aU]⟩ FF [.need (cJ (zo (.app 853 [zL cu,X,cu,aS,aN,aO,aT,aU]) 0) (zL (zo (.app 853 [zL cu,X,cu,aS,aN,aO,aT,aU]) 2))) (.ret 0 [zo (.app 853 [zL cu,X,cu,aS,aN,aO,aT,aU]) 2])]) I=some (0,[Val.vl (cB (jc (fU t (dT k s l)-s+dT k s l) (dT k s l) s) (fP k s l))]):=by
  intro d n X hst hN d0 d1 hn n0 n1 s0 s1 hX;obtain⟨e,e1,e2,e3,e4⟩:=cO6 d0 d1 hn n0 n1 (F8.1 t1) (F8.1 t2);rw[e3]at hX;obtain⟨h1,h2⟩:=dU9 (b:=fU t d-s+d-e*d) (t:=t) (D:=fU t d) d0 hn rfl rfl e1;rw[hst,hN,<-h1];have hv:bZ I (.app 853 [zL cu,X,cu,aS,aN,aO,aT,aU])=cA (0,Cr (fU t d-s+d-e*d) d s t):=by
   show I.f 853 [.vi 0,bZ I X,.vl [],I.w 4,I.w 0,I.w 1,I.w 2,I.w 3]=_;rw[f853,hX];show cA (0,Cr _ (dT (I.w 0).toI (I.w 1).toI (I.w 2).toI) (I.w 1).toI (I.w 4).toI)=_;rw[hk,hs,hl,ht,hst];rfl
  have hv2:bZ I (zo (.app 853 [zL cu,X,cu,aS,aN,aO,aT,aU]) 2)= .vl (cB (lc (fU t d-s+d-e*d) d s t) (je (fU t d-s+d-e*d) d t)):=by
   show co (bZ I (.app 853 [zL cu,X,cu,aS,aN,aO,aT,aU])).toL 1 2=_;rw[hv];rfl
  have hv0:bZ I (zo (.app 853 [zL cu,X,cu,aS,aN,aO,aT,aU]) 0)= .vi (cB (lc (fU t d-s+d-e*d) d s t) (je (fU t d-s+d-e*d) d t)).length:=by
   show co (bZ I (.app 853 [zL cu,X,cu,aS,aN,aO,aT,aU])).toL 1 0=_;rw[hv];rfl
  refine Z5 (r:=(0,Cr (fU t d-s+d-e*d) d s t)) ?_ hv (W8 ?_ ?_)
  .show cO _ [.vi 0,bZ I X,.vl []]=_;rw[hX];exact dV0 hk hs hl ht hst d0 d1 s0 s1 (F8.1 t1) (F8.1 t2) e4 (by omega)
  .rw[eo,hv0,Z8,hv2];exact c9 rfl
  .show some (0,[bZ I _])=_;rw[hv2]
 by_cases k2:k=2
 .refine cG (by rw[eo,cy,hk];exact c9 k2) ?_;have hR':(1<=s/\s<=1048576)/\(1<=l/\l<=1048576)/\s % l=0/\s/l<=16:=by
   unfold cV at hR;simp[k2]at hR;omega
  obtain⟨⟨s1,s2⟩,⟨l1,l2⟩,sl,sq⟩:=hR';obtain⟨n1,n2⟩:=Ip sl l1 s1;have hst:dT k s l=l:=e8 k2;have hN:fP k s l=(s/l).toNat:=by unfold fP;rw[hst]
  refine W8 (by show(!decide ((I.w 2).toI=0))=true;rw[hl,i6 (by omega)];rfl) (main hst hN (by omega) l2 n1 n2 (by omega) s1 s2 ?_);show Val.vi (cn .mul .i64 (cn .sub .i64 (cn .sub .i64 (cn .quo .i64 (I.w 4).toI (I.w 2).toI) (cn .quo .i64 (I.w 1).toI (I.w 2).toI)) 1) (I.w 2).toI)=_;rw[ht,hl,hs]
 .refine cE (by rw[eo,cy,hk];exact i6 k2) ?_;have hR':1<=s/\s<=1048576:=by
   unfold cV at hR;by_cases k1:k=1
   .simp[k1]at hR;omega
   .simp[k1,k2,k3]at hR
  have hst:dT k s l=s:=b9 k2;have hN:fP k s l=1:=by unfold fP;rw[hst,Int.ediv_self (by omega)];rfl
  refine W8 (by show(!decide ((I.w 1).toI=0))=true;rw[hs,i6 (by omega)];rfl) (main hst hN (by omega) hR'.2 (by simp) (by omega) (by omega) hR'.1 hR'.2 ?_);show Val.vi (cn .mul .i64 (cn .sub .i64 (cn .sub .i64 (cn .quo .i64 (I.w 4).toI (I.w 1).toI) (cn .quo .i64 (I.w 1).toI (I.w 1).toI)) 1) (I.w 1).toI)=_;rw[ht,hs]
end Go.Ev.S9
namespace Go.Ev.S9
open Go Go.Ev
def nE(g:Int)(l:List Val)(i:Nat):List Val:=[.vl [Z7 (cg l i) 0,.vi (cn .add .i64 (ci (cg l i) 0) g)]]
def uH(l:List Val)(i:Nat):Bool:= !eU (ci (cg l i) 0)
def Hp(g:Int)(l:List Val):Nat×List Val:=match(List.range l.length).find? (uH l)with
 |some i=>(1,[.vi 2,.vi (cB (nE g l) i).length,.vi i,.vl (cB (nE g l) i)])
 |none=>(0,[.vi 0,.vi (cB (nE g l) l.length).length,.vi l.length,.vl (cB (nE g l) l.length)])
def e62(a:List Val):Val:=cA (Hp (ce a 4).toI (ce a 7).toL)
def jj(l:List Val)(i j k:Nat):List Val:=if k=i\/k=j then []else [eB (cg l k)]
def mC(l:List Val)(i j:Nat):Val:= .vl [.vi (min (ci (cg l i) 0) (ci (cg l j) 0)),.vi (max (ci (cg l i) 1) (ci (cg l j) 1))]
def fa(l:List Val)(i j:Nat):List Val:=[mC l i j]++cB (jj l i j) l.length
def pC(a:List Val):Val:=cA (0,[.vi (fa (ce a 4).toL (ce a 5).toI.toNat (ce a 6).toI.toNat).length,.vi (ce a 4).toL.length,.vl (fa (ce a 4).toL (ce a 5).toI.toNat (ce a 6).toI.toNat)])
def tv(l:List Val)(i j:Nat):Bool:=decide (ci (cg l i) 0<ci (cg l j) 1)&&decide (ci (cg l j) 0<ci (cg l i) 1)
def ik(l:List Val)(i:Nat):Option Nat:=(List.range l.length).find? λj=>decide (i<j)&&tv l i j
def yB(x:Val)(l:List Val)(i:Nat):Nat×List Val:=match ik l i with
 |some j=>(1,[.vi (fa l i j).length,.vb true,.vi j,.vl (fa l i j)])
 |none=>(0,[x,.vi l.length])
def tK(a:List Val):Val:=cA (yB (ce a 0) (ce a 3).toL (ce a 4).toI.toNat)
theorem dh0(l:List Val)(i j k:Nat):(jj l i j k).length<=1:=by grind[jj]
variable{I:Opq}
theorem NW{q l c:SX}{acc:List Val}{x:Val}(hq:bZ I q= .vi acc.length)(hl:bZ I l= .vl acc)(hc:bZ I c= .vl (acc++[x]))(h:acc.length<1000000):
 dB I (zn (cJ q (zL l)) (zb (zL c) 1000000))=true:=by
 rw[cX,eo,cI,hq,Z8,Z8,hl,hc,cF];exact wb h
theorem dV2{g:Int}{l:List Val}(h0:(I.w 0).toI=g)(h1:(I.w 1).toL=l)(hn:l.length<=1000):cO (λvs=>Z0 TE (I.upd 2000 vs)) [.vi 0,.vi 0,.vi 0,.vl []]=some (Hp g l):=by
 have run: ∀i acc,i<=l.length->acc.length<=i->Z0 TE (I.upd 2000 [.vi 0,.vi acc.length,.vi i,.vl acc])=if i<l.length then(if uH l i then some (2,[.vi 2,.vi acc.length,.vi i,.vl acc])else some (0,[.vi 0,.vi (acc++nE g l i).length,.vi (i+1:Nat),.vl (acc++nE g l i)]))else some (1,[.vi 0,.vi acc.length,.vi i,.vl acc]):=by
  intro i acc hi ha;have w0:(I.upd 2000 [.vi 0,.vi acc.length,.vi i,.vl acc]).w 0=I.w 0:=cU _ _ _ (by omega);have w1:(I.upd 2000 [.vi 0,.vi acc.length,.vi i,.vl acc]).w 1=I.w 1:=cU _ _ _ (by omega);have v0:(I.upd 2000 [.vi 0,.vi acc.length,.vi i,.vl acc]).w 2000= .vi 0:=by rfl
  have v1:(I.upd 2000 [.vi 0,.vi acc.length,.vi i,.vl acc]).w 2001= .vi acc.length:=by rfl
  have v2:(I.upd 2000 [.vi 0,.vi acc.length,.vi i,.vl acc]).w 2002= .vi i:=by rfl
  have v3:(I.upd 2000 [.vi 0,.vi acc.length,.vi i,.vl acc]).w 2003= .vl acc:=by rfl
  generalize I.upd 2000 [.vi 0,.vi acc.length,.vi i,.vl acc]=aa at*
  have dl:bZ aa (zg 1 2002 0)=Z7 (cg l i) 0:=by
   show co (aa.w 1).toL (aa.w 2002).toI 0=_;rw[w1,v2,h1];rfl
  have dc:bZ aa X1= .vl (acc++nE g l i):=by
   show Val.vl ((aa.w 2003).toL++[Val.vl [bZ aa (zg 1 2002 0),.vi (cn .add .i64 (bZ aa (zg 1 2002 0)).toI (aa.w 0).toI)]])=_;rw[v3,dl,w0,h0];rfl
  by_cases c:i<l.length
  .rw[e8 c];refine cG (by simp_all[cT,cy,Z8,dR,c9]) (W8 (by simp_all[cI,cF,cy,c9]) ?_);have lt:uH l i= !(decide (-1099511627776<=ci (cg l i) 0)&&decide (ci (cg l i) 0<=1099511627776)):=rfl;have out:Z0 (.ret 2 [bm,aR,aW,bj]) aa=some (2,[.vi 2,.vi acc.length,.vi i,.vl acc]):=by
    show some (2,[Val.vi 2,aa.w 2001,aa.w 2002,aa.w 2003])=_;grind
   by_cases t1: -1099511627776<=ci (cg l i) 0
   .refine cG (by rw[vG,dl,cF];exact c9 t1) ?_;by_cases t2:ci (cg l i) 0<=1099511627776
    .rw[lt,c9 t1,c9 t2];refine cE (by grind[fm,cI,cF,decide,ci,cg,decide_eq_true]) (W8 ?_ ?_)
     .show(decide ((aa.w 2001).toI=((aa.w 2003).toL.length:Int))&&decide (((bZ aa X1).toL.length:Int)<=1000000))=true;rw[v1,v3,dc];exact wb (A:=acc) (by omega)
     .show some (0,[aa.w 2000,Val.vi (bZ aa X1).toL.length,Val.vi (cn .add .i64 (aa.w 2002).toI 1),bZ aa X1])=_;rw[dc,v0,v2,a09,eJ (n:=1000000) (by omega) (by omega)];rfl
    .rw[lt,c9 t1,i6 t2];exact cG (by grind[fm,cI,cF,decide,ci,cg,decide_eq_false]) out
   .rw[lt,i6 t1];exact cE (by rw[vG,dl,cF];exact i6 t1) out
  .refine cE (by rw[cT,cy,v2,Z8,dR,w1,h1];exact i6 (by show¬(i:Int)<(l.length:Int);omega)) ?_;show some (1,[aa.w 2000,aa.w 2001,aa.w 2002,aa.w 2003])=_;grind
 have hl: ∀i,(cB (nE g l) i).length<=i:=λi=>by have:=jD (g:=nE g l) (m:=1) (λi=>e9 _) i;omega
 cases hf:(List.range l.length).find? (uH l)with
 |none=>
  have hno: ∀i,i<l.length->uH l i=false:=λi hi=>by
   have:=A7.1 hf i (r9.2 hi);simpa using this
  refine eE (st:=λi=>[.vi 0,.vi (cB (nE g l) i).length,.vi i,.vl (cB (nE g l) i)]) (n:=l.length) (λi hi=> ?_) ?_
  .rw[run i _ (by omega) (hl i),e8 hi,hno i hi];rfl
  grind
 |some i=>
  obtain⟨a,b,c⟩:=oY hf;refine eE (st:=λi=>[.vi 0,.vi (cB (nE g l) i).length,.vi i,.vl (cB (nE g l) i)]) (n:=i) (λk hk=> ?_) ?_
  .rw[run k _ (by omega) (hl k),e8 (by omega),c k hk];rfl
  grind
theorem dV3{l:List Val}{i j:Nat}(h0:I.w 2000= .vi l.length)(h2:(I.w 2002).toL=l)(hi:I.w 4001= .vi i)(hj:I.w 5001= .vi j)(hn:l.length<=1000):
 cO (λvs=>Z0 SL (I.upd 6000 vs)) [.vi 1,.vi 0,.vl [mC l i j]]=some (0,[.vi (fa l i j).length,.vi l.length,.vl (fa l i j)]):=by
 have hl: ∀k,(cB (jj l i j) k).length<=k:=λk=>by have:=jD (dh0 l i j) k;omega
 refine Da (λk acc=>[.vi acc.length,.vi k,.vl acc]) (a0:=[mC l i j]) (g:=jj l i j) (n:=l.length) rfl (λk hk=> ?_) ?_
 .have ha:([mC l i j]++cB (jj l i j) k).length<=k+1:=by have:=hl k;simp;omega
  generalize [mC l i j]++cB (jj l i j) k=acc at ha;have v0:(I.upd 6000 [.vi acc.length,.vi k,.vl acc]).w 6000= .vi acc.length:=by rw[cN];simp
  have v1:(I.upd 6000 [.vi acc.length,.vi k,.vl acc]).w 6001= .vi k:=by rw[cN];simp
  have v2:(I.upd 6000 [.vi acc.length,.vi k,.vl acc]).w 6002= .vl acc:=by rw[cN];simp
  have w0:(I.upd 6000 [.vi acc.length,.vi k,.vl acc]).w 2000=I.w 2000:=cU _ _ _ (by omega);have w2:(I.upd 6000 [.vi acc.length,.vi k,.vl acc]).w 2002=I.w 2002:=cU _ _ _ (by omega);have w4:(I.upd 6000 [.vi acc.length,.vi k,.vl acc]).w 4001=I.w 4001:=cU _ _ _ (by omega);have w5:(I.upd 6000 [.vi acc.length,.vi k,.vl acc]).w 5001=I.w 5001:=cU _ _ _ (by omega);generalize I.upd 6000 [.vi acc.length,.vi k,.vl acc]=aa at*
  have dc:bZ aa X3= .vl (acc++[eB (cg l k)]):=by
   show Val.vl ((aa.w 6002).toL++[Val.vl [co (aa.w 2002).toL (aa.w 6001).toI 0,co (aa.w 2002).toL (aa.w 6001).toI 1]])=_;rw[v2,w2,v1,h2];rfl
  have inc:cn .add .i64 (k:Int) 1=((k+1:Nat):Int):=eJ (n:=1000000) (by omega) (by omega);have skip:Z0 (.ret 0 [bH,zi bz,bD]) aa=some (0,[.vi acc.length,.vi (k+1:Nat),.vl acc]):=by
   show some (0,[aa.w 6000,Val.vi (cn .add .i64 (aa.w 6001).toI 1),aa.w 6002])=_;rw[v0,v1,v2,a09,inc]
  refine W8 (by rw[cI,cF,cy,w0,h0];exact c9 (by show(0:Int)<=(l.length:Int);omega)) (cG (by rw[cT,cy,cy,v1,w0,h0];exact c9 (by show(k:Int)<(l.length:Int);omega)) ?_);unfold jj;by_cases ci1:k=i
  .rw[e8 (Or.inl ci1),s8];exact cE (by rw[eZ,cy,cy,v1,w4,hi,ci1,c9 rfl];rfl) skip
  .refine cG (by rw[eZ,cy,cy,v1,w4,hi,i6 (by show¬(k:Int)=(i:Int);omega)];rfl) ?_;by_cases ci2:k=j
   .rw[e8 (Or.inr ci2),s8];exact cE (by rw[eZ,cy,cy,v1,w5,hj,ci2,c9 rfl];rfl) skip
   .rw[b9 (λh=>h.elim ci1 ci2)];refine cG (by rw[eZ,cy,cy,v1,w5,hj,i6 (by show¬(k:Int)=(j:Int);omega)];rfl) (W8 ?_ (W8 ?_ (W8 ?_ ?_)))
    .rw[cI,cF,cy,v1];exact c9 (by show(0:Int)<=(k:Int);omega)
    .rw[cT,cy,v1,Z8,dR,w2,h2];exact c9 (by show(k:Int)<(l.length:Int);omega)
    .exact NW (q:= bH) (l:= bD) (c:=X3) v0 v2 dc (by omega)
    .show some (0,[Val.vi (bZ aa X3).toL.length,Val.vi (cn .add .i64 (aa.w 6001).toI 1),bZ aa X3])=_;rw[dc,v1,a09,inc];rfl
 .show Z0 SL (I.upd 6000 [.vi ([mC l i j]++cB (jj l i j) l.length).length,.vi l.length,.vl ([mC l i j]++cB (jj l i j) l.length)])=some (1,[.vi ([mC l i j]++cB (jj l i j) l.length).length,.vi l.length,.vl ([mC l i j]++cB (jj l i j) l.length)]);generalize [mC l i j]++cB (jj l i j) l.length=acc;have v0:(I.upd 6000 [.vi acc.length,.vi l.length,.vl acc]).w 6000= .vi acc.length:=by rw[cN];simp
  have v1:(I.upd 6000 [.vi acc.length,.vi l.length,.vl acc]).w 6001= .vi l.length:=by rw[cN];simp
  have v2:(I.upd 6000 [.vi acc.length,.vi l.length,.vl acc]).w 6002= .vl acc:=by rw[cN];simp
  have w0:(I.upd 6000 [.vi acc.length,.vi l.length,.vl acc]).w 2000=I.w 2000:=cU _ _ _ (by omega);generalize I.upd 6000 [.vi acc.length,.vi l.length,.vl acc]=aa at*
  refine W8 (by rw[cI,cF,cy,w0,h0];exact c9 (by show(0:Int)<=(l.length:Int);omega)) (cE (by rw[cT,cy,cy,v1,w0,h0];exact i6 (by omega)) ?_);show some (1,[aa.w 6000,aa.w 6001,aa.w 6002])=_;rw[v0,v1,v2]
end Go.Ev.S9
namespace Go.Ev.S9
open Go Go.Ev
variable{l:List Val}
variable{I:Opq}
theorem d5{x:Val}{j:Nat}:(I.upd 5000 [x,.vi j]).w 5000=x/\(I.upd 5000 [x,.vi j]).w 5001= .vi j:=⟨by rfl,by rfl⟩
theorem vS{n k:Nat}{i:Nat}(hl:(I.w n).toL=l)(hk:I.w k= .vi i)(j:Nat):(bZ I (.op .lget [.va n,.va k,.ci j])).toI=ci (cg l i) j:=by
 show(co (I.w n).toL (I.w k).toI (j:Int)).toI=_;rw[hl,hk];rfl
theorem dC1(f859: ∀a,I.f 859 a=pC a){i:Nat}{x:Val}(h0:I.w 2000= .vi l.length)(h2:(I.w 2002).toL=l)(hw:I.w 4001= .vi i)(hi:i<l.length)(hn:l.length<=1000)(j:Nat)(hj:j<=l.length):
 Z0 QM (I.upd 5000 [x,.vi j])=if j<l.length then(if tv l i j then some (2,[.vi (fa l i j).length,.vb true,.vi j,.vl (fa l i j)])else some (0,[x,.vi (j+1:Nat)]))else some (1,[x,.vi j]):=by
 obtain⟨v0,v1⟩:=d5 (I:=I) (x:=x) (j:=j);have w0:(I.upd 5000 [x,.vi j]).w 2000= .vi l.length:=by grind[cU]
 have w2:((I.upd 5000 [x,.vi j]).w 2002).toL=l:=by grind[cU]
 have w4:(I.upd 5000 [x,.vi j]).w 4001= .vi i:=by grind[cU]
 have wf: ∀a,(I.upd 5000 [x,.vi j]).f 859 a=pC a:=λa=>by grind[eV]
 generalize I.upd 5000 [x,.vi j]=aa at*
 have inc:j<l.length->cn .add .i64 (j:Int) 1=((j+1:Nat):Int):=λh=>eJ (n:=1000000) (by omega) (by omega)
 have skip:j<l.length->Z0 (.ret 0 [.va 5000,zi bE]) aa=some (0,[x,.vi (j+1:Nat)]):=λh=>by
  show some (0,[aa.w 5000,Val.vi (cn .add .i64 (aa.w 5001).toI 1)])=_;simp_all
 refine W8 (by simp_all[cI,cF,cy,c9]) ?_;by_cases c:j<l.length
 .rw[e8 c];refine cG (by rw[cT,cy,cy,v1,w0];exact c9 (by show(j:Int)<(l.length:Int);omega)) ?_;refine W8 (by rw[cX,cI,cT,cF,cy,cy,w4,w0,c9 (show(0:Int)<=(Val.vi (i:Int)).toI by show(0:Int)<=(i:Int);omega),c9 (show(Val.vi (i:Int)).toI<(Val.vi (l.length:Int)).toI by show(i:Int)<(l.length:Int);omega)];rfl) ?_;refine W8 (by rw[cT,cy,Z8,dR,w4,w2];exact c9 (by show(i:Int)<(l.length:Int);omega)) ?_;refine W8 (by rw[cI,cF,cy,v1];exact c9 (by show(0:Int)<=(j:Int);omega)) ?_;refine W8 (by rw[cT,cy,Z8,dR,v1,w2];exact c9 (by show(j:Int)<(l.length:Int);omega)) ?_;have q1:dB aa (zs (zg 2002 4001 0) (zg 2002 5001 1))=decide (ci (cg l i) 0<ci (cg l j) 1):=by
   have e1:=vS w2 w4 0;have e2:=vS w2 v1 1;exact congr (congrArg (λa b:Int=>decide (a<b)) e1) e2
  have q2:dB aa (zs (zg 2002 5001 0) (zg 2002 4001 1))=decide (ci (cg l j) 0<ci (cg l i) 1):=by
   have e1:=vS w2 v1 0;have e2:=vS w2 w4 1;exact congr (congrArg (λa b:Int=>decide (a<b)) e1) e2
  unfold tv;by_cases c1:ci (cg l i) 0<ci (cg l j) 1
  .rw[c9 c1,A9];refine cG (q1.trans (c9 c1)) ?_;by_cases c2:ci (cg l j) 0<ci (cg l i) 1
   .rw[c9 c2,e8 rfl];have dh:bZ aa X4= .vl [mC l i j]:=by
     have e1:=vS w2 w4 0;have e2:=vS w2 v1 0;have e3:=vS w2 w4 1;have e4:=vS w2 v1 1;show Val.vl [Val.vl [.vi (min (bZ aa (.op .lget [aW,bg,.ci (0:Nat)])).toI (bZ aa (.op .lget [aW,bE,.ci (0:Nat)])).toI),.vi (max (bZ aa (.op .lget [aW,bg,.ci (1:Nat)])).toI (bZ aa (.op .lget [aW,bE,.ci (1:Nat)])).toI)]]=_;rw[e1,e2,e3,e4];rfl
    have d5e:bZ aa X5=cA (0,[.vi (fa l i j).length,.vi l.length,.vl (fa l i j)]):=by
     show aa.f 859 [.vi (bZ aa X4).toL.length,.vi 0,bZ aa X4,aa.w 2000,aa.w 2002,aa.w 4001,aa.w 5001]=_;rw[wf];show cA (0,[.vi (fa (aa.w 2002).toL (aa.w 4001).toI.toNat (aa.w 5001).toI.toNat).length,.vi (aa.w 2002).toL.length,.vl (fa (aa.w 2002).toL (aa.w 4001).toI.toNat (aa.w 5001).toI.toNat)])=_;rw[w2,w4,v1];rfl
    have d52:bZ aa (zo X5 2)= .vl (fa l i j):=by
     show co (bZ aa X5).toL 1 2=_;rw[d5e];rfl
    have d50:bZ aa (zo X5 0)= .vi (fa l i j).length:=by
     show co (bZ aa X5).toL 1 0=_;rw[d5e];rfl
    refine cE (by rw[fm,q2,c9 c2];rfl) (Z5 (r:=(0,[.vi (fa l i j).length,.vi l.length,.vl (fa l i j)])) ?_ d5e (W8 ?_ ?_))
    .show cO _ [Val.vi (bZ aa X4).toL.length,.vi 0,bZ aa X4]=_;rw[dh];exact dV3 w0 w2 w4 v1 hn
    .rw[eo,Z8,d50,d52];exact c9 rfl
    .show some (2,[Val.vi (bZ aa (zo X5 2)).toL.length,Val.vb true,aa.w 5001,bZ aa (zo X5 2)])=_;rw[d52,v1];rfl
   .rw[i6 c2,b9 Bool.false_ne_true];exact cG (by rw[fm,q2,i6 c2];rfl) (skip c)
  simp_all[i6,G2,b9,Bool.false_ne_true,cE]
 .refine cE (by rw[cT,cy,cy,v1,w0];exact i6 (by show¬(j:Int)<(l.length:Int);omega)) ?_;show some (1,[aa.w 5000,aa.w 5001])=_;grind
theorem dV4(f859: ∀a,I.f 859 a=pC a){i:Nat}{x:Val}(h0:I.w 2000= .vi l.length)(h2:(I.w 2002).toL=l)(hw:I.w 4001= .vi i)(hi:i<l.length)(hn:l.length<=1000):
 cO (λvs=>Z0 QM (I.upd 5000 vs)) [x,.vi (i+1:Nat)]=some (yB x l i):=by
 have run:=dC1 f859 (x:=x) h0 h2 hw hi hn;unfold yB;cases hf:ik l i with
 |none=>
  have hno: ∀j,i<j->j<l.length->tv l i j=false:=λj h1 h2=>by
   have:=A7.1 hf j (r9.2 h2);simpa[h1]using this
  refine eE (st:=λm=>[x,.vi (i+1+m:Nat)]) (n:=l.length-(i+1)) (λm hm=> ?_) ?_
  .rw[run _ (by omega),e8 (by omega),hno _ (by omega) (by omega)];rfl
  grind
 |some j=>
  obtain⟨a,b,c⟩:=oY hf;refine eE (st:=λm=>[x,.vi (i+1+m:Nat)]) (n:=j-(i+1)) (λm hm=> ?_) ?_
  .have h:=c (i+1+m) (by omega);rw[c9 (by omega),A9]at h;rw[run _ (by omega),e8 (by omega),h];rfl
  grind
end Go.Ev.S9
