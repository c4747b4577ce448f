import Derived.Test.YtipefnncbnbliaaGreatEL19
set_option linter.unusedSimpArgs false
set_option linter.unusedVariables false
namespace Go.Ev.S9
open Go Go.Ev
def Nw:SX:= gM aO aZ
def Sl:SX:= zb aO 1048576
def Rb:SX:= ze aT 0
def RT:SX:= ze aU 0
def T_rRight:VT:= .ite (ze aM 1) (.ite (Nw) (.ite (Sl) (.ite (Rb) (.ret 0 [RT]) (.ret 0 [.cb false])) (.ret 0 [.cb false])) (.ret 0 [.cb false])) (.ite (ze aM 2) (.ite (Nw) (.ite (Sl) (.ite (gM aT aZ) (.ite (zb aT 1048576) (.ite (RT) (.need (dv aT aN) (.ite (ze (.op (.ar .rem .i64) [aO,aT]) 0) (.ret 0 [zb (.op (.ar .quo .i64) [aO,aT]) 16]) (.ret 0 [.cb false]))) (.ret 0 [.cb false])) (.ret 0 [.cb false])) (.ret 0 [.cb false])) (.ret 0 [.cb false])) (.ret 0 [.cb false])) (.ite (ze aM 3) (.ite (gM aU aZ) (.ite (zb aU 1048576) (.ite (ze aO 0) (.ret 0 [Rb]) (.ret 0 [.cb false])) (.ret 0 [.cb false])) (.ret 0 [.cb false])) (.ret 0 [.cb false])))
def Rp:SX:= ze aM 2
def Up:SX:= .op (.scmp .neq) [aO,.cs []]
def Tv:SX:= dv aU aN
def Hr:SX:= zs aT (.ci (-1099511627776))
def Eo:SX:= zt aT 1099511627776
def T_rev:VT:= .ite (dv aM aZ) (.ite (dv aM bn) (.ret 0 [.ci 80]) (.ite (Rp) (.ite (Up) (.ret 0 [bI]) (.ite (Tv) (.ret 0 [bI]) (.ite (Hr) (.ret 0 [bF]) (.ite (Eo) (.ret 0 [bF]) (.ret 0 [aN]))))) (.ite (Hr) (.ret 0 [bF]) (.ite (Eo) (.ret 0 [bF]) (.ret 0 [aN]))))) (.ite (zs (.op .slen [aO]) aZ) (.ret 0 [bI]) (.ite (zt (.op .slen [aO]) 32) (.ret 0 [bI]) (.ite (Rp) (.ite (Up) (.ret 0 [bI]) (.ite (Tv) (.ret 0 [bI]) (.ite (Hr) (.ret 0 [bF]) (.ite (Eo) (.ret 0 [bF]) (.ret 0 [aN]))))) (.ite (Hr) (.ret 0 [bF]) (.ite (Eo) (.ret 0 [bF]) (.ret 0 [aN]))))))
def YG:SX:= .op (.ar .and .i64) [aM,bN]
def d43:SX:= za (.op (.ar .shr .i64) [aM,bJ]) (.op (.ar .shr .i64) [YG,bJ])
def WF:SX:= za aN (.op (.ar .shr .i64) [d43,bJ])
def T_r3of:VT:= .ret 0 [.op (.ar .and .i64) [YG,bN],.op (.ar .and .i64) [d43,bN],.op (.ar .and .i64) [WF,bN],za aN (.op (.ar .shr .i64) [WF,bJ])]
def c06:SX:= za aM aS
def Xk:SX:= za (za aO be) (.op (.ar .shr .i64) [c06,bJ])
def WZ:SX:= za (za aT bd) (.op (.ar .shr .i64) [Xk,bJ])
def T_r3plus:VT:= .ret 0 [.op (.ar .and .i64) [c06,bN],.op (.ar .and .i64) [Xk,bN],.op (.ar .and .i64) [WZ,bN],za (za aU bf) (.op (.ar .shr .i64) [WZ,bJ])]
def kQ:SX:= .op (.ar .or .i64) [.op (.ar .shl .i64) [aO,bJ],aM]
def T_r3fit:VT:= .ite (dJ (zn (cC (bX (.app 810 [kQ]) aN 0) aM) (zn (cC (bX (.app 810 [kQ]) aN 1) aO) (zn (cC (bX (.app 810 [kQ]) aN 2) aT) (cC (bX (.app 810 [kQ]) aN 3) aU))))) (.ret 0 [aN,.cb false]) (.ret 0 [kQ,.cb true])
def tO:SX:= .app 850 [aN,aN,aN,aN,aN,aN,zl 0,aM]
def vY:SX:= zo tO 1
def uP:SX:= zo tO 2
def vZ:SX:= zo tO 3
def uU:SX:= zo tO 4
def e59:VT:= .ite (zs aV (zl 0)) (.need (zp aV) (.ret 0 [zi aV,bX (.app 811 [aR,aW,bj,bp,bX (.app 810 [zg 0 2000 0]) aN 0,bX (.app 810 [zg 0 2000 0]) aN 1,bX (.app 810 [zg 0 2000 0]) aN 2,bX (.app 810 [zg 0 2000 0]) aN 3]) aN 0,bX (.app 811 [aR,aW,bj,bp,bX (.app 810 [zg 0 2000 0]) aN 0,bX (.app 810 [zg 0 2000 0]) aN 1,bX (.app 810 [zg 0 2000 0]) aN 2,bX (.app 810 [zg 0 2000 0]) aN 3]) aN 1,bX (.app 811 [aR,aW,bj,bp,bX (.app 810 [zg 0 2000 0]) aN 0,bX (.app 810 [zg 0 2000 0]) aN 1,bX (.app 810 [zg 0 2000 0]) aN 2,bX (.app 810 [zg 0 2000 0]) aN 3]) aN 2,bX (.app 811 [aR,aW,bj,bp,bX (.app 810 [zg 0 2000 0]) aN 0,bX (.app 810 [zg 0 2000 0]) aN 1,bX (.app 810 [zg 0 2000 0]) aN 2,bX (.app 810 [zg 0 2000 0]) aN 3]) aN 3])) (.ret 1 [aV,aR,aW,bj,bp])
def T_r3Sum:VT:= .loop ⟨850,[aN,aN,aN,aN,aN],2000,[aN,zl 0,aM]⟩ e59 [.ite (dJ (.app 813 [vY,uP,vZ,uU])) (.ret 0 [aN,bL]) (.ret 0 [.app 812 [vY,uP,vZ,uU],aN])]
def Fk:SX:= .app 851 [aN,aN,aN,aN,aN,aN,aN,aN,aN,aN,zl 0,aM,.app 842 [aM]]
def Dh:VT:= .ite (zs aV (zl 0)) (.ite (ze aV 0) (.need (zp aV) (.ret 0 [zi aV,aR,aW,bj,bp,bq,bv,zg 0 2000 0,zg 0 2000 0])) (.need (zp aV) (.ite (zs (zg 0 2000 0) bA) (.ite (fm (zg 0 2000 0) bw) (.ret 0 [zi aV,aR,aW,bj,bp,bq,bv,zg 0 2000 0,zg 0 2000 0]) (.ret 0 [zi aV,aR,aW,bj,bp,bq,bv,zg 0 2000 0,bw])) (.ite (fm (zg 0 2000 0) bw) (.ret 0 [zi aV,aR,aW,bj,bp,bq,bv,bA,zg 0 2000 0]) (.ret 0 [zi aV,aR,aW,bj,bp,bq,bv,bA,bw]))))) (.ret 1 [aV,aR,aW,bj,bp,bq,bv,bA,bw])
def T_rAll:VT:= .need (zb (zl 0) 100) (.ite (dv (.app 843 [aM]) aN) (.ret 0 [aN,aN,aN,aN,.app 843 [aM]]) (.loop ⟨851,[aN,aN,aN,aN,aN,aN,aN,aN,aN],2000,[aN,zl 0,aM,.app 842 [aM]]⟩ Dh [.ret 0 [zl 0,.app 842 [aM],zo Fk 7,zo Fk 8,aN]]))
def dF0:SX:= .op (.ar .mul .i64) [zm (zm (.op (.ar .quo .i64) [aS,aT]) (.op (.ar .quo .i64) [aO,aT])) aZ,aT]
def Xu:SX:= .app 853 [zL ck,dF0,ck,aS,aM,aO,aT,aU]
def dF2:SX:= zo Xu 2
def dF3:SX:= .op (.ar .mul .i64) [zm (zm (.op (.ar .quo .i64) [aS,aO]) (.op (.ar .quo .i64) [aO,aO])) aZ,aO]
def Zb:SX:= .app 853 [zL ck,dF3,ck,aS,aM,aO,aT,aU]
def dF5:SX:= zo Zb 2
def GC:VT:= .ite (fJ aR aS) (.ite (zs aS (za aR aO)) (.need (zn (cC aV (zl 2002)) (zb (zL (zc aW (.op .row [.op .row [aR,za aR aO]]))) 1000000)) (.ite (ze aM 2) (.ret 0 [zL (zc aW (.op .row [.op .row [aR,za aR aO]])),za aR aT,zc aW (.op .row [.op .row [aR,za aR aO]])]) (.ret 0 [zL (zc aW (.op .row [.op .row [aR,za aR aO]])),za aR aO,zc aW (.op .row [.op .row [aR,za aR aO]])]))) (.ite (ze aM 2) (.ret 0 [aV,za aR aT,aW]) (.ret 0 [aV,za aR aO,aW]))) (.ret 1 [aV,aR,aW])
def T_rOf:VT:= .ite (dJ (.app 700 [aM,aO,aT,aU])) (.ret 0 [ck]) (.ite (zs aS (.ci (-1099511627776))) (.ret 0 [ck]) (.ite (zt aS 1099511627776) (.ret 0 [ck]) (.ite (ze aM 3) (.ret 0 [.op .row [.op .row [aS,za aS aU]]]) (.ite (ze aM 2) (.need (dv aT aN) (.loop ⟨853,[zL ck,dF0,ck],2000,[aS,aM,aO,aT,aU]⟩ GC [.need (cC (zo Xu 0) (zL dF2)) (.ret 0 [dF2])])) (.need (dv aO aN) (.loop ⟨853,[zL ck,dF3,ck],2000,[aS,aM,aO,aT,aU]⟩ GC [.need (cC (zo Zb 0) (zL dF5)) (.ret 0 [dF5])]))))))
def kZ:SX:= .app 860 [aN,zL ck,aN,ck,aM,aN,zl 1,aO]
def sF:SX:= zo kZ 3
def tX:SX:= .app 854 [zL sF,.cb true,sF]
def oF:SX:= zo tX 0
def lv:SX:= zo tX 2
def BO:SX:= .app 855 [zL ck,aN,ck,oF,lv]
def Nh:SX:= zo BO 2
def X0:SX:= cC aR (zl 2003)
def X1:SX:= zc bj (.op .row [.op .row [zg 1 2002 0,za (zg 1 2002 0) aM]])
def Pz:VT:= .ite (zs aW (zl 1)) (.need (zp aW) (.ite (gM (zg 1 2002 0) (.ci (-1099511627776))) (.ite (dJ (zb (zg 1 2002 0) 1099511627776)) (.ret 2 [bn,aR,aW,bj]) (.need (zn X0 (zb (zL X1) 1000000)) (.ret 0 [aV,zL X1,zi aW,X1]))) (.ret 2 [bn,aR,aW,bj]))) (.ret 1 [aV,aR,aW,bj])
def X2:SX:= cC bG (zl 6002)
def X3:SX:= zc bC (.op .row [.op .row [zg 2002 6001 0,zg 2002 6001 1]])
def NR:VT:= .need (zp aV) (.ite (zs bx aV) (.ite (dv bx bg) (.ite (dv bx bD) (.need (zp bx) (.need (zs bx (zl 2002)) (.need (zn X2 (zb (zL X3) 1000000)) (.ret 0 [zL X3,zi bx,X3])))) (.ret 0 [bG,zi bx,bC])) (.ret 0 [bG,zi bx,bC])) (.ret 1 [bG,bx,bC]))
def X4:SX:= .op .row [.op .row [.op .imin [zg 2002 4001 0,zg 2002 5001 0],.op .imax [zg 2002 4001 1,zg 2002 5001 1]]]
def X5:SX:= .app 859 [zL X4,aN,X4,aV,aW,bg,bD]
def OI:VT:= .need (zp aV) (.ite (zs bD aV) (.need (zn (zp bg) (zs bg aV)) (.need (zs bg (zl 2002)) (.need (zp bD) (.need (zs bD (zl 2002)) (.ite (zs (zg 2002 4001 0) (zg 2002 5001 1)) (.ite (dJ (zs (zg 2002 5001 0) (zg 2002 4001 1))) (.ret 0 [.va 5000,zi bD]) (.loop ⟨859,[zL X4,aN,X4],6000,[aV,aW,bg,bD]⟩ NR [.need (cC (zo X5 0) (zL (zo X5 2))) (.ret 2 [zL (zo X5 2),.cb true,bD,zo X5 2])])) (.ret 0 [.va 5000,zi bD])))))) (.ret 1 [.va 5000,bD]))
def X6:SX:= .app 858 [bu,zi bg,aV,aW,bg]
def Pr:VT:= .need (zp aV) (.ite (zs bg aV) (.loop ⟨858,[bu,zi bg],5000,[aV,aW,bg]⟩ OI [.ret 0 [zo X6 0,zi bg],.need (cC (zo X6 0) (zL (zo X6 3))) (.ret 2 [zL (zo X6 3),zo X6 1,bg,zo X6 3])]) (.ret 1 [bu,bg]))
def X7:SX:= .app 857 [.cb false,aN,aV,aW]
def Hw:VT:= .ite aR (.loop ⟨857,[.cb false,aN],4000,[aV,aW]⟩ Pr [.ret 0 [aV,.cb false,aW],.need (cC (zo X7 0) (zL (zo X7 3))) (.ret 0 [zL (zo X7 3),zo X7 1,zo X7 3])]) (.ret 1 [aV,aR,aW])
def X8:SX:= zc aW (.op .row [.op .row [bX lv aR 0,bX lv aR 1]])
def X9:SX:= bX bc (zm aY aZ) 0
def Mw:SX:= .op .lset [bc,zm aY aZ,.op .row [zg 3001 3000 0,zg 3001 3000 1]]
def Oe:VT:= .ite (zt aY 0) (.need (zn (zp (zm aY aZ)) (zs (zm aY aZ) (zL X8))) (.need (zs (zm aY aZ) (zl 3001)) (.need (zn (zp aY) (zs aY (zL X8))) (.need (zs aY (zl 3001)) (.ite (fm X9 (zg 3001 3000 0)) (.need (zs aY (zL Mw)) (.ret 0 [zm aY aZ,.op .lset [Mw,aY,.op .row [X9,bX bc (zm aY aZ) 1]]])) (.ret 1 [aY,bc])))))) (.ret 1 [aY,bc])
def LP:SX:= cC aV (zl 2002)
def At:SX:= zo (.app 856 [aR,X8,oF,lv,zL X8,X8,aR]) 1
def e60:VT:= .need (zp oF) (.ite (zs aR oF) (.need (zp aR) (.need (zs aR (zL lv)) (.need (zn LP (zb (zL X8) 1000000)) (.loop ⟨856,[aR,X8],3000,[oF,lv,zL X8,X8,aR]⟩ Oe [.need (cC (zL X8) (zL At)) (.ret 0 [zL At,zi aR,At])])))) (.ret 1 [aV,aR,aW]))
def T_sOf:VT:= .ite (gM aM aZ) (.ite (dJ (zb aM 1048576)) (.ret 0 [bn,ck]) (.loop ⟨860,[aN,zL ck,aN,ck],2000,[aM,aN,zl 1,aO]⟩ Pz [.need (cC (zo kZ 1) (zL sF)) (.loop ⟨854,[zL sF,.cb true,sF],2000,[]⟩ Hw [.loop ⟨855,[zL ck,aN,ck],2000,[oF,lv]⟩ e60 [.need (cC (zo BO 0) (zL Nh)) (.ret 0 [aN,Nh])]]),.ret 0 [zo kZ 0,ck]])) (.ret 0 [bn,ck])
def TK:VT:= .ite (zs aR (zl 0)) (.need (zp aR) (.ite (zn (.op (.scmp .eql) [zg 0 2001 0,aO]) (zn (cC (zg 0 2001 1) aT) (cC (zg 0 2001 2) aU))) (.ret 2 [.cb true,aR]) (.ret 0 [aV,zi aR]))) (.ret 1 [aV,aR])
def T_has:VT:= .loop ⟨864,[.cb false,aN],2000,[aN,zl 0,aM,aO,aT,aU]⟩ TK [.ret 0 [.cb false],.ret 0 [zo (.app 864 [.cb false,aN,aN,zl 0,aM,aO,aT,aU]) 0]]
def tp:SX:= .app 861 [zL ck,aN,ck,aN,zl 4,aS,be,aM,aO,aT,aU]
def lT:SX:= zo tp 0
def nf:SX:= zo tp 2
def wU:SX:= .op .lsub [nf,aN,lT]
def nD:SX:= .app 824 [aU,wU]
def Jz:SX:= .app 862 [zL ck,aN,ck,zL nD,nD]
def Mz:SX:= zo Jz 2
def Mp:SX:= .app 863 [zL ck,aN,ck,aM,aO,aT,aU,lT,nf]
def ML:SX:= zo Mp 2
def X13:SX:= zs aR (zl 4)
def RH:SX:= zc aW (.op .row [.op .row [zg 4 2001 2]])
def ec0:VT:= .ite X13 (.need (zp aR) (.ite (.op (.scmp .eql) [zg 4 2001 1,be]) (.need (zn LP (zb (zL RH) 1000000)) (.ret 0 [zL RH,zi aR,RH])) (.ret 0 [aV,zi aR,aW]))) (.ret 1 [aV,aR,aW])
def Nz:SX:= zc aW (.op .row [.op .row [bX nD aR 0,bX nD aR 1]])
def ec1:VT:= .ite (zs aR (zL nD)) (.need (zp aR) (.need (zn LP (zb (zL Nz) 1000000)) (.ret 0 [zL Nz,zi aR,Nz]))) (.ret 1 [aV,aR,aW])
def wd:SX:= zc aW (.app 704 [aM,aO,aT,aU,bX nf aR 0])
def Ug:VT:= .need (zp lT) (.ite (zs aR lT) (.need (zp aR) (.need (zs aR (zL nf)) (.need (zn LP (zb (zL wd) 1000000)) (.ret 0 [zL wd,zi aR,wd])))) (.ret 1 [aV,aR,aW]))
def T_rSpans:VT:= .loop ⟨861,[zL ck,aN,ck],2000,[aN,zl 4,aS,be,aM,aO,aT,aU]⟩ ec0 [.ite (ze aM 3) (.need (zn (zn (zp lT) (fJ lT (zL nf))) (zb (zL wU) 100)) (.loop ⟨862,[zL ck,aN,ck],2000,[zL nD,nD]⟩ ec1 [.need (cC (zo Jz 0) (zL Mz)) (.ret 0 [Mz])])) (.loop ⟨863,[zL ck,aN,ck],2000,[aM,aO,aT,aU,lT,nf]⟩ Ug [.need (cC (zo Mp 0) (zL ML)) (.ret 0 [ML])])]
def tf:SX:= .app 865 [.cb false,zL ck,aN,ck,aN,zl 4,aS,aM,aO,aT,aU]
def DC:SX:= zo tf 1
def MK:SX:= zo tf 3
def xJ:SX:= .op .lsub [MK,aN,DC]
def dR:SX:= .app 826 [aM,aO,aT,aU,aS,zg 4 2002 1]
def yc:SX:= zc bC (.op .row [.op .row [zg 4 6001 3]])
def Kt:VT:= .ite (zs bx (zl 4)) (.need (zp bx) (.ite (.op (.scmp .eql) [zg 4 6001 1,zg 4 2002 1]) (.need (zn (zp bm) (zs bm (zL dR))) (.ite (gM (zg 4 6001 2) (bX dR bm 0)) (.ite (zs (zg 4 6001 2) (bX dR bm 1)) (.need (zn X2 (zb (zL yc) 1000000)) (.ret 0 [zL yc,zi bx,yc])) (.ret 0 [bG,zi bx,bC])) (.ret 0 [bG,zi bx,bC]))) (.ret 0 [bG,zi bx,bC]))) (.ret 1 [bG,bx,bC])
def X19:SX:= zs aW (zl 4)
def oW:SX:= .app 867 [zL ck,aN,ck,aN,zl 4,aS,aM,aO,aT,aU,bg,bE,aW,zL dR,dR,bm,zg 4 2002 1,bX dR bm 0,bX dR bm 1]
def mH:SX:= .op .lsub [zo oW 2,aN,zo oW 0]
def zG:SX:= zc bE (.op .row [.op .row [zg 4 2002 1,bX dR bm 0,bX dR bm 1,bX (.app 820 [mH]) aN 0,bX (.app 820 [mH]) aN 1,bX (.app 820 [mH]) aN 2,bX (.app 820 [mH]) aN 3]])
def OG:VT:= .ite (zs bm (zL dR)) (.need (zn (zp aW) X19) (.need (zp bm) (.need (zn (zn (zp bg) (fJ bg (zl 4003))) (zb (zL (.op .lsub [bE,aN,bg])) 1000000)) (.ite (.app 827 [.op .lsub [bE,aN,bg],zg 4 2002 1,bX dR bm 0,bX dR bm 1]) (.ret 0 [bu,bg,zi bm,bE]) (.loop ⟨867,[zL ck,aN,ck],6000,[aN,zl 4,aS,aM,aO,aT,aU,bg,bE,aW,zL dR,dR,bm,zg 4 2002 1,bX dR bm 0,bX dR bm 1]⟩ Kt [.need (zn (zn (zp (zo oW 0)) (fJ (zo oW 0) (zL (zo oW 2)))) (zb (zL mH) 100)) (.ite (dv (.app 843 [mH]) aN) (.ret 2 [.cb false,bg,bm,bE]) (.need (zn (cC bg (zl 4003)) (zb (zL zG) 1000000)) (.ret 0 [bu,zL zG,zi bm,zG])))]))))) (.ret 1 [bu,bg,bm,bE])
def fh:SX:= .app 866 [aV,zl 2003,aN,bj,aN,zl 4,aS,aM,aO,aT,aU,aW,zL dR,dR]
def X24:SX:= cC (zo fh 1) (zL (zo fh 3))
def Rj:VT:= .ite X19 (.need (zp aW) (.need (zb (zl 4) 100) (.need X0 (.loop ⟨866,[aV,zl 2003,aN,bj],4000,[aN,zl 4,aS,aM,aO,aT,aU,aW,zL dR,dR]⟩ OG [.need X24 (.ret 0 [zo fh 0,zL (zo fh 3),zi aW,zo fh 3]),.need X24 (.ret 2 [zo fh 0,zL (zo fh 3),aW,zo fh 3])])))) (.ret 1 [aV,aR,aW,bj])
def T_rRows:VT:= .loop ⟨865,[.cb false,zL ck,aN,ck],2000,[aN,zl 4,aS,aM,aO,aT,aU]⟩ Rj [.need (zn (zn (zp DC) (fJ DC (zL MK))) (zn (zb (zL xJ) 400) (.app 431 [xJ]))) (.ret 0 [.cb true,.app 490 [xJ]]),.ret 0 [zo tf 0,ck]]
def Ku:SX:= .app 868 [zL ck,aN,ck,aN,zl 0,aM,aO]
def LC:SX:= zo Ku 2
def e61:VT:= .ite (zs aR (zl 0)) (.need (zp aR) (.ite (fJ (zg 0 2001 2) aO) (.need (zn (cC aV (zl 2002)) (zb (zL (zc aW (.op .row [zv 0 2001]))) 1000000)) (.ret 0 [zL (zc aW (.op .row [zv 0 2001])),zi aR,zc aW (.op .row [zv 0 2001])])) (.ret 0 [aV,zi aR,aW]))) (.ret 1 [aV,aR,aW])
def T_rFired:VT:= .loop ⟨868,[zL ck,aN,ck],2000,[aN,zl 0,aM,aO]⟩ e61 [.need (cC (zo Ku 0) (zL LC)) (.ret 0 [LC])]
def L852:VT:= .ite (zs aR (zl 0)) (.need (zp aR) (.need (zs aR (zl 1)) (.ite (dJ (zn (zn (.op (.scmp .eql) [zg 0 2001 0,zg 1 2001 0]) (zn (cC (zg 0 2001 1) (zg 1 2001 1)) (cC (zg 0 2001 2) (zg 1 2001 2)))) (zn (cC (zg 0 2001 3) (zg 1 2001 3)) (zn (cC (zg 0 2001 4) (zg 1 2001 4)) (zn (cC (zg 0 2001 5) (zg 1 2001 5)) (cC (zg 0 2001 6) (zg 1 2001 6))))))) (.ret 2 [.cb false,aR]) (.ret 0 [aV,zi aR])))) (.ret 1 [aV,aR])
def T_sameV:VT:= .ite (dv (zl 0) (zl 1)) (.ret 0 [.cb false]) (.loop ⟨852,[.cb false,aN],2000,[aN,zl 0,aM,aN,zl 1,aO]⟩ L852 [.ret 0 [.cb true],.ret 0 [zo (.app 852 [.cb false,aN,aN,zl 0,aM,aN,zl 1,aO]) 0]])
def iN:SX:= zL (.app 490 [aS])
def uG:SX:= zo (.app 763 [aN,aN,iN,.app 490 [aS],be,iN]) 0
def EV:SX:= zi uG
def Hz:SX:= .app 764 [uG,EV,.app 490 [aS],iN,.app 490 [aS],be]
def nG:SX:= zo Hz 0
def PS:SX:= zp nG
def zA:SX:= .op .isub [iN,nG]
def JA:SX:= .op .iadd [nG,zA]
def vA:SX:= zo Hz 2
def KW:SX:= zc (.op .lsub [vA,aN,nG]) (zc (.op .lrep [zA,.op .row [.cs [],aN,aN,aN,aN,aN,aN]]) (.op .lsub [vA,JA,zL vA]))
def Ru:VT:= .ite (zs aR iN) (.need (zp aR) (.ite (fm (bX (.app 490 [aS]) aR 2) be) (.ret 2 [aR,aR]) (.ret 0 [aV,zi aR]))) (.ret 1 [aV,aR])
def UM:VT:= .ite (zs aR iN) (.need (zp aR) (.need (zs aR (zl 2002)) (.ite (dJ (fm (zg 2002 2001 2) be)) (.need (zn (zp aV) (zs aV iN)) (.need (zs aV (zl 2002)) (.ret 0 [zi aV,zi aR,.op .lset [aW,aV,zv 2002 2001]]))) (.ret 0 [aV,zi aR,aW])))) (.ret 1 [aV,aR,aW])
def T_fired:VT:= .need (zn (zn (zb (zl 4) 400) (.app 431 [aS])) (.app 491 [aS])) (.loop ⟨763,[aN,aN],2000,[iN,.app 490 [aS],be,iN]⟩ Ru [.ret 0 [.app 490 [aS]],.ite (cC uG (.ci (-1))) (.ret 0 [.app 490 [aS]]) (.loop ⟨764,[uG,EV,.app 490 [aS]],2000,[iN,.app 490 [aS],be]⟩ UM [.need (zn PS (fJ nG iN)) (.need (zn (zn PS (zp zA)) (zn (zb zA 1000000) (fJ JA (zL vA)))) (.need (fJ nG (zL KW)) (.ret 0 [.op .lsub [KW,aN,nG]])))])])
variable{I:Opq}{n v0:Nat}
def dF8(l:List Val)(mark:Int)(i:Nat):List Val:=bif decide (ci (bW l i) 2<=mark)then [cK (bW l i)]else []
def sk(l:List Val)(mark:Int):List Val:=cn (dF8 l mark) l.length
def ec2(l:List Val)(i:Nat):List Val:=bif decide (ci (bW l i) 0=1)then [El (bW l i)]else []
def HW(l:List Val):List Val:=cn (ec2 l) l.length
def Vk(l:List Val):List Val:=cn (λi=>[El (bW l i)]) l.length
def JU(l:List Val)(key:List UInt8)(i:Nat):List Val:=bif decide ((Z7 (bW l i) 1).toS=key)then [.vl [Z7 (bW l i) 2]]else []
def kX(l:List Val)(key:List UInt8):List Val:=cn (JU l key) l.length
def Za(l:List Val):Nat->Nat×List Val
 |0=>(0,[.vi 0,.vi (-1)])
 |k+1=>if ci (bW l k) 0=2 then(1,[Z7 (bW l k) 2,.vi k])else Za l k
def ES(l:List Val):Nat->Val
 |0=> .vi (-2199023255552)
 |k+1=>if ci (bW l k) 0=2 then Z7 (bW l k) 2 else ES l k
def Bj(l:List Val)(p:PaneM)(i:Nat):Bool:=decide (Z2 (bW l i)=p)
def Rl(n:Int):Int:=cg .and .i64 n 4294967295
def Kl(n:Int):Int:=cg .add .i64 (cg .shr .i64 n 32) (cg .shr .i64 (Rl n) 32)
def If(n:Int):Int:=cg .add .i64 0 (cg .shr .i64 (Kl n) 32)
def gp(n:Int):List Int:=[cg .and .i64 (Rl n) 4294967295,cg .and .i64 (Kl n) 4294967295,cg .and .i64 (If n) 4294967295,cg .add .i64 0 (cg .shr .i64 (If n) 32)]
def Te(x y:List Int):Int:=cg .add .i64 (x.getD 0 0) (y.getD 0 0)
def IA(x y:List Int):Int:=cg .add .i64 (cg .add .i64 (x.getD 1 0) (y.getD 1 0)) (cg .shr .i64 (Te x y) 32)
def MQ(x y:List Int):Int:=cg .add .i64 (cg .add .i64 (x.getD 2 0) (y.getD 2 0)) (cg .shr .i64 (IA x y) 32)
def rB(x y:List Int):List Int:=[cg .and .i64 (Te x y) 4294967295,cg .and .i64 (IA x y) 4294967295,cg .and .i64 (MQ x y) 4294967295,cg .add .i64 (cg .add .i64 (x.getD 3 0) (y.getD 3 0)) (cg .shr .i64 (MQ x y) 32)]
def bk(a b:Int):Int:=cg .or .i64 (cg .shl .i64 b 32) a
def nr(w:List Int):Bool:=decide (gp (bk (w.getD 0 0) (w.getD 1 0))=[w.getD 0 0,w.getD 1 0,w.getD 2 0,w.getD 3 0])
def mr(l:List Val):Nat->List Int
 |0=>[0,0,0,0]
 |k+1=>rB (mr l k) (gp (ci (bW l k) 0))
def vI(l:List Int):List Val:=l.map .vi
def yX(a:List Val)(i:Nat):List Int:=[(bV a i).toI,(bV a (i+1)).toI,(bV a (i+2)).toI,(bV a (i+3)).toI]
def ff(l:List Val):Nat->Val×Val
 |0=>(.vi 0,.vi 0)
 |k+1=>if k=0 then(Z7 (bW l k) 0,Z7 (bW l k) 0)else(if ci (bW l k) 0<(ff l k).1.toI then Z7 (bW l k) 0 else(ff l k).1,if(ff l k).2.toI<ci (bW l k) 0 then Z7 (bW l k) 0 else(ff l k).2)
def Ck(v0:Nat)(row:SX):SX:= zc (.va (v0+2)) (.op .row [row])
def CB(v0:Nat)(row:SX):VT:= .need (zn (cC (.va v0) (zL (.va (v0+2)))) (zb (zL (Ck v0 row)) 1000000)) (.ret 0 [zL (Ck v0 row),zi (.va (v0+1)),Ck v0 row])
def Fd(v0:Nat):VT:= .ret 0 [.va v0,zi (.va (v0+1)),.va (v0+2)]
def Gt(v0:Nat)(N:SX)(b:VT):VT:= .ite (zs (.va (v0+1)) N) (.need (zp (.va (v0+1))) b) (.ret 1 [.va v0,.va (v0+1),.va (v0+2)])
theorem kW(I:Opq)(v0:Nat)(a b c:Val):(I.upd v0 [a,b,c]).w v0=a:=by rw[cM];simp
theorem fX(I:Opq)(v0:Nat)(a b c:Val):(I.upd v0 [a,b,c]).w (v0+1)=b:=by rw[cM];simp
theorem kP(I:Opq)(v0:Nat)(a b c:Val):(I.upd v0 [a,b,c]).w (v0+2)=c:=by rw[cM];simp
theorem cN(I:Opq)(v0:Nat)(l:List Val)(h:n<v0):(I.upd v0 l).w n=I.w n:=by simp_all[cM,b9]
theorem Ir{row:SX}{i:Nat}{acc:List Val}{x:Val}(h0:I.w v0= .vi acc.length)(h1:I.w (v0+1)= .vi i)(h2:I.w (v0+2)= .vl acc)(hr:bU I row=x)(hi:i<1000000)(ha:acc.length<1000000):
 W7 (CB v0 row) I=some (0,[.vi (acc++[x]).length,.vi (i+1:Nat),.vl (acc++[x])]):=by
 have inc:cg .add .i64 (Val.vi (i:Int)).toI 1=((i+1:Nat):Int):=eH (n:=1000000) hi (by omega);have dc:bU I (Ck v0 row)= .vl (acc++[x]):=by
  show Val.vl ((I.w (v0+2)).toL++[bU I row])=_;simp_all
 refine W8 ?_ ?_
 .rw[db,dX,cB,co,h0,Z8,Z8,dN,h2,cx,dc];grind[wo]
 .show some (0,[Val.vi (bU I (Ck v0 row)).toL.length,Val.vi (cg .add .i64 (I.w (v0+1)).toI 1),bU I (Ck v0 row)])=_;simp_all
theorem TM{i:Nat}{acc:List Val}(h0:I.w v0= .vi acc.length)(h1:I.w (v0+1)= .vi i)(h2:I.w (v0+2)= .vl acc)(hi:i<1000000):
 W7 (Fd v0) I=some (0,[.vi acc.length,.vi (i+1:Nat),.vl acc]):=by
 have inc:cg .add .i64 (Val.vi (i:Int)).toI 1=((i+1:Nat):Int):=eH (n:=1000000) hi (by omega);show some (0,[I.w v0,Val.vi (cg .add .i64 (I.w (v0+1)).toI 1),I.w (v0+2)])=_;grind
theorem Qg{N:SX}{b:VT}{g:Nat->List Val}(hn:n<=100000)(hg: ∀i,(g i).length<=1)(hN: ∀vs,(bU (I.upd v0 vs) N).toI=n)
 (hb: ∀i acc,i<n->acc.length<=i->W7 b (I.upd v0 [.vi acc.length,.vi i,.vl acc])=some (0,[.vi (acc++g i).length,.vi (i+1:Nat),.vl (acc++g i)])):
 cI (λvs=>W7 (Gt v0 N b) (I.upd v0 vs)) [.vi 0,.vi 0,.vl []]=some (0,[.vi (cn g n).length,.vi n,.vl (cn g n)]):=by
 have hl: ∀i,(cn g i).length<=i:=λi=>by have:=je hg i;omega
 refine eG (st:=λi=>[.vi (cn g i).length,.vi i,.vl (cn g i)]) (n:=n) (λi hi=> ?_) ?_
 .refine cy ?_ (W8 ?_ (hb i (cn g i) hi (hl i)))
  .rw[cP,co,fX,hN];exact e9 (by show(i:Int)<(n:Int);omega)
  simp_all[cB,cx,co,fX,e9]
 .refine cu ?_ ?_
  .simp_all[cP,co,fX,j5]
  .show some (1,[(I.upd v0 _).w v0,(I.upd v0 _).w (v0+1),(I.upd v0 _).w (v0+2)])=_;rw[kW,fX,kP]
theorem d45{N c row:SX}{p:Nat->Bool}{f:Nat->Val}(hn:n<=100000)(hN: ∀vs,(bU (I.upd v0 vs) N).toI=n)
 (hc: ∀i a acc,i<n->dB (I.upd v0 [a,.vi i,acc]) c=p i) (hr: ∀i a acc,i<n->bU (I.upd v0 [a,.vi i,acc]) row=f i):
 cI (λvs=>W7 (Gt v0 N (.ite c (CB v0 row) (Fd v0))) (I.upd v0 vs)) [.vi 0,.vi 0,.vl []]=some (0,[.vi (cn (λi=>bif p i then [f i]else []) n).length,.vi n,.vl (cn (λi=>bif p i then [f i]else []) n)]):=by
 refine Qg hn (λi=>by grind) hN λi acc hi ha=> ?_
 cases h:p i with
 |true=>exact cy ((hc i _ _ hi).trans h) (Ir (kW ..) (fX ..) (kP ..) (hr i _ _ hi) (by omega) (by omega))
 |false=>
  rw[cond_false,s6];exact cu ((hc i _ _ hi).trans h) (TM (kW ..) (fX ..) (kP ..) (by omega))
theorem YA{N row:SX}{f:Nat->Val}(hn:n<=100000)(hN: ∀vs,(bU (I.upd v0 vs) N).toI=n)(hr: ∀i a acc,i<n->bU (I.upd v0 [a,.vi i,acc]) row=f i):
 cI (λvs=>W7 (Gt v0 N (CB v0 row)) (I.upd v0 vs)) [.vi 0,.vi 0,.vl []]=some (0,[.vi (cn (λi=>[f i]) n).length,.vi n,.vl (cn (λi=>[f i]) n)]):=
 Qg hn (λi=>by simp) hN λi acc hi ha=>Ir (kW ..) (fX ..) (kP ..) (hr i _ _ hi) (by omega) (by omega)
theorem Kp{q l:SX}{g:List Val}(e:bU I q=cr (0,[.vi g.length,.vi n,.vl g]))(hl:bU I l= .vl g){r:Option (Nat×List Val)}{T:VT}(h:W7 T I=r):
 W7 (.need (cC (zo q 0) (zL l)) T) I=r:=by
 refine W8 ?_ h;have:bU I (zo q 0)= .vi g.length:=by
  show bZ (bU I q).toL 1 0=_;rw[e];rfl
 rw[dX,this,Z8,hl];exact e9 rfl
end Go.Ev.S9
namespace Go.Ev.S9
open Go Go.Ev
def jf(q k j:Nat):SX:= .op .lget [.va q,.va k,.ci j]
def Qw(q k:Nat):SX:= .op .row [jf q k 0,jf q k 1,jf q k 2,jf q k 3,jf q k 4,jf q k 5,jf q k 6]
theorem dl3:e61=Gt 2000 (zl 0) (.ite (fJ (jf 0 2001 2) aO) (CB 2000 (Qw 0 2001)) (Fd 2000)):=rfl
theorem tD{I:Opq}{q k:Nat}{i:Nat}(h:I.w k= .vi i)(j:Nat):bU I (jf q k j)=Z7 (bW (I.w q).toL i) j:=by
 show bZ (I.w q).toL (I.w k).toI (j:Int)=_;rw[h];rfl
theorem cU4{I:Opq}{q k:Nat}{i:Nat}(h:I.w k= .vi i):bU I (Qw q k)=cK (bW (I.w q).toL i):=by
 show Val.vl [bU I (jf q k (0:Nat)),bU I (jf q k (1:Nat)),bU I (jf q k (2:Nat)),bU I (jf q k (3:Nat)),bU I (jf q k (4:Nat)),bU I (jf q k (5:Nat)),bU I (jf q k (6:Nat))]=_;rw[tD h,tD h,tD h,tD h,tD h,tD h,tD h];rfl
def mF(g:List Val)(n:Nat):Val:=cr (0,[.vi g.length,.vi n,.vl g])
def ec3(a:List Val):Val:=mF (HW (bV a 5).toL) (bV a 5).toL.length
def e63(a:List Val):Val:=mF (sk (bV a 5).toL (bV a 6).toI) (bV a 5).toL.length
def ec4(a:List Val):Val:=mF (Vk (bV a 5).toL) (bV a 5).toL.length
def ec5(a:List Val):Val:=cr (Za (bV a 4).toL (bV a 4).toL.length)
def Wv(a:List Val):Val:=cr (gv (.vb false) (λk=>[.vb true,.vi k]) (Bj (bV a 4).toL ⟨(bV a 5).toS,(bV a 6).toI,(bV a 7).toI⟩) (bV a 4).toL.length)
variable{I:Opq}
theorem cU5(hf: ∀a,I.f 868 a=e63 a)(hn:(I.w 0).toL.length<=400):W7 T_rFired I=some (0,[.vl (sk (I.w 0).toL (I.w 1).toI)]):=by
 have e0:bU I Ku=cr (0,[.vi (sk (I.w 0).toL (I.w 1).toI).length,.vi (I.w 0).toL.length,.vl (sk (I.w 0).toL (I.w 1).toI)]):=by
  show I.f 868 [.vi 0,.vi 0,.vl [],.vi 0,.vi (I.w 0).toL.length,I.w 0,I.w 1]=_;rw[hf];rfl
 have d1:bU I LC= .vl (sk (I.w 0).toL (I.w 1).toI):=by
  show bZ (bU I Ku).toL 1 2=_;rw[e0];rfl
 refine Z3 (r:=(0,[.vi (sk (I.w 0).toL (I.w 1).toI).length,.vi (I.w 0).toL.length,.vl (sk (I.w 0).toL (I.w 1).toI)])) ?_ e0 (Kp e0 d1 ?_)
 .rw[dl3];refine d45 (p:=λi=>decide (ci (bW (I.w 0).toL i) 2<=(I.w 1).toI)) (f:=λi=>cK (bW (I.w 0).toL i)) (n:=(I.w 0).toL.length) (by omega) (λvs=> ?_) (λi a acc hi=> ?_) (λi a acc hi=> ?_)
  .rw[Z8,dN,cN _ _ _ (by omega)]
  .rfl
  rfl
 .show some (0,[bU I LC])=_;rw[d1]
theorem dW5(hf: ∀a,I.f 864 a=Wv a)(hn:(I.w 0).toL.length<=1000000):W7 T_has I=some (0,[.vb ((I.w 0).toL.any λr=>decide (Z2 r=⟨(I.w 1).toS,(I.w 2).toI,(I.w 3).toI⟩))]):=by
 have e0:I.f 864 [.vb false,.vi 0,.vi 0,.vi (I.w 0).toL.length,I.w 0,I.w 1,I.w 2,I.w 3]=cr (gv (.vb false) (λk=>[.vb true,.vi k]) (Bj (I.w 0).toL ⟨(I.w 1).toS,(I.w 2).toI,(I.w 3).toI⟩) (I.w 0).toL.length):=by rw[hf];rfl
 have h0:=Ek (x:= .vb false) (px:=λk=>[.vb true,.vi k]) (bad:=Bj (I.w 0).toL ⟨(I.w 1).toS,(I.w 2).toI,(I.w 3).toI⟩) (n:=(I.w 0).toL.length);have hany:(List.range (I.w 0).toL.length).any (Bj (I.w 0).toL ⟨(I.w 1).toS,(I.w 2).toI,(I.w 3).toI⟩)=(I.w 0).toL.any λr=>decide (Z2 r=⟨(I.w 1).toS,(I.w 2).toI,(I.w 3).toI⟩):=bw8 (λr=>decide (Z2 r=⟨(I.w 1).toS,(I.w 2).toI,(I.w 3).toI⟩)) (.vl []) (I.w 0).toL
 refine Z3 (r:=gv (.vb false) (λk=>[.vb true,.vi k]) (Bj (I.w 0).toL ⟨(I.w 1).toS,(I.w 2).toI,(I.w 3).toI⟩) (I.w 0).toL.length) ?_ e0 ?_
 .show cI _ [.vb false,.vi 0]=_;have hd: ∀i,dB (I.upd 2000 [.vb false,.vi (i:Nat)]) (zn (.op (.scmp .eql) [zg 0 2001 0,aO]) (zn (cC (zg 0 2001 1) aT) (cC (zg 0 2001 2) aU)))=Bj (I.w 0).toL ⟨(I.w 1).toS,(I.w 2).toI,(I.w 3).toI⟩ i:=λi=>by
   show(decide ((Z2 (bW (I.w 0).toL i)).key=(I.w 1).toS)&&(decide ((Z2 (bW (I.w 0).toL i)).a=(I.w 2).toI)&&decide ((Z2 (bW (I.w 0).toL i)).b=(I.w 3).toI)))=decide (Z2 (bW (I.w 0).toL i)=⟨(I.w 1).toS,(I.w 2).toI,(I.w 3).toI⟩);generalize Z2 (bW (I.w 0).toL i)=p;cases p;grind
  have hv: ∀i,(I.upd 2000 [.vb false,.vi (i:Nat)]).w 2001= .vi i:=λi=>by rfl
  have hv0: ∀i,(I.upd 2000 [.vb false,.vi (i:Nat)]).w 2000= .vb false:=λi=>by rfl
  refine ws (λi hi hb=> ?_) (λi hi hb=> ?_) ?_
  .refine cy ?_ (W8 ?_ (cu ((hd i).trans hb) ?_))
   .simp_all[cP,co,Z8,dN,cN,e9]
   .rfl
   .show some (0,[(I.upd 2000 [.vb false,.vi i]).w 2000,Val.vi (cg .add .i64 ((I.upd 2000 [.vb false,.vi i]).w 2001).toI 1)])=_;grind[a06,eH]
  .show W7 TK (I.upd 2000 [.vb false,.vi i])=_;refine cy ?_ (W8 ?_ (cy ((hd i).trans hb) ?_))
   .rw[cP,co,hv,Z8,dN,cN _ _ _ (by omega)];exact e9 (by show(i:Int)<_;omega)
   .exact e9 (by show(0:Int)<=(i:Int);omega)
   rfl
  .show W7 TK (I.upd 2000 [.vb false,.vi (I.w 0).toL.length])=_;refine cu ?_ ?_
   .rw[cP,co,hv,Z8,dN,cN _ _ _ (by omega)];exact j5 (by show¬((I.w 0).toL.length:Int)<_;omega)
   rfl
 .rw[h0]at e0;rw[h0,hany];rw[hany]at e0;cases hb:(I.w 0).toL.any λr=>decide (Z2 r=⟨(I.w 1).toS,(I.w 2).toI,(I.w 3).toI⟩)with
  |true=>
   rw[hb]at e0;show some (0,[bZ (I.f 864 [.vb false,.vi 0,.vi 0,.vi (I.w 0).toL.length,I.w 0,I.w 1,I.w 2,I.w 3]).toL 1 0])=_;rw[e0];rfl
  |false=>rfl
end Go.Ev.S9
namespace Go.Ev.S9
open Go Go.Ev
variable{I:Opq}
theorem cU6:W7 T_rRight I=some (0,[Val.vb (cT (I.w 0).toI (I.w 1).toI (I.w 2).toI (I.w 3).toI)]):=by
 unfold T_rRight Nw Sl Rb RT cT;generalize ha:(I.w 0).toI=a;generalize hb:(I.w 1).toI=b;generalize hc:(I.w 2).toI=c;generalize hd:(I.w 3).toI=d;by_cases k1:a=1
 .by_cases q1:1<=b<;>by_cases q2:b<=1048576<;>by_cases q3:c=0<;>simp[W7,Z6,bU,dB,cA,ha,hb,hc,hd,k1,q1,q2,q3]
 by_cases k2:a=2
 .by_cases q1:1<=b<;>by_cases q2:b<=1048576<;>by_cases q3:1<=c<;>by_cases q4:c<=1048576<;>try (simp[W7,Z6,bU,dB,cA,ha,hb,hc,hd,k1,k2,q1,q2,q3,q4];done)
  have m1:cg .rem .i64 b c=b % c:=by
   exact S6 (by omega)
  have m2:cg .quo .i64 b c=b/c:=by
   show IntKind.i64.wrap (b.tdiv c)=b/c;have h1:0<=b/c:=S8 (by omega) (by omega);have h2:b/c<=b:=O9 _ (by omega);grind[mG]
  have c0: ¬c=0:=by omega
  by_cases q5:d=0<;>by_cases q6:b % c=0<;>simp[W7,Z6,bU,dB,cA,ha,hb,hc,hd,k1,k2,q1,q2,q3,q4,q5,q6,m1,m2,c0]
 .by_cases k3:a=3
  .by_cases q1:1<=d<;>by_cases q2:d<=1048576<;>by_cases q3:b=0<;>simp[W7,Z6,bU,dB,cA,ha,hb,hc,hd,k1,k2,k3,q1,q2,q3]
  simp_all[W7,Z6,bU,dB,cA]
theorem dW6:W7 T_rev I=some (0,[Val.vi (Z9 (I.w 0).toI (I.w 1).toS (I.w 2).toI (I.w 3).toI)]):=by
 unfold T_rev Rp Up Tv Hr Eo Z9 ep;generalize ha:(I.w 0).toI=a;generalize hk:(I.w 1).toS=k;generalize ht:(I.w 2).toI=t;generalize hv:(I.w 3).toI=v;have tt: ∀r:Option (Nat×List Val),(r=if t< -1099511627776 then some (0,[Val.vi 61])else if 1099511627776<t then some (0,[Val.vi 61])else some (0,[Val.vi 0]))->r=some (0,[Val.vi (if(decide (-1099511627776<=t)&&decide (t<=1099511627776))=true then 0 else 61)]):=λr e=>by
  grind
 by_cases a1:a=1
 .by_cases k0:k=[]
  .simp_all[W7,Z6,bU,dB,cA]
  .have kp: ¬((k.length:Int)<1):=by grind[List.length_pos_iff]
   by_cases k1:32<k.length
   .have:(32:Int)<(k.length:Int):=by omega
    simp_all[W7,Z6,bU,dB,cA]
   .have k1': ¬(32:Int)<(k.length:Int):=by omega
    simp_all[b9,W7,Z6,bU,dB,cA]
 .by_cases a2:a=2
  .by_cases k0:k=[]<;>by_cases v0:v=0
   .simp_all[e8,W7,Z6,bU,dB,cA]
   all_goals simp_all[W7,Z6,bU,dB,cA]
  .rw[e8 (by omega)];simp_all[W7,Z6,bU,dB,cA]
end Go.Ev.S9
namespace Go.Ev.S9
open Go Go.Ev
def sE(l:List Val):Int:=if nr (mr l l.length)=true then 0 else 30
def sR(l:List Val):Int:=if nr (mr l l.length)=true then bk ((mr l l.length).getD 0 0) ((mr l l.length).getD 1 0)else 0
def aA(l:List Val):List Val:=if sE l≠0 then [.vi 0,.vi 0,.vi 0,.vi 0]else [.vi l.length,.vi (sR l),(ff l l.length).1,(ff l l.length).2]
def MJ(a:List Val):Val:= .vl [.vl (vI (gp (bV a 0).toI))]
def OQ(a:List Val):Val:= .vl [.vl (vI (rB (yX a 0) (yX a 4)))]
def Ii(a:List Val):Val:= .vi (if nr (yX a 0)=true then bk (bV a 0).toI (bV a 1).toI else 0)
def Mg(a:List Val):Val:= .vb (nr (yX a 0))
def Ya(a:List Val):Val:=cr (0,.vi (bV a 7).toL.length::vI (mr (bV a 7).toL (bV a 7).toL.length))
def Yi(a:List Val):Val:=cr (0,[.vi (bV a 11).toL.length,.vi 0,.vi 0,.vi 0,.vi 0,.vi 0,.vi 0,(ff (bV a 11).toL (bV a 11).toL.length).1,(ff (bV a 11).toL (bV a 11).toL.length).2])
variable{I:Opq}
theorem dF9:W7 T_r3of I=some (0,vI (gp (I.w 0).toI)):=by
 rfl
theorem cU7:W7 T_r3plus I=some (0,vI (rB [(I.w 0).toI,(I.w 1).toI,(I.w 2).toI,(I.w 3).toI] [(I.w 4).toI,(I.w 5).toI,(I.w 6).toI,(I.w 7).toI])):=by
 rfl
theorem dl4(f0: ∀a,I.f 810 a=MJ a):W7 T_r3fit I=some (0,[Ii [I.w 0,I.w 1,I.w 2,I.w 3],Mg [I.w 0,I.w 1,I.w 2,I.w 3]]):=by
 have d0:bU I kQ= .vi (bk (I.w 0).toI (I.w 1).toI):=rfl;have dq: ∀j:Nat,bU I (.op .lget [.app 810 [kQ],aN,.ci j])=(vI (gp (bk (I.w 0).toI (I.w 1).toI))).getD j default:=λj=>by
  show bZ (I.f 810 [bU I kQ]).toL 0 (j:Int)=_;rw[f0,d0];rfl
 have q0:bU I (bX (.app 810 [kQ]) aN 0)=_:=dq 0;have q1:bU I (bX (.app 810 [kQ]) aN 1)=_:=dq 1;have q2:bU I (bX (.app 810 [kQ]) aN 2)=_:=dq 2;have q3:bU I (bX (.app 810 [kQ]) aN 3)=_:=dq 3;have hc:dB I (zn (cC (bX (.app 810 [kQ]) aN 0) aM) (zn (cC (bX (.app 810 [kQ]) aN 1) aO) (zn (cC (bX (.app 810 [kQ]) aN 2) aT) (cC (bX (.app 810 [kQ]) aN 3) aU))))=nr (yX [I.w 0,I.w 1,I.w 2,I.w 3] 0):=by
  rw[db,db,db,dX,dX,dX,dX,q0,q1,q2,q3,co,co,co,co];have e:nr (yX [I.w 0,I.w 1,I.w 2,I.w 3] 0)=decide (gp (bk (I.w 0).toI (I.w 1).toI)=[(I.w 0).toI,(I.w 1).toI,(I.w 2).toI,(I.w 3).toI]):=rfl;rw[e];generalize bk (I.w 0).toI (I.w 1).toI=n;show(decide ((gp n).getD 0 0=(I.w 0).toI)&&(decide ((gp n).getD 1 0=(I.w 1).toI)&&(decide ((gp n).getD 2 0=(I.w 2).toI)&&decide ((gp n).getD 3 0=(I.w 3).toI))))=_;have e4:gp n=[(gp n).getD 0 0,(gp n).getD 1 0,(gp n).getD 2 0,(gp n).getD 3 0]:=rfl;grind
 unfold T_r3fit Ii Mg;cases h:nr (yX [I.w 0,I.w 1,I.w 2,I.w 3] 0)with
 |true=>exact cu (by grind[iu]) rfl
 |false=>exact cy (by grind[iu]) rfl
theorem Tf(l:List Val): ∀k,∃a b c d,mr l k=[a,b,c,d]
 |0=>⟨0,0,0,0,rfl⟩
 |k+1=>⟨_,_,_,_,rfl⟩
theorem dl5(f0: ∀a,I.f 810 a=MJ a)(f1: ∀a,I.f 811 a=OQ a)(f2: ∀a,I.f 812 a=Ii a)(f3: ∀a,I.f 813 a=Mg a)(f850: ∀a,I.f 850 a=Ya a)(hn:(I.w 0).toL.length<=100):
 W7 T_r3Sum I=some (0,[.vi (sR (I.w 0).toL),.vi (sE (I.w 0).toL)]):=by
 have e0:bU I tO=cr (0,.vi (I.w 0).toL.length::vI (mr (I.w 0).toL (I.w 0).toL.length)):=by
  show I.f 850 [.vi 0,.vi 0,.vi 0,.vi 0,.vi 0,.vi 0,.vi (I.w 0).toL.length,I.w 0]=_;rw[f850];rfl
 have W0: ∀vs,(I.upd 2000 vs).w 0=I.w 0:=λvs=>cN _ _ _ (by omega)
 have hfu: ∀vs i a,(I.upd 2000 vs).f i a=I.f i a:=λvs i a=>by rfl
 refine Z3 (r:=(0,.vi (I.w 0).toL.length::vI (mr (I.w 0).toL (I.w 0).toL.length))) ?_ e0 ?_
 .refine eG (st:=λk=> .vi k::vI (mr (I.w 0).toL k)) (n:=(I.w 0).toL.length) (λk hk=> ?_) ?_
  .obtain⟨a,b,c,d,e4⟩:=Tf (I.w 0).toL k;show W7 e59 (I.upd 2000 (.vi k::vI (mr (I.w 0).toL k)))=some (0,.vi (k+1:Nat)::vI (rB (mr (I.w 0).toL k) (gp (ci (bW (I.w 0).toL k) 0))));rw[e4];have v0:(I.upd 2000 (.vi k::vI [a,b,c,d])).w 2000= .vi k:=by rfl
   have v1:(I.upd 2000 (.vi k::vI [a,b,c,d])).w 2001= .vi a:=by rfl
   have v2:(I.upd 2000 (.vi k::vI [a,b,c,d])).w 2002= .vi b:=by rfl
   have v3:(I.upd 2000 (.vi k::vI [a,b,c,d])).w 2003= .vi c:=by rfl
   have v4:(I.upd 2000 (.vi k::vI [a,b,c,d])).w 2004= .vi d:=by rfl
   have w0:=W0 (.vi k::vI [a,b,c,d]);have g0: ∀x,(I.upd 2000 (.vi k::vI [a,b,c,d])).f 810 x=MJ x:=λx=>(hfu _ _ _).trans (f0 x)
   have g1: ∀x,(I.upd 2000 (.vi k::vI [a,b,c,d])).f 811 x=OQ x:=λx=>(hfu _ _ _).trans (f1 x)
   generalize I.upd 2000 (.vi k::vI [a,b,c,d])=aa at*
   have inc:cg .add .i64 (Val.vi (k:Int)).toI 1=((k+1:Nat):Int):=eH hk (by omega);have dx:bU aa (zg 0 2000 0)=Z7 (bW (I.w 0).toL k) 0:=by
    show bZ (aa.w 0).toL (aa.w 2000).toI 0=_;rw[v0,w0];rfl
   have d0:bU aa (.app 810 [zg 0 2000 0])= .vl [.vl (vI (gp (ci (bW (I.w 0).toL k) 0)))]:=by
    show aa.f 810 [bU aa (zg 0 2000 0)]=_;rw[g0,dx];rfl
   have d1:bU aa (.app 811 [aR,aW,bj,bp,bX (.app 810 [zg 0 2000 0]) aN 0,bX (.app 810 [zg 0 2000 0]) aN 1,bX (.app 810 [zg 0 2000 0]) aN 2,bX (.app 810 [zg 0 2000 0]) aN 3])= .vl [.vl (vI (rB [a,b,c,d] (gp (ci (bW (I.w 0).toL k) 0))))]:=by
    show aa.f 811 [aa.w 2001,aa.w 2002,aa.w 2003,aa.w 2004,bZ (bU aa (.app 810 [zg 0 2000 0])).toL 0 0,bZ (bU aa (.app 810 [zg 0 2000 0])).toL 0 1,bZ (bU aa (.app 810 [zg 0 2000 0])).toL 0 2,bZ (bU aa (.app 810 [zg 0 2000 0])).toL 0 3]=_;rw[g1,d0,v1,v2,v3,v4];rfl
   refine cy ?_ (W8 ?_ ?_)
   .simp_all[cP,co,Z8,dN,e9]
   .simp_all[cB,cx,co,e9]
   .generalize hX:SX.app 811 [aR,aW,bj,bp,bX (.app 810 [zg 0 2000 0]) aN 0,bX (.app 810 [zg 0 2000 0]) aN 1,bX (.app 810 [zg 0 2000 0]) aN 2,bX (.app 810 [zg 0 2000 0]) aN 3]=X at*
    show some (0,[Val.vi (cg .add .i64 (aa.w 2000).toI 1),bZ (bU aa X).toL 0 0,bZ (bU aa X).toL 0 1,bZ (bU aa X).toL 0 2,bZ (bU aa X).toL 0 3])=_;rw[d1,v0,inc];rfl
  .obtain⟨a,b,c,d,e4⟩:=Tf (I.w 0).toL (I.w 0).toL.length;rw[e4];have w0:=W0 (.vi (I.w 0).toL.length::vI [a,b,c,d]);have v0:(I.upd 2000 (.vi (I.w 0).toL.length::vI [a,b,c,d])).w 2000= .vi (I.w 0).toL.length:=by rw[cM];simp
   refine cu ?_ ?_
   .rw[cP,co,v0,Z8,dN,w0];exact j5 (by show¬((I.w 0).toL.length:Int)<_;omega)
   rfl
 .obtain⟨a,b,c,d,e4⟩:=Tf (I.w 0).toL (I.w 0).toL.length;unfold sR sE;rw[e4]at e0⊢;have d1:bU I vY= .vi a:=by show bZ (bU I tO).toL 1 1=_;rw[e0];rfl
  have d2:bU I uP= .vi b:=by show bZ (bU I tO).toL 1 2=_;rw[e0];rfl
  have d3:bU I vZ= .vi c:=by show bZ (bU I tO).toL 1 3=_;rw[e0];rfl
  have d4:bU I uU= .vi d:=by show bZ (bU I tO).toL 1 4=_;rw[e0];rfl
  have x3:dB I (.app 813 [vY,uP,vZ,uU])=nr [a,b,c,d]:=by
   show(I.f 813 [bU I vY,bU I uP,bU I vZ,bU I uU]).toB=_;rw[f3,d1,d2,d3,d4];rfl
  have x2:bU I (.app 812 [vY,uP,vZ,uU])= .vi (if nr [a,b,c,d]=true then bk a b else 0):=by
   show I.f 812 [bU I vY,bU I uP,bU I vZ,bU I uU]=_;rw[f2,d1,d2,d3,d4];rfl
  cases h:nr [a,b,c,d]with
  |true=>
   refine cu (by rw[iu,x3,h];rfl) ?_;show some (0,[bU I (.app 812 [vY,uP,vZ,uU]),Val.vi 0])=_;grind
  |false=>exact cy (by grind[iu]) rfl
end Go.Ev.S9
namespace Go.Ev.S9
open Go Go.Ev
variable{I:Opq}
def HU(l:List Val)(k:Nat):List Val:=[.vi k,.vi 0,.vi 0,.vi 0,.vi 0,.vi 0,.vi 0,(ff l k).1,(ff l k).2]
def oH:SX:= zg 0 2000 0
def CA(a b:SX):VT:= .ret 0 [zi aV,aR,aW,bj,bp,bq,bv,a,b]
theorem dl6:Dh= .ite (zs aV (zl 0)) (.ite (ze aV 0) (.need (zp aV) (CA oH oH)) (.need (zp aV) (.ite (zs oH bA) (.ite (fm oH bw) (CA oH oH) (CA oH bw)) (.ite (fm oH bw) (CA bA oH) (CA bA bw))))) (.ret 1 [aV,aR,aW,bj,bp,bq,bv,bA,bw]):=rfl
theorem dW8{l:List Val}(hl:(I.w 0).toL=l)(hn:l.length<=100):cI (λvs=>W7 Dh (I.upd 2000 vs)) [.vi 0,.vi 0,.vi 0,.vi 0,.vi 0,.vi 0,.vi 0,.vi 0,.vi 0]=some (0,HU l l.length):=by
 have W0: ∀vs,(I.upd 2000 vs).w 0=I.w 0:=λvs=>cN _ _ _ (by omega)
 have V: ∀(k:Nat) (a b:Val),(∀j,1<=j->j<=6->(I.upd 2000 [.vi k,.vi 0,.vi 0,.vi 0,.vi 0,.vi 0,.vi 0,a,b]).w (2000+j)= .vi 0)/\(I.upd 2000 [.vi k,.vi 0,.vi 0,.vi 0,.vi 0,.vi 0,.vi 0,a,b]).w 2000= .vi k/\(I.upd 2000 [.vi k,.vi 0,.vi 0,.vi 0,.vi 0,.vi 0,.vi 0,a,b]).w 2007=a/\(I.upd 2000 [.vi k,.vi 0,.vi 0,.vi 0,.vi 0,.vi 0,.vi 0,a,b]).w 2008=b:=λk a b=>by
  refine⟨λj h1 h2=> ?_,by rw[cM];simp,by rw[cM];simp,by rw[cM];simp⟩;rw[cM,e8 (by omega),show 2000+j-2000=j by omega];grind
 refine eG (st:=HU l) (n:=l.length) (λk hk=> ?_) ?_
 .show W7 Dh (I.upd 2000 [.vi k,.vi 0,.vi 0,.vi 0,.vi 0,.vi 0,.vi 0,(ff l k).1,(ff l k).2])=some (0,[.vi (k+1:Nat),.vi 0,.vi 0,.vi 0,.vi 0,.vi 0,.vi 0,(ff l (k+1)).1,(ff l (k+1)).2]);have hm:ff l (k+1)=if k=0 then(Z7 (bW l k) 0,Z7 (bW l k) 0)else(if ci (bW l k) 0<(ff l k).1.toI then Z7 (bW l k) 0 else(ff l k).1,if(ff l k).2.toI<ci (bW l k) 0 then Z7 (bW l k) 0 else(ff l k).2):=rfl
  rw[hm];generalize (ff l k).1=a;generalize (ff l k).2=b;obtain⟨vz,v0,v7,v8⟩:=V k a b;have w0:=W0 [.vi k,.vi 0,.vi 0,.vi 0,.vi 0,.vi 0,.vi 0,a,b];generalize I.upd 2000 [.vi k,.vi 0,.vi 0,.vi 0,.vi 0,.vi 0,.vi 0,a,b]=aa at*
  have inc:cg .add .i64 (Val.vi (k:Int)).toI 1=((k+1:Nat):Int):=eH hk (by omega);have dx:bU aa oH=Z7 (bW l k) 0:=by
   show bZ (aa.w 0).toL (aa.w 2000).toI 0=_;rw[v0,w0,hl];rfl
  have hr: ∀(p q:SX) (x y:Val),bU aa p=x->bU aa q=y->W7 (CA p q) aa=some (0,[.vi (k+1:Nat),.vi 0,.vi 0,.vi 0,.vi 0,.vi 0,.vi 0,x,y]):=λp q x y h1 h2=>by
   show some (0,[Val.vi (cg .add .i64 (aa.w 2000).toI 1),aa.w (2000+1),aa.w (2000+2),aa.w (2000+3),aa.w (2000+4),aa.w (2000+5),aa.w (2000+6),bU aa p,bU aa q])=_;grind
  have hk0:dB aa (zp aV)=true:=by simp_all[cB,cx,co,e9]
  rw[dl6];refine cy ?_ ?_
  .simp_all[cP,co,Z8,dN,e9]
  by_cases k0:k=0
  .simp_all[e8,cy,W8,dX,co,cx,e9]
  .rw[b9 k0];refine cu ?_ (W8 hk0 ?_)
   .simp_all[dX,co,cx,j5]
   have c1:dB aa (zs oH bA)=decide (ci (bW l k) 0<a.toI):=by rw[cP,dx,co,v7];rfl
   have c2:dB aa (fm oH bw)=decide (b.toI<ci (bW l k) 0):=by rw[dE8,dx,co,v8];rfl
   by_cases q1:ci (bW l k) 0<a.toI
   .rw[e8 q1];refine cy (c1.trans (e9 q1)) ?_;by_cases q2:b.toI<ci (bW l k) 0
    .simp_all[e8,cy,e9]
    .rw[b9 q2];exact cu (c2.trans (j5 q2)) (hr _ _ _ _ dx v8)
   .rw[b9 q1];refine cu (c1.trans (j5 q1)) ?_;by_cases q2:b.toI<ci (bW l k) 0
    .rw[e8 q2];exact cy (c2.trans (e9 q2)) (hr _ _ _ _ v7 dx)
    .rw[b9 q2];exact cu (c2.trans (j5 q2)) (hr _ _ _ _ v7 v8)
 .show W7 Dh (I.upd 2000 [.vi l.length,.vi 0,.vi 0,.vi 0,.vi 0,.vi 0,.vi 0,(ff l l.length).1,(ff l l.length).2])=some (1,[.vi l.length,.vi 0,.vi 0,.vi 0,.vi 0,.vi 0,.vi 0,(ff l l.length).1,(ff l l.length).2]);obtain⟨vz,v0,v7,v8⟩:=V l.length (ff l l.length).1 (ff l l.length).2;have w0:=W0 [.vi l.length,.vi 0,.vi 0,.vi 0,.vi 0,.vi 0,.vi 0,(ff l l.length).1,(ff l l.length).2];generalize I.upd 2000 [.vi l.length,.vi 0,.vi 0,.vi 0,.vi 0,.vi 0,.vi 0,(ff l l.length).1,(ff l l.length).2]=aa at*
  refine cu ?_ ?_
  .simp_all[cP,co,Z8,dN,j5]
  .show some (1,[aa.w 2000,aa.w (2000+1),aa.w (2000+2),aa.w (2000+3),aa.w (2000+4),aa.w (2000+5),aa.w (2000+6),aa.w 2007,aa.w 2008])=_;grind
theorem dG0(f2: ∀a,I.f 842 a= .vi (sR (bV a 0).toL))(f3: ∀a,I.f 843 a= .vi (sE (bV a 0).toL))(f851: ∀a,I.f 851 a=Yi a)(hn:(I.w 0).toL.length<=100):
 W7 T_rAll I=some (0,[(aA (I.w 0).toL).getD 0 default,(aA (I.w 0).toL).getD 1 default,(aA (I.w 0).toL).getD 2 default,(aA (I.w 0).toL).getD 3 default,.vi (sE (I.w 0).toL)]):=by
 have d3:bU I (.app 843 [aM])= .vi (sE (I.w 0).toL):=f3 _;have d2:bU I (.app 842 [aM])= .vi (sR (I.w 0).toL):=f2 _;have c3:dB I (dv (.app 843 [aM]) aN)= !decide (sE (I.w 0).toL=0):=by rw[eZ,cx,d3];rfl
 unfold T_rAll aA;refine W8 ?_ ?_
 .grind[cB,Z8,cx,dN,decide_eq_true]
 by_cases h:sE (I.w 0).toL=0
 .have e0:bU I Fk=cr (0,HU (I.w 0).toL (I.w 0).toL.length):=by
   show I.f 851 [.vi 0,.vi 0,.vi 0,.vi 0,.vi 0,.vi 0,.vi 0,.vi 0,.vi 0,.vi 0,.vi (I.w 0).toL.length,I.w 0,bU I (.app 842 [aM])]=_;rw[f851];rfl
  refine cu (by grind) (Z3 (r:=(0,HU (I.w 0).toL (I.w 0).toL.length)) (dW8 rfl hn) e0 ?_);show some (0,[Val.vi (I.w 0).toL.length,bU I (.app 842 [aM]),bZ (bU I Fk).toL 1 7,bZ (bU I Fk).toL 1 8,Val.vi 0])=_;rw[e0,d2,h];rfl
 .refine cy (by rw[c3,j5 h];rfl) ?_;show some (0,[Val.vi 0,Val.vi 0,Val.vi 0,Val.vi 0,bU I (.app 843 [aM])])=_;grind
end Go.Ev.S9
namespace Go.Ev.S9
open Go Go.Ev
theorem EQ(x:Int):cg .and .i64 x 4294967295=x % 4294967296:=by
 show IntKind.i64.wrap (((BitVec.ofInt 64 x&&&BitVec.ofInt 64 4294967295).toNat:Nat):Int)=_;have h:(BitVec.ofInt 64 x&&&BitVec.ofInt 64 4294967295).toNat=(x % 18446744073709551616).toNat % 4294967296:=by
  rw[BitVec.toNat_and];have h2:(BitVec.ofInt 64 4294967295).toNat=2^32-1:=rfl;rw[h2,Nat.and_two_pow_sub_one_eq_mod,BitVec.toNat_ofInt];rfl
 grind[mG]
theorem wF(x:Int):cg .shr .i64 x 32=x/4294967296:=by
 show x.fdiv (2^(min (32:Int).toNat 64))=_;grind
theorem dW9{a b n:Int}(h:cH n)(h0:a=n % 4294967296)(h1:b=n/4294967296 % 4294967296):bk a b=n:=by
 unfold bk;have e1:cg .shl .i64 b 32=n/4294967296*4294967296:=by
  show IntKind.i64.wrap (b*2^(min (32:Int).toNat 64))=_;unfold cH at h;simp only[IntKind.wrap,IntKind.bits,IntKind.signed];simp;omega
 rw[e1];show IntKind.i64.wrap (((BitVec.ofInt 64 (n/4294967296*4294967296)|||BitVec.ofInt 64 a).toNat:Nat):Int)=_;have h2:(BitVec.ofInt 64 (n/4294967296*4294967296)|||BitVec.ofInt 64 a).toNat=(n % 18446744073709551616).toNat:=by
  rw[BitVec.toNat_or,BitVec.toNat_ofInt,BitVec.toNat_ofInt];have e2:(n/4294967296*4294967296 % (2^64:Nat)).toNat=2^32*((n % 18446744073709551616).toNat/4294967296):=by
   omega
  have e3:(a % (2^64:Nat)).toNat=(n % 18446744073709551616).toNat % 4294967296:=by
   omega
  have hlt:(n % 18446744073709551616).toNat % 4294967296<2^32:=N6 _ (by decide);rw[e2,e3,<-Nat.two_pow_add_eq_or_of_lt hlt];omega
 grind[cH,IntKind.wrap,IntKind.bits,IntKind.signed]
def pO(w:List Int):Int:=w.getD 0 0+w.getD 1 0*4294967296+w.getD 2 0*18446744073709551616+w.getD 3 0*79228162514264337593543950336
def Bt(w:List Int)(k:Int):Prop:= ∃a b c d,w=[a,b,c,d]/\0<=a/\a<4294967296/\0<=b/\b<4294967296/\0<=c/\c<4294967296/\ -k<=d/\d<=k
theorem d47{n:Int}(h:cH n):gp n=[n % 4294967296,n/4294967296 % 4294967296,(if 0<=n then 0 else 4294967295),(if 0<=n then 0 else-1)]:=by
 unfold cH at h;have e0:Rl n=n % 4294967296:=EQ n;have e1:Kl n=n/4294967296:=by
  unfold Kl;rw[wF,wF,e0,gb (by omega) (by omega)];omega
 have e2:If n=if 0<=n then 0 else-1:=by
  unfold If;rw[wF,e1,gb (by omega) (by omega)];split<;>omega
 unfold gp;rw[EQ,EQ,EQ,wF,e0,e1,e2];by_cases c:0<=n
 .rw[e8 c,e8 c,gb (by omega) (by omega)];congr 1;omega
 simp_all[b9,gb]
theorem YT{n:Int}(h:cH n):Bt (gp n) 1/\pO (gp n)=n:=by
 rw[d47 h];refine⟨⟨_,_,_,_,rfl,by omega,by omega,by omega,by omega,by split<;>omega,by split<;>omega,by split<;>omega,by split<;>omega⟩,?_⟩;show n % 4294967296+n/4294967296 % 4294967296*4294967296+(if 0<=n then 0 else 4294967295)*18446744073709551616+(if 0<=n then 0 else-1)*79228162514264337593543950336=n;grind[cH]
theorem dG1{x y:List Int}{k:Int}(hk:0<=k)(hk2:k<=1000000)(hx:Bt x k)(hy:Bt y 1):Bt (rB x y) (k+2)/\pO (rB x y)=pO x+pO y:=by
 obtain⟨a,b,c,d,rfl,a1,a2,b1,b2,c1,c2,d1,d2⟩:=hx;obtain⟨a',b',c',d',rfl,a1',a2',b1',b2',c1',c2',d1',d2'⟩:=hy;have e0:Te [a,b,c,d] [a',b',c',d']=a+a':=by
  show cg .add .i64 a a'=_;grind[gb]
 have e1:IA [a,b,c,d] [a',b',c',d']=b+b'+(a+a')/4294967296:=by
  grind[IA,wF,cg,gb]
 have e2:MQ [a,b,c,d] [a',b',c',d']=c+c'+(b+b'+(a+a')/4294967296)/4294967296:=by
  grind[MQ,wF,cg,gb]
 have e3:rB [a,b,c,d] [a',b',c',d']=[(a+a') % 4294967296,(b+b'+(a+a')/4294967296) % 4294967296,(c+c'+(b+b'+(a+a')/4294967296)/4294967296) % 4294967296,d+d'+(c+c'+(b+b'+(a+a')/4294967296)/4294967296)/4294967296]:=by
  unfold rB;grind[EQ,wF,cg,gb]
 rw[e3];refine⟨⟨_,_,_,_,rfl,by omega,by omega,by omega,by omega,by omega,by omega,by omega,by omega⟩,?_⟩;show(a+a') % 4294967296+(b+b'+(a+a')/4294967296) % 4294967296*4294967296+(c+c'+(b+b'+(a+a')/4294967296)/4294967296) % 4294967296*18446744073709551616+(d+d'+(c+c'+(b+b'+(a+a')/4294967296)/4294967296)/4294967296)*79228162514264337593543950336=(a+b*4294967296+c*18446744073709551616+d*79228162514264337593543950336)+(a'+b'*4294967296+c'*18446744073709551616+d'*79228162514264337593543950336);omega
theorem cU9{w:List Int}{k:Int}(h:Bt w k):(nr w=true↔cH (pO w))/\(nr w=true->bk (w.getD 0 0) (w.getD 1 0)=pO w):=by
 obtain⟨a,b,c,d,rfl,a1,a2,b1,b2,c1,c2,d1,d2⟩:=h;have hb:cH (bk a b):=by
  have:=VX (x:=((BitVec.ofInt 64 (cg .shl .i64 b 32)|||BitVec.ofInt 64 a).toNat:Nat)) (by omega) (by omega);exact this.1
 have key:nr [a,b,c,d]=true->cH (pO [a,b,c,d])/\bk a b=pO [a,b,c,d]:=λhf=>by
  have hf:gp (bk a b)=[a,b,c,d]:=j6 hf;have:=(YT hb).2;rw[hf]at this;rw[this];exact⟨hb,rfl⟩
 refine⟨⟨λhf=>(key hf).1,λhi=> ?_⟩,λhf=>(key hf).2⟩;have hv:pO [a,b,c,d]=a+b*4294967296+c*18446744073709551616+d*79228162514264337593543950336:=rfl;have hn:cH (a+b*4294967296+c*18446744073709551616+d*79228162514264337593543950336):=by exact hi
 have hbk:bk a b=a+b*4294967296+c*18446744073709551616+d*79228162514264337593543950336:=dW9 hn (by omega) (by omega);show decide (gp (bk a b)=[a,b,c,d])=true;rw[hbk,d47 hn];unfold cH at hn;grind
theorem Xt{l:List Val}(hl: ∀k,cH (ci (bW l k) 0)): ∀k,k<=400000->Bt (mr l k) (2*k)/\pO (mr l k)=qS (λk=>ci (bW l k) 0) k
 |0,_=>⟨⟨0,0,0,0,rfl,by omega,by omega,by omega,by omega,by omega,by omega,by omega,by omega⟩,rfl⟩
 |k+1,h=>by
  obtain⟨h1,h2⟩:=Xt hl k (by omega);obtain⟨h3,h4⟩:=YT (hl k);obtain⟨h5,h6⟩:=dG1 (by omega) (by omega) h1 h3;refine⟨?_,?_⟩
  .obtain⟨a,b,c,d,e,r⟩:=h5;refine⟨a,b,c,d,e,?_⟩;obtain⟨r1,r2,r3,r4,r5,r6,r7,r8⟩:=r;exact⟨r1,r2,r3,r4,r5,r6,by omega,by omega⟩
  grind[pO,rB,mr,gp,ci,bW,qS]
theorem dX0{l:List Val}(hl: ∀r∈l,cH (ci r 0))(hn:l.length<=400000):(sE l=0↔cH (qS (λk=>ci (bW l k) 0) l.length))/\(sE l=0->sR l=qS (λk=>ci (bW l k) 0) l.length):=by
 have hg: ∀k,cH (ci (bW l k) 0):=λk=>by
  by_cases c:k<l.length
  .exact hl _ (kl c)
  .have e:bW l k= .vl []:=by simp[bW,j9,t7 (D8.1 c)]
   rw[e];exact Rn
 obtain⟨h1,h2⟩:=Xt hg l.length hn;obtain⟨h3,h4⟩:=cU9 h1;unfold sE sR;grind
theorem Zy{x y:Int}(h: -9223372036854775808<=x*y)(h2:x*y<9223372036854775808):cg .mul .i64 x y=x*y:=mG h h2
def ku(b d s t:Int)(i:Nat):List Val:=bif decide (t<b+i*d+s)then [.vl [.vi (b+i*d),.vi (b+i*d+s)]]else []
def iF(b d t:Int):Nat:=((t-b)/d+1).toNat
def Bw(b d s t:Int):List Val:=[.vi (cn (ku b d s t) (iF b d t)).length,.vi (b+iF b d t*d),.vl (cn (ku b d s t) (iF b d t))]
def YO(a:List Val):Val:=cr (0,Bw (bV a 1).toI (dz (bV a 4).toI (bV a 5).toI (bV a 6).toI) (bV a 5).toI (bV a 3).toI)
theorem dX1{t d:Int}(hd:0<d)(h1: -1099511627776<=t)(h2:t<=1099511627776):cg .quo .i64 t d=t/d\/cg .quo .i64 t d=t/d+1:=by
 have e:cg .quo .i64 t d=IntKind.i64.wrap (t.tdiv d):=rfl;have lo: -1099511627776<=t/d:=by
  refine(V6 hd).2 ?_;omega
 have hi:t/d<=1099511627776:=by
  by_cases c:0<=t
  .exact Int.le_trans (O9 d c) h2
  .have:t/d<0:=V7 (by omega) hd;omega
 grind[mG]
theorem bA4{G:Nat->List Val}{H:Nat->List Val}{e:Nat}(h0: ∀i,i<e->G i=[]): ∀n,(∀j,j<n->G (e+j)=H j)->cn G (e+n)=cn H n
 |0,_=>by
  have: ∀k,k<=e->cn G k=[]:=λk=>by
   induction k with
   |zero=>intro _;rfl
   |succ k ih=>grind[cn]
  exact this e (i6 _)
 |n+1,h=>by
  show cn G (e+n)++G (e+n)=cn H n++H n;rw[bA4 h0 n λj hj=>h j (by omega),h n (by omega)]
theorem dX2{b d s t D:Int}{n e:Nat}(hd:0<d)(hs:n*d=s)(hD:D=t-t % d)(hb:b=D-s+d-e*d)(he:1<=e):cn (ku b d s t) (iF b d t)=cn (iG (D-s+d) d s) n/\iF b d t=e+n:=by
 have q0:=I4 t (show d≠0 by omega);have q1:=I5 t hd;have hN:iF b d t=e+n:=by
  unfold iF;have:(t-b)/d=(e:Int)+n-1:=by
   have e1:t-b=t % d+((e:Int)+n-1)*d:=by
    have:((e:Int)+n-1)*d=e*d+n*d-d:=by rw[I7,F5,Int.one_mul]
    omega
   rw[e1,Int.add_mul_ediv_right _ _ (by omega),Int.ediv_eq_zero_of_lt q0 q1];omega
  omega
 refine⟨?_,hN⟩;rw[hN];refine bA4 (λi hi=> ?_) n λj hj=> ?_
 .unfold ku;have:(i:Int)*d+d<=e*d:=by
   have:((i:Int)+1)*d<=e*d:=G3 (by omega) (by omega);rw[F5]at this;omega
  grind
 .unfold ku iG;have e2:0<=(j:Int)*d:=I6 (by omega) (by omega);grind
variable{I:Opq}
theorem dX3{k s l t b d:Int}(hk:(I.w 0).toI=k)(hs:(I.w 1).toI=s)(hl:(I.w 2).toI=l)(ht:(I.w 4).toI=t)(hd:dz k s l=d)(d0:0<d)(d1:d<=1048576)(s0:1<=s)(s1:s<=1048576)(t1: -1099511627776<=t)(t2:t<=1099511627776)(b0: -1099651627776<=b)(hn:iF b d t<=100):
 cI (λvs=>W7 GC (I.upd 2000 vs)) [.vi 0,.vi b,.vl []]=some (0,Bw b d s t):=by
 have lim: ∀i,i<iF b d t->b+i*d<=t:=λi hi=>by
  unfold iF at hi;have h1:=Int.ediv_mul_le (t-b) (show d≠0 by omega);have h2:(i:Int)*d<=(t-b)/d*d:=G3 (by omega) (by omega);omega
 have Vt:t<b+iF b d t*d:=by
  unfold iF;have h1:=Int.lt_ediv_add_one_mul_self (t-b) d0;by_cases c:0<=(t-b)/d+1
  .grind
  .have:((t-b)/d+1)*d<=0*d:=G3 (by omega) (by omega);grind
 have h:=Bq (step:=λvs=>W7 GC (I.upd 2000 vs)) (n:=iF b d t) (a0:=[]) (g:=ku b d s t) (λi acc=>[.vi acc.length,.vi (b+i*d),.vl acc]) (s0:=[.vi 0,.vi b,.vl []]) (p:=Bw b d s t) ?_ (λi hi=> ?_) ?_
 .exact h
 .simp
 .rw[List.nil_append];have hlen:(cn (ku b d s t) i).length<=i:=by
   have:=je (g:=ku b d s t) (m:=1) (λi=>by grind[ku,decide]) i;omega
  generalize cn (ku b d s t) i=acc at hlen;have w0:(I.upd 2000 [.vi acc.length,.vi (b+i*d),.vl acc]).w 0=I.w 0:=cN _ _ _ (by omega);have w1:(I.upd 2000 [.vi acc.length,.vi (b+i*d),.vl acc]).w 1=I.w 1:=cN _ _ _ (by omega);have w2:(I.upd 2000 [.vi acc.length,.vi (b+i*d),.vl acc]).w 2=I.w 2:=cN _ _ _ (by omega);have w4:(I.upd 2000 [.vi acc.length,.vi (b+i*d),.vl acc]).w 4=I.w 4:=cN _ _ _ (by omega);have v0:=kW I 2000 (.vi acc.length) (.vi (b+i*d)) (.vl acc);have v1:=fX I 2000 (.vi acc.length) (.vi (b+i*d)) (.vl acc);have v2:=kP I 2000 (.vi acc.length) (.vi (b+i*d)) (.vl acc);generalize I.upd 2000 [.vi acc.length,.vi (b+i*d),.vl acc]=aa at*
  have hi1:=lim i hi;have ge:0<=(i:Int)*d:=I6 (by omega) (by omega);have a1:cg .add .i64 (b+i*d) s=b+i*d+s:=gb (by omega) (by omega);have a2:cg .add .i64 (b+i*d) d=b+(i+1:Nat)*d:=by
   grind[gb,Int.natCast_add,Int.add_mul]
  have dn:bU aa (.op .row [aR,za aR aO])= .vl [.vi (b+i*d),.vi (b+i*d+s)]:=by
   show Val.vl [aa.w 2001,.vi (cg .add .i64 (aa.w 2001).toI (aa.w 1).toI)]=_;simp_all
  have dc:bU aa (zc aW (.op .row [.op .row [aR,za aR aO]]))= .vl (acc++[.vl [.vi (b+i*d),.vi (b+i*d+s)]]):=by
   show Val.vl ((aa.w 2002).toL++[bU aa (.op .row [aR,za aR aO])])=_;simp_all
  refine cy ?_ ?_
  .simp_all[cB,co,e9]
  unfold ku;by_cases c:t<b+i*d+s
  .refine cy ?_ (W8 ?_ ?_)
   .show decide ((aa.w 4).toI<cg .add .i64 (aa.w 2001).toI (aa.w 1).toI)=true;simp_all
   .rw[db,dX,cB,co,v0,Z8,Z8,dN,v2,cx,dc];grind[wo]
   .by_cases k2:k=2
    .refine cy (by rw[dX,co,w0,hk];exact e9 k2) ?_;show some (0,[Val.vi (bU aa _).toL.length,Val.vi (cg .add .i64 (aa.w 2001).toI (aa.w 2).toI),bU aa (.op .lcat _)])=_;simp_all[a06,dz,e8]
    .refine cu (by rw[dX,co,w0,hk];exact j5 k2) ?_;show some (0,[Val.vi (bU aa _).toL.length,Val.vi (cg .add .i64 (aa.w 2001).toI (aa.w 1).toI),bU aa (.op .lcat _)])=_;simp_all[a06,dz,b9]
  .rw[j5 c,cond_false,s6];refine cu ?_ ?_
   .show decide ((aa.w 4).toI<cg .add .i64 (aa.w 2001).toI (aa.w 1).toI)=false;simp_all
   .by_cases k2:k=2
    .refine cy (by rw[dX,co,w0,hk];exact e9 k2) ?_;show some (0,[aa.w 2000,Val.vi (cg .add .i64 (aa.w 2001).toI (aa.w 2).toI),aa.w 2002])=_;simp_all[a06,dz,e8]
    .refine cu (by rw[dX,co,w0,hk];exact j5 k2) ?_;show some (0,[aa.w 2000,Val.vi (cg .add .i64 (aa.w 2001).toI (aa.w 1).toI),aa.w 2002])=_;simp_all[a06,dz,b9]
 .rw[List.nil_append];have v1:=fX I 2000 (.vi (cn (ku b d s t) (iF b d t)).length) (.vi (b+iF b d t*d)) (.vl (cn (ku b d s t) (iF b d t)));have w4:(I.upd 2000 [.vi (cn (ku b d s t) (iF b d t)).length,.vi (b+iF b d t*d),.vl (cn (ku b d s t) (iF b d t))]).w 4=I.w 4:=cN _ _ _ (by omega);refine cu ?_ ?_
  .rw[cB,co,co,v1,w4,ht];exact j5 (by show¬b+iF b d t*d<=t;omega)
  rfl
end Go.Ev.S9
namespace Go.Ev.S9
open Go Go.Ev
theorem cV0{t s d:Int}{n:Nat}(hd:0<d)(d1:d<=1048576)(hs:n*d=s)(n0:1<=n)(n1:n<=16)(h1: -1099511627776<=t)(h2:t<=1099511627776):
 ∃e:Nat,1<=e/\e<=2/\cg .mul .i64 (cg .sub .i64 (cg .sub .i64 (cg .quo .i64 t d) (cg .quo .i64 s d)) 1) d=fk t d-s+d-e*d/\ -1099651627776<=fk t d-s+d-e*d:=by
 have q0:=I4 t (show d≠0 by omega);have q1:=I5 t hd;have hs1:s<=16777216:=by
  have:(n:Int)*d<=16*d:=G3 (by omega) (by omega);omega
 have hs0:0<=s:=by rw[<-hs];exact I6 (by omega) (by omega)
 have qs:cg .quo .i64 s d=n:=by
  have e:cg .quo .i64 s d=IntKind.i64.wrap (s.tdiv d):=rfl;grind[Int.tdiv_eq_ediv_of_nonneg,Int.mul_ediv_cancel,mG]
 have hD:fk t d=t/d*d:=by
  grind[Int.emod_def,Int.mul_comm,fk]
 have fb: -1099511627776-1048576<=t/d*d/\t/d*d<=t:=by
  grind[Int.emod_def,Int.mul_comm]
 have fq: -1099511627777<=t/d/\t/d<=1099511627776:=by
  refine⟨?_,?_⟩
  .have:(-1099511627777)*d<=t:=by omega
   simp_all[V6]
  .by_cases c:0<=t
   .exact Int.le_trans (O9 d c) h2
   .have:t/d<0:=V7 (by omega) hd;omega
 rcases dX1 hd h1 h2 with q|q
 .refine⟨2,by omega,by omega,?_,?_⟩
  .rw[q,qs,lQ (x:=t/d) (by omega) (by omega),lQ (by omega) (by omega)];have e:(t/d-n-1)*d=t/d*d-s-d:=by rw[I7,I7,hs,Int.one_mul]
   rw[Zy (by omega) (by omega),e,hD];omega
  omega
 .refine⟨1,by omega,by omega,?_,?_⟩
  .rw[q,qs,lQ (x:=t/d+1) (by omega) (by omega),lQ (by omega) (by omega)];have e:(t/d+1-n-1)*d=t/d*d-s:=by
    have:t/d+1-n-1=t/d-n:=by omega
    rw[this,I7,hs]
   rw[Zy (by omega) (by omega),e,hD];omega
  omega
variable{I:Opq}
theorem dX4(f700: ∀a,I.f 700 a= .vb (cT (bV a 0).toI (bV a 1).toI (bV a 2).toI (bV a 3).toI))(f853: ∀a,I.f 853 a=YO a):
 W7 T_rOf I=some (0,[.vl (cX (I.w 0).toI (I.w 1).toI (I.w 2).toI (I.w 3).toI (I.w 4))]):=by
 generalize hk:(I.w 0).toI=k;generalize hs:(I.w 1).toI=s;generalize hl:(I.w 2).toI=l;generalize hg:(I.w 3).toI=g;unfold T_rOf cX;generalize ht:(I.w 4).toI=t;have r0:dB I (.app 700 [aM,aO,aT,aU])=cT k s l g:=by
  show(I.f 700 [I.w 0,I.w 1,I.w 2,I.w 3]).toB=_;rw[f700,<-hk,<-hs,<-hl,<-hg];rfl
 cases hR:cT k s l g with
 |false=>exact cy (by rw[iu,r0,hR];rfl) rfl
 |true=>
 refine cu (by rw[iu,r0,hR];rfl) ?_;by_cases t1:t< -1099511627776
 .have e:ep t=false:=by unfold ep;rw[decide_eq_false (by omega)];rfl
  rw[e];exact cy (by rw[cP,cx,co,ht];exact e9 t1) rfl
 refine cu (by rw[cP,cx,co,ht];exact j5 t1) ?_;by_cases t2:1099511627776<t
 .have e:ep t=false:=by unfold ep;rw[decide_eq_false (p:=t<=1099511627776) (by omega),Bool.and_false]
  rw[e];exact cy (by show decide ((1099511627776:Int)<(I.w 4).toI)=true;rw[ht];exact e9 t2) rfl
 refine cu (by show decide ((1099511627776:Int)<(I.w 4).toI)=false;rw[ht];exact j5 t2) ?_;have e:ep t=true:=by unfold ep;rw[decide_eq_true (by omega),decide_eq_true (by omega)];rfl
 rw[e];show W7 _ I=some (0,[Val.vl (if k=3 then [.vl [I.w 4,.vi (t+g)]]else cn (iG (fk t (dz k s l)-s+dz k s l) (dz k s l) s) (fe k s l))]);by_cases k3:k=3
 .rw[e8 k3];refine cy (by rw[dX,co,hk];exact e9 k3) ?_;have:cg .add .i64 t g=t+g:=by
   unfold cT at hR;simp[k3]at hR;exact gb (by omega) (by omega)
  show some (0,[Val.vl [Val.vl [I.w 4,Val.vi (cg .add .i64 (I.w 4).toI (I.w 3).toI)]]])=_;rw[ht,hg,this]
 rw[b9 k3];refine cu (by rw[dX,co,hk];exact j5 k3) ?_;have main: ∀{d:Int} {n:Nat} {X:SX},dz k s l=d->fe k s l=n->0<d->d<=1048576->n*d=s->1<=n->n<=16->1<=s->s<=1048576->bU I X= .vi (cg .mul .i64 (cg .sub .i64 (cg .sub .i64 (cg .quo .i64 t d) (cg .quo .i64 s d)) 1) d)->
  W7 (.loop ⟨853,[zL ck,X,ck],2000,[aS,aM,aO,aT,aU]⟩ GC [.need (cC (zo (.app 853 [zL ck,X,ck,aS,aM,aO,aT,aU]) 0) (zL (zo (.app 853 [zL ck,X,ck,aS,aM,aO,aT,aU]) 2))) (.ret 0 [zo (.app 853 [zL ck,X,ck,aS,aM,aO,aT,aU]) 2])]) I=some (0,[Val.vl (cn (iG (fk t (dz k s l)-s+dz k s l) (dz k s l) s) (fe k s l))]):=by
  intro d n X hst hN d0 d1 hn n0 n1 s0 s1 hX;obtain⟨e,e1,e2,e3,e4⟩:=cV0 d0 d1 hn n0 n1 (E9.1 t1) (E9.1 t2);rw[e3]at hX;obtain⟨h1,h2⟩:=dX2 (b:=fk t d-s+d-e*d) (t:=t) (D:=fk t d) d0 hn rfl rfl e1;rw[hst,hN,<-h1];have hv:bU I (.app 853 [zL ck,X,ck,aS,aM,aO,aT,aU])=cr (0,Bw (fk t d-s+d-e*d) d s t):=by
   show I.f 853 [.vi 0,bU I X,.vl [],I.w 4,I.w 0,I.w 1,I.w 2,I.w 3]=_;rw[f853,hX];show cr (0,Bw _ (dz (I.w 0).toI (I.w 1).toI (I.w 2).toI) (I.w 1).toI (I.w 4).toI)=_;rw[hk,hs,hl,ht,hst];rfl
  have hv2:bU I (zo (.app 853 [zL ck,X,ck,aS,aM,aO,aT,aU]) 2)= .vl (cn (ku (fk t d-s+d-e*d) d s t) (iF (fk t d-s+d-e*d) d t)):=by
   show bZ (bU I (.app 853 [zL ck,X,ck,aS,aM,aO,aT,aU])).toL 1 2=_;rw[hv];rfl
  have hv0:bU I (zo (.app 853 [zL ck,X,ck,aS,aM,aO,aT,aU]) 0)= .vi (cn (ku (fk t d-s+d-e*d) d s t) (iF (fk t d-s+d-e*d) d t)).length:=by
   show bZ (bU I (.app 853 [zL ck,X,ck,aS,aM,aO,aT,aU])).toL 1 0=_;rw[hv];rfl
  refine Z3 (r:=(0,Bw (fk t d-s+d-e*d) d s t)) ?_ hv (W8 ?_ ?_)
  .show cI _ [.vi 0,bU I X,.vl []]=_;rw[hX];exact dX3 hk hs hl ht hst d0 d1 s0 s1 (E9.1 t1) (E9.1 t2) e4 (by omega)
  .rw[dX,hv0,Z8,hv2];exact e9 rfl
  .show some (0,[bU I _])=_;rw[hv2]
 by_cases k2:k=2
 .refine cy (by rw[dX,co,hk];exact e9 k2) ?_;have hR':(1<=s/\s<=1048576)/\(1<=l/\l<=1048576)/\s % l=0/\s/l<=16:=by
   unfold cT at hR;simp[k2]at hR;omega
  obtain⟨⟨s1,s2⟩,⟨l1,l2⟩,sl,sq⟩:=hR';obtain⟨n1,n2⟩:=Di sl l1 s1;have hst:dz k s l=l:=e8 k2;have hN:fe k s l=(s/l).toNat:=by unfold fe;rw[hst]
  refine W8 (by show(!decide ((I.w 2).toI=0))=true;rw[hl,j5 (by omega)];rfl) (main hst hN (by omega) l2 n1 n2 (by omega) s1 s2 ?_);show Val.vi (cg .mul .i64 (cg .sub .i64 (cg .sub .i64 (cg .quo .i64 (I.w 4).toI (I.w 2).toI) (cg .quo .i64 (I.w 1).toI (I.w 2).toI)) 1) (I.w 2).toI)=_;rw[ht,hl,hs]
 .refine cu (by rw[dX,co,hk];exact j5 k2) ?_;have hR':1<=s/\s<=1048576:=by
   unfold cT at hR;by_cases k1:k=1
   .simp[k1]at hR;omega
   .simp[k1,k2,k3]at hR
  have hst:dz k s l=s:=b9 k2;have hN:fe k s l=1:=by unfold fe;rw[hst,Int.ediv_self (by omega)];rfl
  refine W8 (by show(!decide ((I.w 1).toI=0))=true;rw[hs,j5 (by omega)];rfl) (main hst hN (by omega) hR'.2 (by simp) (by omega) (by omega) hR'.1 hR'.2 ?_);show Val.vi (cg .mul .i64 (cg .sub .i64 (cg .sub .i64 (cg .quo .i64 (I.w 4).toI (I.w 1).toI) (cg .quo .i64 (I.w 1).toI (I.w 1).toI)) 1) (I.w 1).toI)=_;rw[ht,hs]
end Go.Ev.S9
namespace Go.Ev.S9
open Go Go.Ev
def mZ(g:Int)(l:List Val)(i:Nat):List Val:=[.vl [Z7 (bW l i) 0,.vi (cg .add .i64 (ci (bW l i) 0) g)]]
def sV(l:List Val)(i:Nat):Bool:= !ep (ci (bW l i) 0)
def GY(g:Int)(l:List Val):Nat×List Val:=match(List.range l.length).find? (sV l)with
 |some i=>(1,[.vi 2,.vi (cn (mZ g l) i).length,.vi i,.vl (cn (mZ g l) i)])
 |none=>(0,[.vi 0,.vi (cn (mZ g l) l.length).length,.vi l.length,.vl (cn (mZ g l) l.length)])
def e69(a:List Val):Val:=cr (GY (bV a 4).toI (bV a 7).toL)
def iP(l:List Val)(i j k:Nat):List Val:=if k=i\/k=j then []else [dV (bW l k)]
def mv(l:List Val)(i j:Nat):Val:= .vl [.vi (min (ci (bW l i) 0) (ci (bW l j) 0)),.vi (max (ci (bW l i) 1) (ci (bW l j) 1))]
def eB(l:List Val)(i j:Nat):List Val:=[mv l i j]++cn (iP l i j) l.length
def om(a:List Val):Val:=cr (0,[.vi (eB (bV a 4).toL (bV a 5).toI.toNat (bV a 6).toI.toNat).length,.vi (bV a 4).toL.length,.vl (eB (bV a 4).toL (bV a 5).toI.toNat (bV a 6).toI.toNat)])
def sr(l:List Val)(i j:Nat):Bool:=decide (ci (bW l i) 0<ci (bW l j) 1)&&decide (ci (bW l j) 0<ci (bW l i) 1)
def gD(l:List Val)(i:Nat):Option Nat:=(List.range l.length).find? λj=>decide (i<j)&&sr l i j
def zP(x:Val)(l:List Val)(i:Nat):Nat×List Val:=match gD l i with
 |some j=>(1,[.vi (eB l i j).length,.vb true,.vi j,.vl (eB l i j)])
 |none=>(0,[x,.vi l.length])
def tR(a:List Val):Val:=cr (zP (bV a 0) (bV a 3).toL (bV a 4).toI.toNat)
theorem dl8(l:List Val)(i j k:Nat):(iP l i j k).length<=1:=by grind[iP]
variable{I:Opq}
theorem MT{q l c:SX}{acc:List Val}{x:Val}(hq:bU I q= .vi acc.length)(hl:bU I l= .vl acc)(hc:bU I c= .vl (acc++[x]))(h:acc.length<1000000):
 dB I (zn (cC q (zL l)) (zb (zL c) 1000000))=true:=by
 rw[db,dX,cB,hq,Z8,Z8,hl,hc,cx];exact wo h
theorem dX5{g:Int}{l:List Val}(h0:(I.w 0).toI=g)(h1:(I.w 1).toL=l)(hn:l.length<=1000):cI (λvs=>W7 Pz (I.upd 2000 vs)) [.vi 0,.vi 0,.vi 0,.vl []]=some (GY g l):=by
 have run: ∀i acc,i<=l.length->acc.length<=i->W7 Pz (I.upd 2000 [.vi 0,.vi acc.length,.vi i,.vl acc])=if i<l.length then(if sV l i then some (2,[.vi 2,.vi acc.length,.vi i,.vl acc])else some (0,[.vi 0,.vi (acc++mZ g l i).length,.vi (i+1:Nat),.vl (acc++mZ g l i)]))else some (1,[.vi 0,.vi acc.length,.vi i,.vl acc]):=by
  intro i acc hi ha;have w0:(I.upd 2000 [.vi 0,.vi acc.length,.vi i,.vl acc]).w 0=I.w 0:=cN _ _ _ (by omega);have w1:(I.upd 2000 [.vi 0,.vi acc.length,.vi i,.vl acc]).w 1=I.w 1:=cN _ _ _ (by omega);have v0:(I.upd 2000 [.vi 0,.vi acc.length,.vi i,.vl acc]).w 2000= .vi 0:=by rfl
  have v1:(I.upd 2000 [.vi 0,.vi acc.length,.vi i,.vl acc]).w 2001= .vi acc.length:=by rfl
  have v2:(I.upd 2000 [.vi 0,.vi acc.length,.vi i,.vl acc]).w 2002= .vi i:=by rfl
  have v3:(I.upd 2000 [.vi 0,.vi acc.length,.vi i,.vl acc]).w 2003= .vl acc:=by rfl
  generalize I.upd 2000 [.vi 0,.vi acc.length,.vi i,.vl acc]=aa at*
  have dl:bU aa (zg 1 2002 0)=Z7 (bW l i) 0:=by
   show bZ (aa.w 1).toL (aa.w 2002).toI 0=_;rw[w1,v2,h1];rfl
  have dc:bU aa X1= .vl (acc++mZ g l i):=by
   show Val.vl ((aa.w 2003).toL++[Val.vl [bU aa (zg 1 2002 0),.vi (cg .add .i64 (bU aa (zg 1 2002 0)).toI (aa.w 0).toI)]])=_;rw[v3,dl,w0,h0];rfl
  by_cases c:i<l.length
  .rw[e8 c];refine cy (by simp_all[cP,co,Z8,dN,e9]) (W8 (by simp_all[cB,cx,co,e9]) ?_);have lt:sV l i= !(decide (-1099511627776<=ci (bW l i) 0)&&decide (ci (bW l i) 0<=1099511627776)):=rfl;have out:W7 (.ret 2 [bn,aR,aW,bj]) aa=some (2,[.vi 2,.vi acc.length,.vi i,.vl acc]):=by
    show some (2,[Val.vi 2,aa.w 2001,aa.w 2002,aa.w 2003])=_;grind
   by_cases t1: -1099511627776<=ci (bW l i) 0
   .refine cy (by rw[Cr,dl,cx];exact e9 t1) ?_;by_cases t2:ci (bW l i) 0<=1099511627776
    .rw[lt,e9 t1,e9 t2];refine cu (by grind[iu,cB,cx,decide,ci,bW,decide_eq_true]) (W8 ?_ ?_)
     .show(decide ((aa.w 2001).toI=((aa.w 2003).toL.length:Int))&&decide (((bU aa X1).toL.length:Int)<=1000000))=true;rw[v1,v3,dc];exact wo (A:=acc) (by omega)
     .show some (0,[aa.w 2000,Val.vi (bU aa X1).toL.length,Val.vi (cg .add .i64 (aa.w 2002).toI 1),bU aa X1])=_;rw[dc,v0,v2,a06,eH (n:=1000000) (by omega) (by omega)];rfl
    .rw[lt,e9 t1,j5 t2];exact cy (by grind[iu,cB,cx,decide,ci,bW,decide_eq_false]) out
   .rw[lt,j5 t1];exact cu (by rw[Cr,dl,cx];exact j5 t1) out
  .refine cu (by rw[cP,co,v2,Z8,dN,w1,h1];exact j5 (by show¬(i:Int)<(l.length:Int);omega)) ?_;show some (1,[aa.w 2000,aa.w 2001,aa.w 2002,aa.w 2003])=_;grind
 have hl: ∀i,(cn (mZ g l) i).length<=i:=λi=>by have:=je (g:=mZ g l) (m:=1) (λi=>i6 _) i;omega
 cases hf:(List.range l.length).find? (sV l)with
 |none=>
  have hno: ∀i,i<l.length->sV l i=false:=λi hi=>by
   have:=A6.1 hf i (o8.2 hi);simpa using this
  refine eG (st:=λi=>[.vi 0,.vi (cn (mZ g l) i).length,.vi i,.vl (cn (mZ g l) i)]) (n:=l.length) (λi hi=> ?_) ?_
  .rw[run i _ (by omega) (hl i),e8 hi,hno i hi];rfl
  grind
 |some i=>
  obtain⟨a,b,c⟩:=oI hf;refine eG (st:=λi=>[.vi 0,.vi (cn (mZ g l) i).length,.vi i,.vl (cn (mZ g l) i)]) (n:=i) (λk hk=> ?_) ?_
  .rw[run k _ (by omega) (hl k),e8 (by omega),c k hk];rfl
  grind
theorem dX6{l:List Val}{i j:Nat}(h0:I.w 2000= .vi l.length)(h2:(I.w 2002).toL=l)(hi:I.w 4001= .vi i)(hj:I.w 5001= .vi j)(hn:l.length<=1000):
 cI (λvs=>W7 NR (I.upd 6000 vs)) [.vi 1,.vi 0,.vl [mv l i j]]=some (0,[.vi (eB l i j).length,.vi l.length,.vl (eB l i j)]):=by
 have hl: ∀k,(cn (iP l i j) k).length<=k:=λk=>by have:=je (dl8 l i j) k;omega
 refine Bq (λk acc=>[.vi acc.length,.vi k,.vl acc]) (a0:=[mv l i j]) (g:=iP l i j) (n:=l.length) rfl (λk hk=> ?_) ?_
 .have ha:([mv l i j]++cn (iP l i j) k).length<=k+1:=by have:=hl k;simp;omega
  generalize [mv l i j]++cn (iP l i j) k=acc at ha;have v0:(I.upd 6000 [.vi acc.length,.vi k,.vl acc]).w 6000= .vi acc.length:=by rw[cM];simp
  have v1:(I.upd 6000 [.vi acc.length,.vi k,.vl acc]).w 6001= .vi k:=by rw[cM];simp
  have v2:(I.upd 6000 [.vi acc.length,.vi k,.vl acc]).w 6002= .vl acc:=by rw[cM];simp
  have w0:(I.upd 6000 [.vi acc.length,.vi k,.vl acc]).w 2000=I.w 2000:=cN _ _ _ (by omega);have w2:(I.upd 6000 [.vi acc.length,.vi k,.vl acc]).w 2002=I.w 2002:=cN _ _ _ (by omega);have w4:(I.upd 6000 [.vi acc.length,.vi k,.vl acc]).w 4001=I.w 4001:=cN _ _ _ (by omega);have w5:(I.upd 6000 [.vi acc.length,.vi k,.vl acc]).w 5001=I.w 5001:=cN _ _ _ (by omega);generalize I.upd 6000 [.vi acc.length,.vi k,.vl acc]=aa at*
  have dc:bU aa X3= .vl (acc++[dV (bW l k)]):=by
   show Val.vl ((aa.w 6002).toL++[Val.vl [bZ (aa.w 2002).toL (aa.w 6001).toI 0,bZ (aa.w 2002).toL (aa.w 6001).toI 1]])=_;rw[v2,w2,v1,h2];rfl
  have inc:cg .add .i64 (k:Int) 1=((k+1:Nat):Int):=eH (n:=1000000) (by omega) (by omega);have skip:W7 (.ret 0 [bG,zi bx,bC]) aa=some (0,[.vi acc.length,.vi (k+1:Nat),.vl acc]):=by
   show some (0,[aa.w 6000,Val.vi (cg .add .i64 (aa.w 6001).toI 1),aa.w 6002])=_;rw[v0,v1,v2,a06,inc]
  refine W8 (by rw[cB,cx,co,w0,h0];exact e9 (by show(0:Int)<=(l.length:Int);omega)) (cy (by rw[cP,co,co,v1,w0,h0];exact e9 (by show(k:Int)<(l.length:Int);omega)) ?_);unfold iP;by_cases ci1:k=i
  .rw[e8 (Or.inl ci1),s6];exact cu (by rw[eZ,co,co,v1,w4,hi,ci1,e9 rfl];rfl) skip
  .refine cy (by rw[eZ,co,co,v1,w4,hi,j5 (by show¬(k:Int)=(i:Int);omega)];rfl) ?_;by_cases ci2:k=j
   .rw[e8 (Or.inr ci2),s6];exact cu (by rw[eZ,co,co,v1,w5,hj,ci2,e9 rfl];rfl) skip
   .rw[b9 (λh=>h.elim ci1 ci2)];refine cy (by rw[eZ,co,co,v1,w5,hj,j5 (by show¬(k:Int)=(j:Int);omega)];rfl) (W8 ?_ (W8 ?_ (W8 ?_ ?_)))
    .rw[cB,cx,co,v1];exact e9 (by show(0:Int)<=(k:Int);omega)
    .rw[cP,co,v1,Z8,dN,w2,h2];exact e9 (by show(k:Int)<(l.length:Int);omega)
    .exact MT (q:= bG) (l:= bC) (c:=X3) v0 v2 dc (by omega)
    .show some (0,[Val.vi (bU aa X3).toL.length,Val.vi (cg .add .i64 (aa.w 6001).toI 1),bU aa X3])=_;rw[dc,v1,a06,inc];rfl
 .show W7 NR (I.upd 6000 [.vi ([mv l i j]++cn (iP l i j) l.length).length,.vi l.length,.vl ([mv l i j]++cn (iP l i j) l.length)])=some (1,[.vi ([mv l i j]++cn (iP l i j) l.length).length,.vi l.length,.vl ([mv l i j]++cn (iP l i j) l.length)]);generalize [mv l i j]++cn (iP l i j) l.length=acc;have v0:(I.upd 6000 [.vi acc.length,.vi l.length,.vl acc]).w 6000= .vi acc.length:=by rw[cM];simp
  have v1:(I.upd 6000 [.vi acc.length,.vi l.length,.vl acc]).w 6001= .vi l.length:=by rw[cM];simp
  have v2:(I.upd 6000 [.vi acc.length,.vi l.length,.vl acc]).w 6002= .vl acc:=by rw[cM];simp
  have w0:(I.upd 6000 [.vi acc.length,.vi l.length,.vl acc]).w 2000=I.w 2000:=cN _ _ _ (by omega);generalize I.upd 6000 [.vi acc.length,.vi l.length,.vl acc]=aa at*
  refine W8 (by rw[cB,cx,co,w0,h0];exact e9 (by show(0:Int)<=(l.length:Int);omega)) (cu (by rw[cP,co,co,v1,w0,h0];exact j5 (by omega)) ?_);show some (1,[aa.w 6000,aa.w 6001,aa.w 6002])=_;rw[v0,v1,v2]
end Go.Ev.S9
namespace Go.Ev.S9
open Go Go.Ev
variable{l:List Val}
variable{I:Opq}
theorem d5{x:Val}{j:Nat}:(I.upd 5000 [x,.vi j]).w 5000=x/\(I.upd 5000 [x,.vi j]).w 5001= .vi j:=⟨by rfl,by rfl⟩
theorem uE{n k:Nat}{i:Nat}(hl:(I.w n).toL=l)(hk:I.w k= .vi i)(j:Nat):(bU I (.op .lget [.va n,.va k,.ci j])).toI=ci (bW l i) j:=by
 show(bZ (I.w n).toL (I.w k).toI (j:Int)).toI=_;rw[hl,hk];rfl
theorem dG4(f859: ∀a,I.f 859 a=om a){i:Nat}{x:Val}(h0:I.w 2000= .vi l.length)(h2:(I.w 2002).toL=l)(hw:I.w 4001= .vi i)(hi:i<l.length)(hn:l.length<=1000)(j:Nat)(hj:j<=l.length):
 W7 OI (I.upd 5000 [x,.vi j])=if j<l.length then(if sr l i j then some (2,[.vi (eB l i j).length,.vb true,.vi j,.vl (eB l i j)])else some (0,[x,.vi (j+1:Nat)]))else some (1,[x,.vi j]):=by
 obtain⟨v0,v1⟩:=d5 (I:=I) (x:=x) (j:=j);have w0:(I.upd 5000 [x,.vi j]).w 2000= .vi l.length:=by grind[cN]
 have w2:((I.upd 5000 [x,.vi j]).w 2002).toL=l:=by grind[cN]
 have w4:(I.upd 5000 [x,.vi j]).w 4001= .vi i:=by grind[cN]
 have wf: ∀a,(I.upd 5000 [x,.vi j]).f 859 a=om a:=λa=>by grind[eV]
 generalize I.upd 5000 [x,.vi j]=aa at*
 have inc:j<l.length->cg .add .i64 (j:Int) 1=((j+1:Nat):Int):=λh=>eH (n:=1000000) (by omega) (by omega)
 have skip:j<l.length->W7 (.ret 0 [.va 5000,zi bD]) aa=some (0,[x,.vi (j+1:Nat)]):=λh=>by
  show some (0,[aa.w 5000,Val.vi (cg .add .i64 (aa.w 5001).toI 1)])=_;simp_all
 refine W8 (by simp_all[cB,cx,co,e9]) ?_;by_cases c:j<l.length
 .rw[e8 c];refine cy (by rw[cP,co,co,v1,w0];exact e9 (by show(j:Int)<(l.length:Int);omega)) ?_;refine W8 (by rw[db,cB,cP,cx,co,co,w4,w0,e9 (show(0:Int)<=(Val.vi (i:Int)).toI by show(0:Int)<=(i:Int);omega),e9 (show(Val.vi (i:Int)).toI<(Val.vi (l.length:Int)).toI by show(i:Int)<(l.length:Int);omega)];rfl) ?_;refine W8 (by rw[cP,co,Z8,dN,w4,w2];exact e9 (by show(i:Int)<(l.length:Int);omega)) ?_;refine W8 (by rw[cB,cx,co,v1];exact e9 (by show(0:Int)<=(j:Int);omega)) ?_;refine W8 (by rw[cP,co,Z8,dN,v1,w2];exact e9 (by show(j:Int)<(l.length:Int);omega)) ?_;have q1:dB aa (zs (zg 2002 4001 0) (zg 2002 5001 1))=decide (ci (bW l i) 0<ci (bW l j) 1):=by
   have e1:=uE w2 w4 0;have e2:=uE w2 v1 1;exact congr (congrArg (λa b:Int=>decide (a<b)) e1) e2
  have q2:dB aa (zs (zg 2002 5001 0) (zg 2002 4001 1))=decide (ci (bW l j) 0<ci (bW l i) 1):=by
   have e1:=uE w2 v1 0;have e2:=uE w2 w4 1;exact congr (congrArg (λa b:Int=>decide (a<b)) e1) e2
  unfold sr;by_cases c1:ci (bW l i) 0<ci (bW l j) 1
  .rw[e9 c1,B4];refine cy (q1.trans (e9 c1)) ?_;by_cases c2:ci (bW l j) 0<ci (bW l i) 1
   .rw[e9 c2,e8 rfl];have dh:bU aa X4= .vl [mv l i j]:=by
     have e1:=uE w2 w4 0;have e2:=uE w2 v1 0;have e3:=uE w2 w4 1;have e4:=uE w2 v1 1;show Val.vl [Val.vl [.vi (min (bU aa (.op .lget [aW,bg,.ci (0:Nat)])).toI (bU aa (.op .lget [aW,bD,.ci (0:Nat)])).toI),.vi (max (bU aa (.op .lget [aW,bg,.ci (1:Nat)])).toI (bU aa (.op .lget [aW,bD,.ci (1:Nat)])).toI)]]=_;rw[e1,e2,e3,e4];rfl
    have d5e:bU aa X5=cr (0,[.vi (eB l i j).length,.vi l.length,.vl (eB l i j)]):=by
     show aa.f 859 [.vi (bU aa X4).toL.length,.vi 0,bU aa X4,aa.w 2000,aa.w 2002,aa.w 4001,aa.w 5001]=_;rw[wf];show cr (0,[.vi (eB (aa.w 2002).toL (aa.w 4001).toI.toNat (aa.w 5001).toI.toNat).length,.vi (aa.w 2002).toL.length,.vl (eB (aa.w 2002).toL (aa.w 4001).toI.toNat (aa.w 5001).toI.toNat)])=_;rw[w2,w4,v1];rfl
    have d52:bU aa (zo X5 2)= .vl (eB l i j):=by
     show bZ (bU aa X5).toL 1 2=_;rw[d5e];rfl
    have d50:bU aa (zo X5 0)= .vi (eB l i j).length:=by
     show bZ (bU aa X5).toL 1 0=_;rw[d5e];rfl
    refine cu (by rw[iu,q2,e9 c2];rfl) (Z3 (r:=(0,[.vi (eB l i j).length,.vi l.length,.vl (eB l i j)])) ?_ d5e (W8 ?_ ?_))
    .show cI _ [Val.vi (bU aa X4).toL.length,.vi 0,bU aa X4]=_;rw[dh];exact dX6 w0 w2 w4 v1 hn
    .rw[dX,Z8,d50,d52];exact e9 rfl
    .show some (2,[Val.vi (bU aa (zo X5 2)).toL.length,Val.vb true,aa.w 5001,bU aa (zo X5 2)])=_;rw[d52,v1];rfl
   .rw[j5 c2,b9 Bool.false_ne_true];exact cy (by rw[iu,q2,j5 c2];rfl) (skip c)
  simp_all[j5,l6,b9,Bool.false_ne_true,cu]
 .refine cu (by rw[cP,co,co,v1,w0];exact j5 (by show¬(j:Int)<(l.length:Int);omega)) ?_;show some (1,[aa.w 5000,aa.w 5001])=_;grind
theorem dX7(f859: ∀a,I.f 859 a=om a){i:Nat}{x:Val}(h0:I.w 2000= .vi l.length)(h2:(I.w 2002).toL=l)(hw:I.w 4001= .vi i)(hi:i<l.length)(hn:l.length<=1000):
 cI (λvs=>W7 OI (I.upd 5000 vs)) [x,.vi (i+1:Nat)]=some (zP x l i):=by
 have run:=dG4 f859 (x:=x) h0 h2 hw hi hn;unfold zP;cases hf:gD l i with
 |none=>
  have hno: ∀j,i<j->j<l.length->sr l i j=false:=λj h1 h2=>by
   have:=A6.1 hf j (o8.2 h2);simpa[h1]using this
  refine eG (st:=λm=>[x,.vi (i+1+m:Nat)]) (n:=l.length-(i+1)) (λm hm=> ?_) ?_
  .rw[run _ (by omega),e8 (by omega),hno _ (by omega) (by omega)];rfl
  grind
 |some j=>
  obtain⟨a,b,c⟩:=oI hf;refine eG (st:=λm=>[x,.vi (i+1+m:Nat)]) (n:=j-(i+1)) (λm hm=> ?_) ?_
  .have h:=c (i+1+m) (by omega);rw[e9 (by omega),B4]at h;rw[run _ (by omega),e8 (by omega),h];rfl
  grind
end Go.Ev.S9
