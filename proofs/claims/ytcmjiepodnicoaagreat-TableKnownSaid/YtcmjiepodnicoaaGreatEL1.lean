import Derived.Test.YtcmjiepodnicoaaGreatE1
import Derived.Test.YtcmjiepodnicoaaGreatEM1
set_option linter.unusedSimpArgs false
set_option linter.unusedVariables false
namespace Go.Ev.S9
open Go Go.Ev
def Ui:SX:= ze aN 1
def Uq:SX:= zs aO aZ
def Vb:SX:= zt aO 1048576
def OX:SX:= cJ aO aO
def Sw:SX:= ze aT 0
def Tm:SX:= ze aU 0
def UF:SX:= ze aN 3
def T_wRight:VT:= .ite (Ui) (.ite (Uq) (.ret 0 [.cb false]) (.ite (Vb) (.ret 0 [.cb false]) (.ret 0 [zn Ui (zn OX (zn Sw Tm))]))) (.ite (ze aN 2) (.ite (Uq) (.ret 0 [.cb false]) (.ite (Vb) (.ret 0 [.cb false]) (.ite (zs aT aZ) (.ret 0 [.cb false]) (.ite (zt aT 1048576) (.ret 0 [.cb false]) (.ite (zn OX (zn (cJ aT aT) Tm)) (.need (cZ aT aM) (.ite (ze (.op (.ar .rem .i64) [aO,aT]) 0) (.ret 0 [zb (.op (.ar .quo .i64) [aO,aT]) 16]) (.ret 0 [.cb false]))) (.ret 0 [.cb false])))))) (.ite (UF) (.ite (zs aU aZ) (.ret 0 [.cb false]) (.ite (zt aU 1048576) (.ret 0 [.cb false]) (.ret 0 [zn UF (zn (ze aO 0) (zn Sw (cJ aU aU)))]))) (.ret 0 [.cb false])))
def T_evRight0:VT:= .ite (zs aN aZ) (.ret 0 [.ci 80]) (.ite (zt aN 2) (.ret 0 [.ci 80]) (.bad))
def T_evRight1:VT:= .ite (.op (.scmp .neq) [aO,.cs []]) (.ite (dP (zb (.op .slen [aO]) 32)) (.ret 0 [bK]) (.ite (zs aT (.ci (-1099511627776))) (.ret 0 [bG]) (.ite (zt aT 1099511627776) (.ret 0 [bG]) (.ret 0 [aM])))) (.ret 0 [bK])
def T_evRight2:VT:= .ite (dP (zn (ze bm 2) (zn (.op (.scmp .eql) [aO,.cs []]) (zn (cJ aT aT) (ze aU 0))))) (.ret 0 [bK]) (.ite (zs aT (.ci (-1099511627776))) (.ret 0 [bG]) (.ite (zt aT 1099511627776) (.ret 0 [bG]) (.ret 0 [aM])))
def yb:SX:= .app 751 [aM,aM,aM,aM,zl 0,aN,zl 0]
def Sr:VT:= .ite (zs aV (zl 0)) (.need (zp aV) (.ite (gY aR aM) (.ite (gY (zg 0 2000 0) aM) (.ite (zs (za aR (zg 0 2000 0)) aM) (.ret 0 [zi aV,za aR (zg 0 2000 0),zi aW]) (.ret 0 [zi aV,za aR (zg 0 2000 0),aW])) (.ret 0 [zi aV,za aR (zg 0 2000 0),aW])) (.ite (zs (zg 0 2000 0) aM) (.ite (gY (za aR (zg 0 2000 0)) aM) (.ret 0 [zi aV,za aR (zg 0 2000 0),zm aW aZ]) (.ret 0 [zi aV,za aR (zg 0 2000 0),aW])) (.ret 0 [zi aV,za aR (zg 0 2000 0),aW])))) (.ret 1 [aV,aR,aW])
def T_numSum:VT:= .loop ⟨751,[aM,aM,aM],2000,[aM,zl 0,aN,zl 0]⟩ Sr [.ite (cZ (zo yb 2) aM) (.ret 0 [aM,bJ]) (.ret 0 [zo yb 1,aM])]
def Ih:SX:= .op (.ar .rem .i64) [aN,aO]
def If:SX:= gY aN aM
def TC:SX:= za Ih aO
def Ko:SX:= zm aN TC
def MI:SX:= zm aN Ih
def T_down:VT:= .ite (zb aO 0) (.ret 0 [aM,bm]) (.need (cZ aO aM) (.ite (zs Ih aM) (.ite (dP (.op .beq [If,gY TC aM])) (.ite (dP (.op .beq [gY Ko aM,If])) (.ret 0 [aM,bJ]) (.ret 0 [Ko,aM])) (.ret 0 [Ko,aM])) (.ite (dP (.op .beq [If,gY Ih aM])) (.ite (dP (.op .beq [gY MI aM,If])) (.ret 0 [aM,bJ]) (.ret 0 [MI,aM])) (.ret 0 [MI,aM]))))
def De:VT:= .ite (zs aR (zl 1)) (.need (zp aR) (.ite (dP (.op .beq [gY (zg 1 2001 1) aM,gY (zg 1 2001 0) aM])) (.ite (dP (.op .beq [gY (zm (zg 1 2001 1) (zg 1 2001 0)) aM,gY (zg 1 2001 1) aM])) (.ite (gY (zg 1 2001 0) (zg 1 2001 1)) (.ret 2 [.cb false,aR]) (.ite (zt aR 0) (.need (zn (zp (zm aR aZ)) (zs (zm aR aZ) (zl 1))) (.ite (fV (cj aO (zm aR aZ) 1) (zg 1 2001 0)) (.ret 2 [.cb false,aR]) (.ret 0 [aV,zi aR]))) (.ret 0 [aV,zi aR]))) (.ite (gY (zg 1 2001 0) (zg 1 2001 1)) (.ret 2 [.cb false,aR]) (.ite (zs (zm (zg 1 2001 1) (zg 1 2001 0)) aN) (.ret 2 [.cb false,aR]) (.ite (zt aR 0) (.need (zn (zp (zm aR aZ)) (zs (zm aR aZ) (zl 1))) (.ite (fV (cj aO (zm aR aZ) 1) (zg 1 2001 0)) (.ret 2 [.cb false,aR]) (.ret 0 [aV,zi aR]))) (.ret 0 [aV,zi aR]))))) (.ite (gY (zg 1 2001 0) (zg 1 2001 1)) (.ret 2 [.cb false,aR]) (.ite (zs (zm (zg 1 2001 1) (zg 1 2001 0)) aN) (.ret 2 [.cb false,aR]) (.ite (zt aR 0) (.need (zn (zp (zm aR aZ)) (zs (zm aR aZ) (zl 1))) (.ite (fV (cj aO (zm aR aZ) 1) (zg 1 2001 0)) (.ret 2 [.cb false,aR]) (.ret 0 [aV,zi aR]))) (.ret 0 [aV,zi aR])))))) (.ret 1 [aV,aR])
def T_sRight:VT:= .loop ⟨754,[.cb false,aM],2000,[aN,aM,zl 1,aO,aM,zl 1,aO,zl 1]⟩ De [.ret 0 [.cb true],.ret 0 [zo (.app 754 [.cb false,aM,aN,aM,zl 1,aO,aM,zl 1,aO,zl 1]) 0]]
def Jf:SX:= zs aN aT
def Lu:SX:= fV aN aT
def T_spanP:VT:= .ite (zs aO aU) (.ite (Jf) (.ret 0 [.ci (-1)]) (.ite (Lu) (.ret 0 [.ci (-1)]) (.ret 0 [.ci (-1)]))) (.ite (fV aO aU) (.ite (Jf) (.ret 0 [aZ]) (.ite (Lu) (.ret 0 [aZ]) (.ret 0 [aZ]))) (.ite (Jf) (.ret 0 [.ci (-1)]) (.ite (Lu) (.ret 0 [aZ]) (.ret 0 [aM]))))
def Hb:SX:= za (zm (.app 709 [aS,aT]) aO) aT
def Fd:SX:= .app 753 [zL cu,Hb,cu,aN,aO,aT,aU,.app 709 [aS,aT]]
def Fu:SX:= zo Fd 2
def It:SX:= za (zm (.app 709 [aS,aO]) aO) aO
def Fx:SX:= .app 753 [zL cu,It,cu,aN,aO,aT,aU,.app 709 [aS,aO]]
def HD:SX:= zo Fx 2
def Rx:VT:= .ite (fO aR (.app 709 [aS,aT])) (.need (zn (cJ aV (zl 2002)) (zb (zL (zc aW (.op .row [.op .row [aR,za aR aO]]))) 1000000)) (.ite (ze aN 2) (.ret 0 [zL (zc aW (.op .row [.op .row [aR,za aR aO]])),za aR aT,zc aW (.op .row [.op .row [aR,za aR aO]])]) (.ret 0 [zL (zc aW (.op .row [.op .row [aR,za aR aO]])),za aR aO,zc aW (.op .row [.op .row [aR,za aR aO]])]))) (.ret 1 [aV,aR,aW])
def QX:VT:= .ite (fO aR (.app 709 [aS,aO])) (.need (zn (cJ aV (zl 2002)) (zb (zL (zc aW (.op .row [.op .row [aR,za aR aO]]))) 1000000)) (.ite (ze aN 2) (.ret 0 [zL (zc aW (.op .row [.op .row [aR,za aR aO]])),za aR aT,zc aW (.op .row [.op .row [aR,za aR aO]])]) (.ret 0 [zL (zc aW (.op .row [.op .row [aR,za aR aO]])),za aR aO,zc aW (.op .row [.op .row [aR,za aR aO]])]))) (.ret 1 [aV,aR,aW])
def T_wOf:VT:= .ite (dP (.app 700 [aN,aO,aT,aU])) (.ret 0 [cu]) (.ite (gY aS (.ci (-1099511627776))) (.ite (dP (zb aS 1099511627776)) (.ret 0 [cu]) (.ite (ze aN 3) (.ret 0 [.op .row [.op .row [aS,za aS aU]]]) (.ite (ze aN 2) (.need (zn (fO aZ aT) (zb aT 1048576)) (.loop ⟨753,[zL cu,Hb,cu],2000,[aN,aO,aT,aU,.app 709 [aS,aT]]⟩ Rx [.need (cJ (zo Fd 0) (zL Fu)) (.ret 0 [Fu])])) (.need (zn (fO aZ aO) (zb aO 1048576)) (.loop ⟨753,[zL cu,It,cu],2000,[aN,aO,aT,aU,.app 709 [aS,aO]]⟩ QX [.need (cJ (zo Fx 0) (zL HD)) (.ret 0 [HD])]))))) (.ret 0 [cu]))
def kI:SX:= .app 752 [zL cu,zL cu,aM,aM,aM,aM,aM,cu,cu,aM,zl 0,aN,zl 0]
def Iy:SX:= zo kI 0
def EU:SX:= zo kI 7
def rp:SX:= .op .lsub [EU,aM,Iy]
def GV:SX:= zo kI 1
def El:SX:= zo kI 8
def tq:SX:= .op .lsub [El,aM,GV]
def MK:VT:= .ite (zs aW (zl 0)) (.need (zp aW) (.ite (zn (ze (zg 0 2002 0) 0) (zn (ze (zg 0 2002 1) 0) (zn (ze (zg 0 2002 2) 0) (ze (zg 0 2002 3) 0)))) (.ret 0 [aV,aR,zi aW,bj,bp,bq,bv,bB,bw]) (.need (zp aR) (.ite (ze aR 0) (.need (zn (cJ aV (zl 2007)) (zb (zL (zc bB (.op .row [.op .row [zg 0 2002 0]]))) 1000000)) (.need (zn (cJ aR (zl 2008)) (zb (zL (zc bw (.op .row [.op .row [zg 0 2002 1]]))) 1000000)) (.ret 0 [zL (zc bB (.op .row [.op .row [zg 0 2002 0]])),zL (zc bw (.op .row [.op .row [zg 0 2002 1]])),zi aW,zg 0 2002 0,zg 0 2002 1,.op .imin [zg 0 2002 2,zg 0 2002 2],.op .imax [zg 0 2002 3,zg 0 2002 3],zc bB (.op .row [.op .row [zg 0 2002 0]]),zc bw (.op .row [.op .row [zg 0 2002 1]])]))) (.need (zn (cJ aV (zl 2007)) (zb (zL (zc bB (.op .row [.op .row [zg 0 2002 0]]))) 1000000)) (.need (zn (cJ aR (zl 2008)) (zb (zL (zc bw (.op .row [.op .row [zg 0 2002 1]]))) 1000000)) (.ret 0 [zL (zc bB (.op .row [.op .row [zg 0 2002 0]])),zL (zc bw (.op .row [.op .row [zg 0 2002 1]])),zi aW,bj,bp,.op .imin [bq,zg 0 2002 2],.op .imax [bv,zg 0 2002 3],zc bB (.op .row [.op .row [zg 0 2002 0]]),zc bw (.op .row [.op .row [zg 0 2002 1]])]))))))) (.ret 1 [aV,aR,aW,bj,bp,bq,bv,bB,bw])
def T_join:VT:= .loop ⟨752,[zL cu,zL cu,aM,aM,aM,aM,aM,cu,cu],2000,[aM,zl 0,aN,zl 0]⟩ MK [.need (zn (zn (zp Iy) (fO Iy (zL EU))) (zb (zL rp) 1000000)) (.need (zn (zn (zp GV) (fO GV (zL El))) (zb (zL tq) 1000000)) (.ite (cZ (.app 703 [rp]) aM) (.ret 0 [aM,aM,aM,aM,bJ]) (.ite (cZ (.app 703 [tq]) aM) (.ret 0 [aM,aM,aM,aM,bJ]) (.ret 0 [.app 702 [rp],.app 702 [tq],zo kI 5,zo kI 6,aM]))))]
def nU:SX:= za aO aN
def kg:SX:= .app 755 [zL cu,zL cu,aM,aO,nU,cu,cu,aO,nU,aO,nU,aM,zl 2,aT,zl 2]
def gM:SX:= zo kg 1
def iz:SX:= zo kg 6
def gN:SX:= zo kg 3
def mQ:SX:= zo kg 4
def pq:SX:= zo (.app 756 [aM,gM,gM,iz,gN,mQ,gM]) 0
def LZ:SX:= cj iz pq 0
def CS:SX:= .app 713 [iz,gM,pq,gN,mQ]
def uG:SX:= zo kg 5
def BB:SX:= cJ (zo kg 0) (zL uG)
def xA:SX:= .app 714 [iz,gM,pq,gN,mQ]
def Jb:VT:= .ite (zs aW (zl 2)) (.need (zp aW) (.ite (zs (zg 2 2002 0) (za aO aN)) (.ite (dP (zs aO (zg 2 2002 1))) (.need (zn (cJ aR (zl 2006)) (zb (zL (zc bv (.op .row [.op .row [zg 2 2002 0,zg 2 2002 1]]))) 1000000)) (.ret 0 [aV,zL (zc bv (.op .row [.op .row [zg 2 2002 0,zg 2 2002 1]])),zi aW,bj,bp,bq,zc bv (.op .row [.op .row [zg 2 2002 0,zg 2 2002 1]])])) (.need (zn (cJ aV (zl 2005)) (zb (zL (zc bq (.op .row [.op .row [zg 2 2002 0,zg 2 2002 1]]))) 1000000)) (.ret 0 [zL (zc bq (.op .row [.op .row [zg 2 2002 0,zg 2 2002 1]])),aR,zi aW,.op .imin [bj,zg 2 2002 0],.op .imax [bp,zg 2 2002 1],zc bq (.op .row [.op .row [zg 2 2002 0,zg 2 2002 1]]),bv]))) (.need (zn (cJ aR (zl 2006)) (zb (zL (zc bv (.op .row [.op .row [zg 2 2002 0,zg 2 2002 1]]))) 1000000)) (.ret 0 [aV,zL (zc bv (.op .row [.op .row [zg 2 2002 0,zg 2 2002 1]])),zi aW,bj,bp,bq,zc bv (.op .row [.op .row [zg 2 2002 0,zg 2 2002 1]])])))) (.ret 1 [aV,aR,aW,bj,bp,bq,bv])
def Pj:VT:= .ite (zs aV aR) (.need (zn (zp (zh aV aR)) (zs (zh aV aR) (zo (.app 755 [zL cu,zL cu,aM,aO,za aO aN,cu,cu,aO,za aO aN,aO,za aO aN,aM,zl 2,aT,zl 2]) 1))) (.need (zs (zh aV aR) (zL (zo (.app 755 [zL cu,zL cu,aM,aO,za aO aN,cu,cu,aO,za aO aN,aO,za aO aN,aM,zl 2,aT,zl 2]) 6))) (.ite (zs (cj (zo (.app 755 [zL cu,zL cu,aM,aO,za aO aN,cu,cu,aO,za aO aN,aO,za aO aN,aM,zl 2,aT,zl 2]) 6) (zh aV aR) 0) (zo (.app 755 [zL cu,zL cu,aM,aO,za aO aN,cu,cu,aO,za aO aN,aO,za aO aN,aM,zl 2,aT,zl 2]) 3)) (.ret 0 [zi (zh aV aR),aR]) (.ite (fV (cj (zo (.app 755 [zL cu,zL cu,aM,aO,za aO aN,cu,cu,aO,za aO aN,aO,za aO aN,aM,zl 2,aT,zl 2]) 6) (zh aV aR) 0) (zo (.app 755 [zL cu,zL cu,aM,aO,za aO aN,cu,cu,aO,za aO aN,aO,za aO aN,aM,zl 2,aT,zl 2]) 3)) (.ret 0 [aV,zh aV aR]) (.ret 0 [aV,zh aV aR]))))) (.ret 1 [aV,aR])
def T_sinsert:VT:= .ite (cJ aN (.op .imax [aZ,.op .imin [aN,bY]])) (.ite (cZ aO (.op .imax [.ci (-1099511627776),.op .imin [aO,bO]])) (.ret 0 [aM,aM,bm,cu,cu]) (.need (zb (zl 2) 400) (.ite (dP (.app 711 [aN,aT])) (.ret 0 [aM,aM,bm,cu,cu]) (.loop ⟨755,[zL cu,zL cu,aM,aO,nU,cu,cu],2000,[aO,nU,aO,nU,aM,zl 2,aT,zl 2]⟩ Jb [.need (zp gM) (.loop ⟨756,[aM,gM],2000,[gM,iz,gN,mQ,gM]⟩ Pj [.ite (zs pq gM) (.need (zp pq) (.need (zs pq (zL iz)) (.ite (zs LZ gN) (.need (CS) (.need (BB) (.ret 0 [gN,mQ,aM,uG,xA]))) (.ite (fV LZ gN) (.need (CS) (.need (BB) (.ret 0 [gN,mQ,aM,uG,xA]))) (.need (CS) (.need (BB) (.ret 0 [gN,mQ,aM,uG,xA]))))))) (.need (CS) (.need (BB) (.ret 0 [gN,mQ,aM,uG,xA])))])])))) (.ret 0 [aM,aM,bm,cu,cu])
def lw:SX:= .op .row [.op .row [aN,aO,aT,aU],.op .row [aZ,aS,aS,aS]]
def T_aput:VT:= .need (zb (zL lw) 1000) (.ite (cZ (.app 706 [lw]) aM) (.ret 0 [aN,aO,aT,aU,.app 706 [lw]]) (.ret 0 [cj (.app 705 [lw]) aM 0,cj (.app 705 [lw]) aM 1,cj (.app 705 [lw]) aM 2,cj (.app 705 [lw]) aM 3,aM]))
def CO:SX:= .app 750 [zL cu,cu,aS]
def qi:SX:= zo CO 1
def UJ:VT:= .need (zn (cJ aV (zl 2001)) (zb (zL (zc aR (.op .row [zv 4 2002]))) 1000000)) (.ret 0 [zL (zc aR (.op .row [zv 4 2002])),zc aR (.op .row [zv 4 2002])])
def T_trows:VT:= .mloop ⟨750,[zL cu,cu],2000,[aS]⟩ aS UJ [.need (zn (cJ (zo CO 0) (zL qi)) (zn (zn (zb (zL qi) 400) (.app 431 [qi])) (.app 491 [qi]))) (.ret 0 [.app 490 [qi]])]
def sK:SX:= .op (.mfind [.str,.int .i64,.int .i64]) [aS,.op .row [be,bd,bf]]
def oE:SX:= zs sK (zl 4)
def T_tget:VT:= .ret 0 [.op .ite [oE,cj aS sK 3,aM],.op .ite [oE,cj aS sK 4,aM],.op .ite [oE,cj aS sK 5,aM],.op .ite [oE,cj aS sK 6,aM],oE]
def Im:SX:= .app 757 [zL cu,cu,be,aS]
def FN:SX:= zo Im 0
def pu:SX:= zo Im 1
def Rl:VT:= .ite (.op (.scmp .eql) [zg 4 2002 0,be]) (.need (zn (cJ aV (zl 2001)) (zb (zL (zc aR (.op .row [.op .row [zg 4 2002 1,zg 4 2002 2]]))) 1000000)) (.ret 0 [zL (zc aR (.op .row [.op .row [zg 4 2002 1,zg 4 2002 2]])),zc aR (.op .row [.op .row [zg 4 2002 1,zg 4 2002 2]])])) (.ret 0 [aV,aR])
def T_tsess:VT:= .mloop ⟨757,[zL cu,cu],2000,[be,aS]⟩ aS Rl [.need (zn (cJ FN (zL pu)) (zn (zb (zL pu) 1000000) (.app 716 [pu]))) (.need (cJ FN (zL (.app 715 [pu]))) (.ret 0 [.app 715 [pu]]))]
def Ga:SX:= .app 718 [aU,bf,.app 723 [aS,bd]]
def Dn:SX:= cj Ga aM 0
def DF:SX:= cj Ga aM 1
def kM:SX:= .app 717 [aU,bf,.app 723 [aS,bd]]
def Eb:SX:= .app 758 [zL cu,aM,cu,be,bd,bf,bi,Dn,DF,zL kM,kM,zL kM]
def Er:SX:= zo Eb 2
def e43:VT:= .ite (zs aR (zL (.app 717 [aU,bf,.app 723 [aS,bd]]))) (.need (zp aR) (.need (zn (cJ aV (zl 2002)) (zb (zL (zc aW (.op .row [.op .row [bd,cj (.app 717 [aU,bf,.app 723 [aS,bd]]) aR 0,cj (.app 717 [aU,bf,.app 723 [aS,bd]]) aR 1]]))) 1000000)) (.ret 0 [zL (zc aW (.op .row [.op .row [bd,cj (.app 717 [aU,bf,.app 723 [aS,bd]]) aR 0,cj (.app 717 [aU,bf,.app 723 [aS,bd]]) aR 1]])),zi aR,zc aW (.op .row [.op .row [bd,cj (.app 717 [aU,bf,.app 723 [aS,bd]]) aR 0,cj (.app 717 [aU,bf,.app 723 [aS,bd]]) aR 1]])]))) (.ret 1 [aV,aR,aW])
def T_joined:VT:= .need (zn (zb (zl 4) 400) (.app 491 [aS])) (.need (zb (zL (.app 723 [aS,bd])) 24) (.loop ⟨758,[zL cu,aM,cu],2000,[be,bd,bf,bi,Dn,DF,zL kM,kM,zL kM]⟩ e43 [.need (cJ (zo Eb 0) (zL Er)) (.ret 0 [bd,Dn,DF,Er])]))
def xq:SX:= .op .row [.op .row [aZ,bi,bi,bi]]
def qe:SX:= .app 725 [aU,aS,bd,bf]
def th:SX:= cj qe aM 0
def tw:SX:= cj qe aM 1
def sF:SX:= cj qe aM 2
def gB:SX:= .app 724 [aU,aS,bd,bf]
def sj:SX:= .app 759 [zL cu,zL xq,aM,cu,xq,aN,aO,aT,aU,aS,th,tw,sF,zL gB,gB,zL gB]
def FL:SX:= zo sj 1
def Jy:SX:= zo sj 4
def kR:SX:= .op .lsub [Jy,aM,FL]
def NE:SX:= zo sj 3
def AK:SX:= .op .row [cj gB aW 0,cj gB aW 1,cj gB aW 2]
def oA(j:Int):SX:= .op .ite [zs (.op (.mfind [.str,.int .i64,.int .i64]) [aS,AK]) (zl 4),.op .lget [aS,.op (.mfind [.str,.int .i64,.int .i64]) [aS,AK],.ci j],aM]
def si:SX:= zc bp (.op .row [.op .row [oA 3,oA 4,oA 5,oA 6]])
def Cu:SX:= zc bj (.op .row [AK])
def Zc:SX:= zn (.op (.scmp .eql) [cj gB aW 0,th]) (zn (cJ (cj gB aW 1) tw) (cJ (cj gB aW 2) sF))
def e45:VT:= .ite (zs aW (zL gB)) (.need (zp aW) (.need (zn (cJ aR (zl 2004)) (zb (zL si) 1000000)) (.ite (dP Zc) (.need (zn (cJ aV (zl 2003)) (zb (zL Cu) 1000000)) (.ret 0 [zL Cu,zL si,zi aW,Cu,si])) (.ret 0 [aV,zL si,zi aW,bj,si])))) (.ret 1 [aV,aR,aW,bj,bp])
def T_sess:VT:= .need (zn (zb (zl 4) 24) (.app 491 [aS])) (.loop ⟨759,[zL cu,zL xq,aM,cu,xq],2000,[aN,aO,aT,aU,aS,th,tw,sF,zL gB,gB,zL gB]⟩ e45 [.need (zn (zn (zp FL) (fO FL (zL Jy))) (zb (zL kR) 1000)) (.ite (cZ (.app 706 [kR]) aM) (.ret 0 [.app 706 [kR],cu,cu]) (.need (cJ (zo sj 0) (zL NE)) (.ret 0 [aM,NE,.op .row [.op .row [th,tw,sF,cj (.app 705 [kR]) aM 0,cj (.app 705 [kR]) aM 1,cj (.app 705 [kR]) aM 2,cj (.app 705 [kR]) aM 3]]])))])
def sG:SX:= .app 701 [be,bd,bf,bi]
def ie:SX:= .app 704 [aN,aO,aT,aU,bf]
def zq:SX:= .app 760 [zL cu,sG,aM,cu,aN,aO,aT,aU,aS,be,bd,bf,bi,zL ie,ie,zL ie]
def Is:SX:= zo zq 1
def FI:SX:= zo zq 0
def JY:SX:= zo zq 3
def Db:SX:= .op .lsub [JY,aM,FI]
def EQ:SX:= .op .row [bd,cj ie aW 0,cj ie aW 1]
def jh(j:Int):SX:= .op .ite [zs (.op (.mfind [.str,.int .i64,.int .i64]) [aS,EQ]) (zl 4),.op .lget [aS,.op (.mfind [.str,.int .i64,.int .i64]) [aS,EQ],.ci j],aM]
def Bv:SX:= .app 708 [jh 3,jh 4,jh 5,jh 6,bi]
def ud:SX:= .app 707 [jh 3,jh 4,jh 5,jh 6,bi]
def Ct:SX:= zc bj (.op .row [.op .row [bd,cj ie aW 0,cj ie aW 1,cj ud aM 0,cj ud aM 1,cj ud aM 2,cj ud aM 3]])
def Nz:VT:= .ite (zs aW (zL ie)) (.need (zp aW) (.ite (cZ Bv aM) (.ret 1 [aV,Bv,aW,bj]) (.need (zn (cJ aV (zl 2003)) (zb (zL Ct) 1000000)) (.ret 0 [zL Ct,Bv,zi aW,Ct])))) (.ret 1 [aV,aR,aW,bj])
def T_tryE:VT:= .ite (cZ sG aM) (.ret 0 [sG,cu,cu]) (.ite (cZ be aZ) (.ret 0 [bm,cu,cu]) (.ite (ze aN 3) (.need (zn (zb (zl 4) 24) (.app 491 [aS])) (.ret 0 [.app 729 [aU,aS,bd,bf,bi],.app 727 [aU,aS,bd,bf,bi],.app 728 [aU,aS,bd,bf,bi]])) (.loop ⟨760,[zL cu,sG,aM,cu],2000,[aN,aO,aT,aU,aS,be,bd,bf,bi,zL ie,ie,zL ie]⟩ Nz [.ite (cZ Is aM) (.ret 0 [Is,cu,cu]) (.need (zn (zn (zp FI) (fO FI (zL JY))) (zn (zb (zL Db) 400) (.app 431 [Db]))) (.ret 0 [aM,cu,.app 490 [Db]]))])))
def HL:SX:= .app 732 [aN,aO,aT,aU,aS,be,bd,bf,bi]
def eD:SX:= .app 731 [aN,aO,aT,aU,aS,be,bd,bf,bi]
def iD:SX:= .app 730 [aN,aO,aT,aU,aS,be,bd,bf,bi]
def sO:SX:= zo (.app 761 [aM,aS,aN,aO,aT,aU,aS,zL eD,eD,zL iD,iD,zL iD]) 1
def Vj:VT:= .ite (zs aV (zL (.app 730 [aN,aO,aT,aU,aS,be,bd,bf,bi]))) (.need (zp aV) (.ret 0 [zi aV,.op (.mdel [.str,.int .i64,.int .i64]) [aR,.op .row [cj (.app 730 [aN,aO,aT,aU,aS,be,bd,bf,bi]) aV 0,cj (.app 730 [aN,aO,aT,aU,aS,be,bd,bf,bi]) aV 1,cj (.app 730 [aN,aO,aT,aU,aS,be,bd,bf,bi]) aV 2]]])) (.ret 1 [aV,aR])
def VK:VT:= .ite (zs aV (zL (.app 731 [aN,aO,aT,aU,aS,be,bd,bf,bi]))) (.need (zp aV) (.ret 0 [zi aV,.op .ite [zs (.op (.mfind [.str,.int .i64,.int .i64]) [aR,.op .row [cj (.app 731 [aN,aO,aT,aU,aS,be,bd,bf,bi]) aV 0,cj (.app 731 [aN,aO,aT,aU,aS,be,bd,bf,bi]) aV 1,cj (.app 731 [aN,aO,aT,aU,aS,be,bd,bf,bi]) aV 2]]) (zl 2001),.op .lset [aR,.op (.mfind [.str,.int .i64,.int .i64]) [aR,.op .row [cj (.app 731 [aN,aO,aT,aU,aS,be,bd,bf,bi]) aV 0,cj (.app 731 [aN,aO,aT,aU,aS,be,bd,bf,bi]) aV 1,cj (.app 731 [aN,aO,aT,aU,aS,be,bd,bf,bi]) aV 2]],.op .row [cj (.app 731 [aN,aO,aT,aU,aS,be,bd,bf,bi]) aV 0,cj (.app 731 [aN,aO,aT,aU,aS,be,bd,bf,bi]) aV 1,cj (.app 731 [aN,aO,aT,aU,aS,be,bd,bf,bi]) aV 2,cj (.app 731 [aN,aO,aT,aU,aS,be,bd,bf,bi]) aV 3,cj (.app 731 [aN,aO,aT,aU,aS,be,bd,bf,bi]) aV 4,cj (.app 731 [aN,aO,aT,aU,aS,be,bd,bf,bi]) aV 5,cj (.app 731 [aN,aO,aT,aU,aS,be,bd,bf,bi]) aV 6]],zc aR (.op .row [.op .row [cj (.app 731 [aN,aO,aT,aU,aS,be,bd,bf,bi]) aV 0,cj (.app 731 [aN,aO,aT,aU,aS,be,bd,bf,bi]) aV 1,cj (.app 731 [aN,aO,aT,aU,aS,be,bd,bf,bi]) aV 2,cj (.app 731 [aN,aO,aT,aU,aS,be,bd,bf,bi]) aV 3,cj (.app 731 [aN,aO,aT,aU,aS,be,bd,bf,bi]) aV 4,cj (.app 731 [aN,aO,aT,aU,aS,be,bd,bf,bi]) aV 5,cj (.app 731 [aN,aO,aT,aU,aS,be,bd,bf,bi]) aV 6]])]])) (.ret 1 [aV,aR])
def T_put:VT:= .need (zn (zn (zn (zb (zl 4) 400) (.app 431 [aS])) (.app 491 [aS])) (.app 739 [aN,aS,bd])) (.ite (cZ HL aM) (.ret 0 [HL,aS]) (.loop ⟨761,[aM,aS],2000,[aN,aO,aT,aU,aS,zL eD,eD,zL iD,iD,zL iD]⟩ Vj [.loop ⟨762,[aM,sO],2000,[aN,aO,aT,aU,sO,zL eD,eD,zL eD]⟩ VK [.ret 0 [aM,zo (.app 762 [aM,sO,aN,aO,aT,aU,sO,zL eD,eD,zL eD]) 1]]]))
def Nc:VT:= .ite (zs aR (zl 0)) (.ite (zs aR bN) (.need (zp aR) (.ite (zt (.op .slen [zg 0 2001 1]) 50) (.ret 2 [.cb false,aR]) (.ret 0 [aV,zi aR]))) (.ret 1 [aV,aR])) (.ret 1 [aV,aR])
def T_few:VT:= .loop ⟨765,[.cb false,aM],2000,[aM,zl 0,aN,aO]⟩ Nc [.ret 0 [fO (zl 0) aO],.ret 0 [zo (.app 765 [.cb false,aM,aM,zl 0,aN,aO]) 0]]
def IT:SX:= zn (ze aN 0) (zn (ze aO 0) (zn (ze aT 0) (ze aU 0)))
def OF:SX:= fO aT aU
def T_aRight:VT:= .ite (IT) (.ret 0 [.cb true]) (.ite (zt aN 0) (.ite (OF) (.ite (zt aN 1) (.ret 0 [OF]) (.ret 0 [zn (ze aN 1) (zn (cJ aO aO) (zn (cJ aT aO) (cJ aU aO)))])) (.ret 0 [IT])) (.ret 0 [IT]))
def T_aBlank:VT:= .ret 0 [zn (ze aN 0) (zn (ze aO 0) (zn (ze aT 0) (ze aU 0)))]
def T_pick:VT:= .ite (zb aO 0) (.ret 0 [aM]) (.need (cZ aO aM) (.ret 0 [.op (.ar .rem .i64) [za (.op (.ar .rem .i64) [aN,aO]) aO,aO]]))
def ex(j:Int):SX:= .op .lget [aS,bj,.ci j]
def aX:List SX:=[aN,aO,aT,aU,bp,ex 0,ex 1,ex 2,ex 3]
def x730:SX:= .app 730 aX
def x731:SX:= .app 731 aX
def x732:SX:= .app 732 aX
def x733:SX:= .app 733 aX
def rx(j:Int):SX:= .op .lget [x731,bg,.ci j]
def gx(j:Int):SX:= .op .lget [x730,bg,.ci j]
def tx:SX:= .app 721 [x733,rx 0,rx 1,rx 2]
def cx(j j':Int):SX:= cJ (.op .lget [tx,aM,.ci j]) (rx j')
def e46:VT:= .ite (zs bg (zL x731)) (.need (zp bg) (.need (zb (zL x733) 1000000) (.ite (dP (.app 722 [x733,rx 0,rx 1,rx 2])) (.ret 2 [.cb false,bg]) (.ite (dP (zn (cx 0 3) (zn (cx 1 4) (zn (cx 2 5) (cx 3 6))))) (.ret 2 [.cb false,bg]) (.ret 0 [bu,zi bg]))))) (.ret 1 [bu,bg])
def WF:VT:= .ite (zs bg (zL x730)) (.need (zp bg) (.need (zb (zL x733) 1000000) (.ite (.app 722 [x733,gx 0,gx 1,gx 2]) (.ret 2 [.cb false,bg]) (.ret 0 [bu,zi bg])))) (.ret 1 [bu,bg])
def nF:SX:= zc bq (.op .row [.op .row [ex 0,ex 1,ex 2,ex 3]])
def Al:SX:= za aW (zL (.app 704 [aN,aO,aT,aU,ex 2]))
def Rg:List SX:=[aM,zl 4,aS,be,aN,aO,aT,aU,aN,aO,aT,aU,x733,zL nF,nF,Al,bj,zL x730,x730,zL x731,x731]
def Qz:List SX:=[aM,zl 4,aS,be,aN,aO,aT,aU,aN,aO,aT,aU,x733,zL nF,nF,Al,bj,zL x730,x730]
def QP:SX:= .app 767 ([aV,aM]++Rg)
def xP:SX:= zo QP 0
def QK:SX:= .app 768 ([xP,aM]++Qz)
def IQ:SX:= zo QK 0
def AY(x:SX):SX:= zn (zn (zb (zL x) 400) (.app 431 [x])) (.app 491 [x])
def Ss:List SX:=[.cb false,aR,aW,bj,x733,bq]
def e48:VT:= .ite (zt (zL x730) 0) (.ret 2 Ss) (.ite (zt (zL x731) 0) (.ret 2 Ss) (.need (AY x733) (.need (zb (zL (.app 490 [bp])) 1000000) (.ite (dP (.app 3 [.app 490 [bp],.app 490 [x733]])) (.ret 2 Ss) (.ret 0 [aV,aR,aW,zi bj,x733,bq])))))
def Wm:VT:= .need (zn (cJ aR (zl 2005)) (zb (zL nF) 1000000)) (.loop ⟨767,[aV,aM],4000,Rg⟩ e46 [.loop ⟨768,[xP,aM],4000,Qz⟩ WF [.ret 0 [IQ,zL nF,Al,zi bj,x733,nF],.ret 2 [IQ,zL nF,Al,bj,x733,nF]],.ret 2 [xP,zL nF,Al,bj,x733,nF]])
def Hy:VT:= .ite (zs bj (zl 4)) (.need (AY bp) (.need (zp bj) (.need (.app 739 [aN,bp,ex 1]) (.ite (cZ x732 aM) e48 Wm)))) (.ret 1 [aV,aR,aW,bj,bp,bq])
def po:SX:= .app 766 [.cb false,zL cu,aM,aM,cu,cu,aM,zl 4,aS,be,aN,aO,aT,aU,aN,aO,aT,aU,cu]
def na:SX:= zo po 4
def DW:SX:= zo po 0
def lj:SX:= zo po 1
def iF:SX:= zo po 5
def Gt:SX:= zo po 2
def DD:SX:= zL (.app 490 [na])
def Hc:SX:= .app 769 [DW,aM,aM,be,aN,aO,aT,aU,lj,iF,Gt,DD,.app 490 [na]]
def Eo:SX:= zm lj aZ
def ll:SX:= .app 737 [be,lj]
def bV8:SX:= zp ll
def xc:SX:= .app 770 [zL cu,Eo,cu,aN,aO,aT,aU,lj,iF,DD,.app 490 [na],ll]
def CP:SX:= zo xc 2
def lF:SX:= zc CP (.op .lsub [iF,aM,ll])
def xZ:SX:= .app 771 [aM,aM,aM,cu,aN,aO,aT,aU,cu,zL lF,lF,zL lF]
def Vg:SX:= zo xZ 1
def wa:SX:= zo xZ 3
def HO:SX:= .app 3 [.app 490 [wa],.app 490 [na]]
def PT:SX:= zo xZ 0
def Yg:SX:= .app 3 [cu,.app 490 [na]]
def r7:SX:= .app 490 [na]
def qx(j:Int):SX:= .op .lget [r7,aW,.ci j]
def Qi:SX:= za aR (qx 3)
def CV:SX:= zc aW (.op .row [.op .row [cj iF aR 0,cj iF aR 1,cj iF aR 2,cj iF aR 3]])
def ux(j:Int):SX:= .op .lget [lF,aW,.ci j]
def bX:List SX:=[aN,aO,aT,aU,bj,ux 0,ux 1,ux 2,ux 3]
def e50:VT:= .ite (zs aW (zL r7)) (.need (zp aW) (.ite (dP (.app 735 [qx 3,qx 4,qx 5,qx 6])) (.ret 2 [.cb false,Qi,aW]) (.ite (.app 736 [qx 3,qx 4,qx 5,qx 6]) (.ret 2 [.cb false,Qi,aW]) (.ret 0 [aV,Qi,zi aW])))) (.ret 1 [aV,aR,aW])
def e51:VT:= .ite (gY aR ll) (.need (zn (zp aR) (zs aR lj)) (.need (zs aR (zL iF)) (.need (zn (cJ aV (zl 2002)) (zb (zL CV) 1000000)) (.ret 0 [zL CV,zm aR aZ,CV])))) (.ret 1 [aV,aR,aW])
def PE:VT:= .ite (zs aW (zL lF)) (.need (zp aW) (.ite (cZ aR aM) (.ret 2 [aR,aR,aW,bj]) (.need (zn (AY bj) (.app 739 [aN,bj,ux 1])) (.ret 0 [aV,.app 732 bX,zi aW,.app 733 bX])))) (.ret 1 [aV,aR,aW,bj])
def T_order:VT:= .ite (dP (.app 734 [aS,bQ])) (.ret 0 [.cb true]) (.ite (dP (.app 700 [aN,aO,aT,aU])) (.ret 0 [.cb true]) (.loop ⟨766,[.cb false,zL cu,aM,aM,cu,cu],2000,[aM,zl 4,aS,be,aN,aO,aT,aU,aN,aO,aT,aU,cu]⟩ Hy [.need (zn (zn (zb (zL na) 400) (.app 431 [na])) (.app 491 [na])) (.loop ⟨769,[DW,aM,aM],2000,[be,aN,aO,aT,aU,lj,iF,Gt,DD,.app 490 [na]]⟩ e50 [.ite (cZ (zo Hc 1) Gt) (.ret 0 [.cb false]) (.need (zp lj) (.loop ⟨770,[zL cu,Eo,cu],2000,[aN,aO,aT,aU,lj,iF,DD,.app 490 [na],ll]⟩ e51 [.need (zn bV8 (fO ll lj)) (.need (zn (zn bV8 (fO ll (zL iF))) (zn (cJ (zo xc 0) (zL CP)) (zb (zL lF) 1000000))) (.loop ⟨771,[aM,aM,aM,cu],2000,[aN,aO,aT,aU,cu,zL lF,lF,zL lF]⟩ PE [.ite (cZ Vg aM) (.ite (ze Vg 30) (.ret 0 [.cb true]) (.ret 0 [.cb false])) (.need (zn (zn (zb (zL wa) 400) (.app 431 [wa])) (.app 491 [wa])) (.need (zb (zL (.app 490 [wa])) 1000000) (.ite (HO) (.ret 0 [HO]) (.ret 0 [.cb false])))),.ite (ze PT 30) (.ret 0 [.cb true]) (.ite (ze PT 0) (.need (zb (zL cu) 1000000) (.ite (Yg) (.ret 0 [Yg]) (.ret 0 [.cb false]))) (.ret 0 [.cb false]))]))])),.ret 0 [zo Hc 0]]),.ret 0 [DW]]))
theorem cN(I:Opq)(v0:Nat)(l:List Val)(n:Nat):(I.upd v0 l).w n=if v0<=n then l.getD (n-v0) (.vb false)else I.w n:=rfl
theorem eV(I:Opq)(v0:Nat)(l:List Val):(I.upd v0 l).f=I.f:=rfl
@[simp]theorem a09(n:Int):(Val.vi n).toI=n:=rfl
@[simp]theorem dz0(n:List UInt8):(Val.vs n).toS=n:=rfl
@[simp]theorem ak3(n:Bool):(Val.vb n).toB=n:=rfl
@[simp]theorem a65(n:List Val):(Val.vl n).toL=n:=rfl
@[simp]theorem a99(a b:Int):jt .lss a b=decide (a<b):=rfl
@[simp]theorem ad7(a b:Int):jt .leq a b=decide (a<=b):=rfl
@[simp]theorem ar0(a b:Int):jt .gtr a b=decide (b<a):=rfl
@[simp]theorem cM1(a b:Int):jt .geq a b=decide (b<=a):=rfl
@[simp]theorem cM2(a b:Int):jt .eql a b=decide (a=b):=rfl
@[simp]theorem bW0(a b:Int):jt .neq a b= !decide (a=b):=rfl
@[simp]theorem cM3(a b:List UInt8):qE .eql a b=decide (a=b):=rfl
@[simp]theorem bW1(a b:List UInt8):qE .neq a b= !decide (a=b):=rfl
theorem W8{I:Opq}{e:SX}{x:VT}{r:Option (Nat×List Val)}(h:dB I e=true)(h2:Z0 x I=r):Z0 (.need e x) I=r:=by rw[Z0.eq_3,e8 h,h2]
theorem cG{I:Opq}{e:SX}{x y:VT}{r:Option (Nat×List Val)}(h:dB I e=true)(h2:Z0 x I=r):Z0 (.ite e x y) I=r:=by rw[Z0.eq_2,e8 h,h2]
theorem cE{I:Opq}{e:SX}{x y:VT}{r:Option (Nat×List Val)}(h:dB I e=false)(h2:Z0 y I=r):Z0 (.ite e x y) I=r:=by simp_all[Z0.eq_2,b9]
theorem Z5{I:Opq}{hd:LHd}{b:VT}{ks:List VT}{r:Nat×List Val}{x:Option (Nat×List Val)}(h1:cO (λvs=>Z0 b (I.upd hd.v0 vs)) (ck I hd.s0)=some r)(h2:I.f hd.id (ck I (hd.s0++hd.fv))=cA r)(h3:sh ks r.1 I=x):Z0 (.loop hd b ks) I=x:=by
 simp_all[Z0.eq_5,e8]
theorem lu{x:Int}(h: -9223372036854775808<=x)(h2:x<9223372036854775808):IntKind.i64.wrap x=x:=by
 grind[IntKind.wrap,IntKind.bits,IntKind.signed]
theorem gj{x y:Int}(h: -9223372036854775808<=x+y)(h2:x+y<9223372036854775808):cn .add .i64 x y=x+y:=lu h h2
theorem kN{x y:Int}(h: -9223372036854775808<=x-y)(h2:x-y<9223372036854775808):cn .sub .i64 x y=x-y:=lu h h2
theorem eJ{i n:Nat}(h:i<n)(h2:n<=9223372036854775807):cn .add .i64 (i:Int) 1=((i+1:Nat):Int):=by
 grind[gj]
def ci(r:Val)(k:Nat):Int:=(Z7 r k).toI
def cV(k s l g:Int):Bool:=
 if k=1 then decide (1<=s)&&decide (s<=1048576)&&decide (l=0)&&decide (g=0)
 else if k=2 then decide (1<=s)&&decide (s<=1048576)&&decide (1<=l)&&decide (l<=1048576)&&decide (g=0)&&decide (s % l=0)&&decide (s/l<=16)
 else decide (k=3)&&decide (1<=g)&&decide (g<=1048576)&&decide (s=0)&&decide (l=0)
def eU(t:Int):Bool:=decide (-1099511627776<=t)&&decide (t<=1099511627776)
def dH(k:Int)(key:List UInt8)(t v:Int):Int:=
 if k<1\/2<k then 80
 else if k=1 then(if key=[]\/32<key.length then 60 else if eU t then 0 else 61)
 else(if key=[]/\v=0 then(if eU t then 0 else 61)else 60)
def fZ(g:Nat->Int):Nat->Int×Int
 |0=>(0,0)
 |k+1=>let s:=(fZ g k).1;let o:=(fZ g k).2;let x:=g k;let t:=cn .add .i64 s x
  if 0<=s/\0<=x/\t<0 then(t,cn .add .i64 o 1)else if s<0/\x<0/\0<=t then(t,cn .sub .i64 o 1)else(t,o)
def js(l:List Val):Int×Int:=fZ (λk=>ci (cg l k) 0) l.length
def gC(l:List Val):Int:=if(js l).2=0 then 0 else 30
def pQ(l:List Val):Int:=if(js l).2=0 then(js l).1 else 0
def rU(a b c d:Int):Bool:=decide (a=0)&&(decide (b=0)&&(decide (c=0)&&decide (d=0)))
def AZ(a b c d:Int):Bool:=rU a b c d||decide (0<a)&&decide (c<=d)&&(decide (1<a)||decide (a=1)&&decide (c=b)&&decide (d=b))
def DK(a b c d:Int):Int:=if b<d then-1 else if d<b then 1 else if a<c then-1 else if c<a then 1 else 0
def pd(r:Val):Bool:=decide (50<(Z7 r 1).toS.length)
def tD(i n:Int):Int:=if n<=0 then 0 else cn .rem .i64 (cn .add .i64 (cn .rem .i64 i n) n) n
def fU(n d:Int):Int:=n-n % d
def dT(k s l:Int):Int:=if k=2 then l else s
def jc(st step size:Int)(j:Nat):List Val:=[.vl [.vi (st+j*step),.vi (st+j*step+size)]]
def fP(k s l:Int):Nat:=(s/dT k s l).toNat
def dw(k s l g:Int)(t:Val):List Val:=bif cV k s l g&&eU t.toI then(if k=3 then [.vl [t,.vi (t.toI+g)]]else cB (jc (fU t.toI (dT k s l)-s+dT k s l) (dT k s l) s) (fP k s l))else []
def uL(r:Val):Bool:=rU (ci r 0) (ci r 1) (ci r 2) (ci r 3)
def jG(l:List Val)(c:Nat)(k:Nat):List Val:=bif uL (cg l k)then []else [.vl [Z7 (cg l k) c]]
def jS(l:List Val):Nat->List Val
 |0=>[.vi 0,.vi 0,.vi 0,.vi 0]
 |k+1=>bif uL (cg l k)then jS l k else
  (if(cB (jG l 0) k).length=0 then [Z7 (cg l k) 0,Z7 (cg l k) 1,.vi (min (ci (cg l k) 2) (ci (cg l k) 2)),.vi (max (ci (cg l k) 3) (ci (cg l k) 3))]
   else [(jS l k).getD 0 default,(jS l k).getD 1 default,.vi (min ((jS l k).getD 2 default).toI (ci (cg l k) 2)),.vi (max ((jS l k).getD 3 default).toI (ci (cg l k) 3))])
def jC(l:List Val):List Val:=cB (jG l 0) l.length
def jT(l:List Val):List Val:=cB (jG l 1) l.length
def jE(l:List Val):Int:=if gC (jC l)≠0\/gC (jT l)≠0 then 30 else 0
def jR(l:List Val):List Val:=if gC (jC l)≠0\/gC (jT l)≠0 then [.vi 0,.vi 0,.vi 0,.vi 0]else [.vi (pQ (jC l)),.vi (pQ (jT l)),(jS l l.length).getD 2 default,(jS l l.length).getD 3 default]
def pR(a b c d v:Val):List Val:=[.vl [a,b,c,d],.vl [.vi 1,v,v,v]]
def ou(a b c d v:Val):List Val:=if jE (pR a b c d v)≠0 then [a,b,c,d]else jR (pR a b c d v)
def Dh(l:List Val)(key:List UInt8)(i:Nat):List Val:=bif decide ((Z7 (cg l i) 0).toS=key)then [.vl [Z7 (cg l i) 1,Z7 (cg l i) 2]]else []
def gK(l:List Val)(key:List UInt8):List Val:=cB (Dh l key) l.length
def spanV(a b:Val):Int:=DK (ci a 0) (ci a 1) (ci b 0) (ci b 1)
def Z9(r:Val):Int×Int:=(ci r 0,ci r 1)
def gV(l:List Val)(p:Val):Nat:=l.findIdx λr=>io [.str,.int .i64,.int .i64] r p
def gO(l:List Val)(p:Val):Bool:=decide (gV l p<l.length)
def ii(l:List Val)(p:Val)(j:Nat):Val:=bif gO l p then Z7 (cg l (gV l p)) j else .vi 0
def qa(l:List Val)(p:Val):List Val:=[ii l p 3,ii l p 4,ii l p 5,ii l p 6]
def dz1(s e:Int):Bool:= !((!((decide (0<=e))==(decide (0<=s))))&&(!((decide (0<=cn .sub .i64 e s))==(decide (0<=e)))))
def mj(g:Int)(l:List Val)(i:Nat):Bool:=decide (ci (cg l i) 1<=ci (cg l i) 0)||(dz1 (ci (cg l i) 0) (ci (cg l i) 1)&&decide (cn .sub .i64 (ci (cg l i) 1) (ci (cg l i) 0)<g))||(decide (0<i)&&decide (ci (cg l i) 0<ci (cg l (i-1)) 1))
def qW(t o:Int)(r:Val):Bool:=decide (ci r 0<o)&&decide (t<ci r 1)
def eB(r:Val):Val:= .vl [Z7 r 0,Z7 r 1]
def By(l:List Val)(t o:Int)(i:Nat):List Val:=bif qW t o (cg l i)then [eB (cg l i)]else []
def zA(l:List Val)(t o:Int)(i:Nat):List Val:=bif qW t o (cg l i)then []else [eB (cg l i)]
def lV(l:List Val)(t o:Val):Nat->Val×Val
 |0=>(t,o)
 |i+1=>bif qW t.toI o.toI (cg l i)then(.vi (min (lV l t o i).1.toI (ci (cg l i) 0)),.vi (max (lV l t o i).2.toI (ci (cg l i) 1)))else lV l t o i
def Bh(l:List Val)(t o:Int):List Val:=cB (By l t o) l.length
def Jr(l:List Val)(t o:Int):List Val:=cB (zA l t o) l.length
def nO(l:List Val)(x:Int):Nat->Nat->Nat->Nat
 |0,i,_=>i
 |n+1,i,j=>if i<j then(if ci (cg l ((i+j)/2)) 0<x then nO l x n ((i+j)/2+1) j else nO l x n i ((i+j)/2))else i
def IA(l:List Val)(j:Nat)(a b:Val):List Val:=(l.take j).map eB++[.vl [a,b]]++(l.drop j).map eB
def ju(g t:Int)(l:List Val):Bool:=decide (1<=g)&&decide (g<=1048576)&&eU t&& !(List.range l.length).any (mj g l)
def pE(g t:Int):Val:= .vi (cn .add .i64 t g)
def iT(g t:Val)(l:List Val):Val×Val:=lV l t (pE g.toI t.toI) l.length
def ja(g t:Val)(l:List Val):List Val:=Jr l t.toI (pE g.toI t.toI).toI
def rB(g t:Val)(l:List Val):List Val:=Bh l t.toI (pE g.toI t.toI).toI
def ox(g t:Val)(l:List Val):Nat:=nO (ja g t l) (iT g t l).1.toI (ja g t l).length 0 (ja g t l).length
noncomputable def dv(m:List Val)(key:Val):List Val:=ic spanV (gK m key.toS)
noncomputable def lG(g:Val)(m:List Val)(key t:Val):List Val:=bif ju g.toI t.toI (dv m key)then rB g t (dv m key)else []
noncomputable def lU(g:Val)(m:List Val)(key t:Val):List Val:=bif ju g.toI t.toI (dv m key)then [(iT g t (dv m key)).1,(iT g t (dv m key)).2]else [.vi 0,.vi 0]
def fY(key r:Val):Val:= .vl [key,Z7 r 0,Z7 r 1]
def zS(key ns ne r:Val):Bool:=decide ((Z7 r 0).toS=key.toS)&&(decide ((Z7 r 1).toI=ns.toI)&&decide ((Z7 r 2).toI=ne.toI))
def kU(key ns ne r:Val):List Val:=bif zS key ns ne r then []else [eP r]
def jJ(P:List Val)(key ns ne:Val):List Val:=cB (λi=>kU key ns ne (cg P i)) P.length
def lR(m:List Val)(r:Val):Val:= .vl (qa m (eP r))
def lN(m P:List Val)(v:Val):List Val:= .vl [.vi 1,v,v,v]::P.map (lR m)
noncomputable def jI(g:Val)(m:List Val)(key t:Val):List Val:=(lG g m key t).map (fY key)
noncomputable def tn(g:Val)(m:List Val)(key t v:Val):Int:=jE (lN m (jI g m key t) v)
noncomputable def oj(g:Val)(m:List Val)(key t v:Val):List Val:=if tn g m key t v≠0 then []else jJ (jI g m key t) key ((lU g m key t).getD 0 default) ((lU g m key t).getD 1 default)
noncomputable def oO(g:Val)(m:List Val)(key t v:Val):List Val:=if tn g m key t v≠0 then []else [.vl [key,(lU g m key t).getD 0 default,(lU g m key t).getD 1 default,(jR (lN m (jI g m key t) v)).getD 0 default,(jR (lN m (jI g m key t) v)).getD 1 default,(jR (lN m (jI g m key t) v)).getD 2 default,(jR (lN m (jI g m key t) v)).getD 3 default]]
def qv(m:List Val)(key r:Val)(j:Nat):Val:=ii m (fY key r) j
def lh(m:List Val)(key v r:Val):Int:=jE (pR (qv m key r 3) (qv m key r 4) (qv m key r 5) (qv m key r 6) v)
def AM(m:List Val)(key v r:Val):List Val:=ou (qv m key r 3) (qv m key r 4) (qv m key r 5) (qv m key r 6) v
def oD(m:List Val)(key v r:Val):Val:= .vl [key,Z7 r 0,Z7 r 1,(AM m key v r).getD 0 default,(AM m key v r).getD 1 default,(AM m key v r).getD 2 default,(AM m key v r).getD 3 default]
def ib(m S:List Val)(key v:Val):Nat:=((List.range S.length).find? λi=>decide (lh m key v (cg S i)≠0)).getD S.length
def gu(m S:List Val)(key v:Val)(k:Nat):List Val:=cB (λi=>[oD m key v (cg S i)]) k
def lE(m S:List Val)(key v e0:Val):Val:=if ib m S key v<S.length then .vi (lh m key v (cg S (ib m S key v)))else if S.length=0 then e0 else .vi 0
noncomputable def dC(w:List Val):Int:=if dH (ce w 5).toI (ce w 6).toS (ce w 7).toI (ce w 8).toI≠0 then dH (ce w 5).toI (ce w 6).toS (ce w 7).toI (ce w 8).toI else if(ce w 5).toI≠1 then 2 else if(ce w 0).toI=3 then tn (ce w 3) (ce w 4).toL (ce w 6) (ce w 7) (ce w 8)else
 (lE (ce w 4).toL (dw (ce w 0).toI (ce w 1).toI (ce w 2).toI (ce w 3).toI (ce w 7)) (ce w 6) (ce w 8) (.vi 0)).toI
noncomputable def eF(w:List Val):List Val:=if dH (ce w 5).toI (ce w 6).toS (ce w 7).toI (ce w 8).toI≠0\/(ce w 5).toI≠1 then []else if(ce w 0).toI=3 then oj (ce w 3) (ce w 4).toL (ce w 6) (ce w 7) (ce w 8)else []
noncomputable def eS(X:Nat->List Val->Val)(w:List Val):Val:=if dH (ce w 5).toI (ce w 6).toS (ce w 7).toI (ce w 8).toI≠0\/(ce w 5).toI≠1 then .vl []else if(ce w 0).toI=3 then .vl (oO (ce w 3) (ce w 4).toL (ce w 6) (ce w 7) (ce w 8))else
 if dC w≠0 then .vl []else X 490 [.vl (gu (ce w 4).toL (dw (ce w 0).toI (ce w 1).toI (ce w 2).toI (ce w 3).toI (ce w 7)) (ce w 6) (ce w 8) (dw (ce w 0).toI (ce w 1).toI (ce w 2).toI (ce w 3).toI (ce w 7)).length)]
def Te:Val->Bool
 | .vs _=>true
 |_=>false
def gq(m:Val)(P:List Val):Nat->Val
 |0=>m
 |i+1=> .vl ((gq m P i).toL.eraseIdx (gV (gq m P i).toL (eP (cg P i))))
def fI(m:Val)(R:List Val):Nat->Val
 |0=>m
 |i+1=>bif gO (fI m R i).toL (eP (cg R i))then .vl ((fI m R i).toL.set (gV (fI m R i).toL (eP (cg R i))) (cQ (cg R i)))else .vl ((fI m R i).toL++[cQ (cg R i)])
noncomputable def eQ(X:Nat->List Val->Val)(w:List Val):Val:=if dC w≠0 then ce w 4 else fI (gq (ce w 4) (eF w) (eF w).length) (eS X w).toL (eS X w).toL.length
def lq(r:Val):Val:= .vl [Z7 r 0,Z7 r 1,Z7 r 2,Z7 r 3]
def gk(a b c d m r:Val):List Val:=[a,b,c,d,m,Z7 r 0,Z7 r 1,Z7 r 2,Z7 r 3]
noncomputable def fK(X:Nat->List Val->Val)(a b c d:Val)(ops:List Val):Nat->Int×Val×List Val
 |0=>(0,.vl [],[])
 |i+1=>if dC (gk a b c d (fK X a b c d ops i).2.1 (cg ops i))≠0 then((fK X a b c d ops i).1,eQ X (gk a b c d (fK X a b c d ops i).2.1 (cg ops i)),(fK X a b c d ops i).2.2)
  else(cn .add .i64 (fK X a b c d ops i).1 (dw a.toI b.toI c.toI d.toI (Z7 (cg ops i) 2)).length,eQ X (gk a b c d (fK X a b c d ops i).2.1 (cg ops i)),(fK X a b c d ops i).2.2++[lq (cg ops i)])
def lS(l:List Val):Nat->Int
 |0=>0
 |k+1=>cn .add .i64 (lS l k) (ci (cg l k) 3)
def fk(T:List Val)(j:Nat):List Val:=cB (λi=>[lq (cg T (T.length-1-i))]) j
noncomputable def jB(X:Nat->List Val->Val)(a b c d:Val)(U:List Val):Nat->Val
 |0=> .vl []
 |i+1=>eQ X (gk a b c d (jB X a b c d U i) (cg U i))
noncomputable def gd(X:Nat->List Val->Val)(a b c d:Val)(U:List Val)(i:Nat):Int:=dC (gk a b c d (jB X a b c d U i) (cg U i))
noncomputable def eO(X:Nat->List Val->Val)(a b c d:Val)(U:List Val):Nat:=((List.range U.length).find? λi=>decide (gd X a b c d U i≠0)).getD U.length
noncomputable def qX(X:Nat->List Val->Val)(a b c d:Val)(U:List Val):Nat×List Val:=if eO X a b c d U+1<U.length then(1,[.vi (gd X a b c d U (eO X a b c d U)),.vi (gd X a b c d U (eO X a b c d U)),.vi (eO X a b c d U+1:Nat),jB X a b c d U (eO X a b c d U+1)])
 else(0,[.vi 0,if eO X a b c d U<U.length then .vi (gd X a b c d U (eO X a b c d U))else .vi 0,.vi U.length,jB X a b c d U U.length])
def ed:Val->Bool
 | .vi _=>true
 |_=>false
def nL:Val->Bool
 | .vl [.vi _,.vs _,.vi _,.vi v]=>decide (-9223372036854775808<=v)&&decide (v<9223372036854775808)
 |_=>false
def wX:Val->Bool
 | .vl l=>l.all nL
 |_=>false
noncomputable def FT(X:Nat->List Val->Val):Nat->List Val->Val:=λi a=>match i with
 |700=> .vb (cV (ce a 0).toI (ce a 1).toI (ce a 2).toI (ce a 3).toI)
 |701=> .vi (dH (ce a 0).toI (ce a 1).toS (ce a 2).toI (ce a 3).toI)
 |702=> .vi (pQ (ce a 0).toL)
 |703=> .vi (gC (ce a 0).toL)
 |704=> .vl (dw (ce a 0).toI (ce a 1).toI (ce a 2).toI (ce a 3).toI (ce a 4))
 |753=>cA (0,[.vi (fP (ce a 3).toI (ce a 4).toI (ce a 5).toI),.vi ((ce a 1).toI+fP (ce a 3).toI (ce a 4).toI (ce a 5).toI*dT (ce a 3).toI (ce a 4).toI (ce a 5).toI),.vl (cB (jc (ce a 1).toI (dT (ce a 3).toI (ce a 4).toI (ce a 5).toI) (ce a 4).toI) (fP (ce a 3).toI (ce a 4).toI (ce a 5).toI))])
 |705=> .vl [.vl (jR (ce a 0).toL)]
 |706=> .vi (jE (ce a 0).toL)
 |752=>cA (0,[.vi (jC (ce a 11).toL).length,.vi (jT (ce a 11).toL).length,.vi (ce a 11).toL.length]++jS (ce a 11).toL (ce a 11).toL.length++[.vl (jC (ce a 11).toL),.vl (jT (ce a 11).toL)])
 |707=> .vl [.vl (ou (ce a 0) (ce a 1) (ce a 2) (ce a 3) (ce a 4))]
 |708=> .vi (jE (pR (ce a 0) (ce a 1) (ce a 2) (ce a 3) (ce a 4)))
 |715=> .vl (ic spanV (ce a 0).toL)
 |716=> .vb (decide ((ce a 0).toL.map Z9).Nodup)
 |721=> .vl [.vl (qa (ce a 0).toL (.vl [ce a 1,ce a 2,ce a 3]))]
 |722=> .vb (gO (ce a 0).toL (.vl [ce a 1,ce a 2,ce a 3]))
 |723=> .vl (ic spanV (gK (ce a 0).toL (ce a 1).toS))
 |750=>cA (0,[.vi (ce a 2).toL.length,.vl ((ce a 2).toL.map cQ)])
 |757=>cA (0,[.vi (gK (ce a 3).toL (ce a 2).toS).length,.vl (gK (ce a 3).toL (ce a 2).toS)])
 |711=> .vb (!(List.range (ce a 1).toL.length).any (mj (ce a 0).toI (ce a 1).toL))
 |754=>cA (gZ (.vb false) (λk=>[.vb false,.vi k]) (mj (ce a 2).toI (ce a 5).toL) (ce a 5).toL.length)
 |713=> .vb (decide ((ce a 1).toI=((ce a 0).toL.length:Int))&&decide (0<=(ce a 2).toI)&&decide ((ce a 2).toI<=((ce a 0).toL.length:Int))&&decide ((ce a 0).toL.length<=24))
 |714=> .vl (IA (ce a 0).toL (ce a 2).toI.toNat (ce a 3) (ce a 4))
 |717=> .vl (bif ju (ce a 0).toI (ce a 1).toI (ce a 2).toL then rB (ce a 0) (ce a 1) (ce a 2).toL else [])
 |718=> .vl [.vl (bif ju (ce a 0).toI (ce a 1).toI (ce a 2).toL then [(iT (ce a 0) (ce a 1) (ce a 2).toL).1,(iT (ce a 0) (ce a 1) (ce a 2).toL).2]else [.vi 0,.vi 0])]
 |719=> .vl (bif ju (ce a 0).toI (ce a 1).toI (ce a 2).toL then IA (ja (ce a 0) (ce a 1) (ce a 2).toL) (ox (ce a 0) (ce a 1) (ce a 2).toL) (iT (ce a 0) (ce a 1) (ce a 2).toL).1 (iT (ce a 0) (ce a 1) (ce a 2).toL).2 else [])
 |720=> .vi (bif ju (ce a 0).toI (ce a 1).toI (ce a 2).toL then 0 else 2)
 |755=>cA (0,[.vi (Bh (ce a 13).toL (ce a 3).toI (ce a 4).toI).length,.vi (Jr (ce a 13).toL (ce a 3).toI (ce a 4).toI).length,.vi (ce a 13).toL.length,(lV (ce a 13).toL (ce a 3) (ce a 4) (ce a 13).toL.length).1,(lV (ce a 13).toL (ce a 3) (ce a 4) (ce a 13).toL.length).2,.vl (Bh (ce a 13).toL (ce a 3).toI (ce a 4).toI),.vl (Jr (ce a 13).toL (ce a 3).toI (ce a 4).toI)])
 |756=>cA (0,[.vi (nO (ce a 3).toL (ce a 4).toI (ce a 3).toL.length 0 (ce a 3).toL.length),.vi (nO (ce a 3).toL (ce a 4).toI (ce a 3).toL.length 0 (ce a 3).toL.length)])
 |724=> .vl ((lG (ce a 0) (ce a 1).toL (ce a 2) (ce a 3)).map (fY (ce a 2)))
 |725=> .vl [.vl (ce a 2::lU (ce a 0) (ce a 1).toL (ce a 2) (ce a 3))]
 |758=>cA (0,[.vi (ce a 10).toL.length,.vi (ce a 10).toL.length,.vl ((ce a 10).toL.map (fY (ce a 4)))])
 |727=> .vl (oj (ce a 0) (ce a 1).toL (ce a 2) (ce a 3) (ce a 4))
 |728=> .vl (oO (ce a 0) (ce a 1).toL (ce a 2) (ce a 3) (ce a 4))
 |729=> .vi (tn (ce a 0) (ce a 1).toL (ce a 2) (ce a 3) (ce a 4))
 |759=>cA (0,[.vi (jJ (ce a 14).toL (ce a 10) (ce a 11) (ce a 12)).length,.vi ((ce a 4).toL++(ce a 14).toL.map (lR (ce a 9).toL)).length,.vi (ce a 14).toL.length,.vl (jJ (ce a 14).toL (ce a 10) (ce a 11) (ce a 12)),.vl ((ce a 4).toL++(ce a 14).toL.map (lR (ce a 9).toL))])
 |730=> .vl (eF a)
 |731=>eS X a
 |732=> .vi (dC a)
 |760=>cA (0,[.vi (ib (ce a 8).toL (ce a 14).toL (ce a 10) (ce a 12)),lE (ce a 8).toL (ce a 14).toL (ce a 10) (ce a 12) (ce a 1),.vi (ib (ce a 8).toL (ce a 14).toL (ce a 10) (ce a 12)),.vl (gu (ce a 8).toL (ce a 14).toL (ce a 10) (ce a 12) (ib (ce a 8).toL (ce a 14).toL (ce a 10) (ce a 12)))])
 |739=> .vb ((!decide ((ce a 0).toI=3)||decide ((ce a 1).toL.length<=24))&&Te (ce a 2))
 |733=>eQ X a
 |761=>cA (0,[.vi (ce a 10).toL.length,gq (ce a 1) (ce a 10).toL (ce a 10).toL.length])
 |762=>cA (0,[.vi (ce a 8).toL.length,fI (ce a 1) (ce a 8).toL (ce a 8).toL.length])
 |709=> .vi (fU (ce a 0).toI (ce a 1).toI)
 |712=> .vi (DK (ce a 0).toI (ce a 1).toI (ce a 2).toI (ce a 3).toI)
 |734=> .vb (!(List.range (min (ce a 0).toL.length 100)).any (λi=>pd (cg (ce a 0).toL i))&&decide (((ce a 0).toL.length:Int)<=(ce a 1).toI))
 |765=>cA (gZ (.vb false) (λk=>[.vb false,.vi k]) (λi=>pd (cg (ce a 4).toL i)) (min (ce a 4).toL.length 100))
 |735=> .vb (AZ (ce a 0).toI (ce a 1).toI (ce a 2).toI (ce a 3).toI)
 |736=> .vb (rU (ce a 0).toI (ce a 1).toI (ce a 2).toI (ce a 3).toI)
 |737=> .vi (tD (ce a 0).toI (ce a 1).toI)
 |738=> .vb (ed (ce a 0)&&(ed (ce a 1)&&(ed (ce a 2)&&(ed (ce a 3)&&(ed (ce a 5)&&wX (ce a 4))))))
 |766=>cA (0,[.vb false,.vi (fK X (ce a 10) (ce a 11) (ce a 12) (ce a 13) (ce a 8).toL (ce a 8).toL.length).2.2.length,.vi (fK X (ce a 10) (ce a 11) (ce a 12) (ce a 13) (ce a 8).toL (ce a 8).toL.length).1,.vi (ce a 8).toL.length,(fK X (ce a 10) (ce a 11) (ce a 12) (ce a 13) (ce a 8).toL (ce a 8).toL.length).2.1,.vl (fK X (ce a 10) (ce a 11) (ce a 12) (ce a 13) (ce a 8).toL (ce a 8).toL.length).2.2])
 |767=>cA (0,[ce a 0,.vi (ce a 22).toL.length])
 |768=>cA (0,[ce a 0,.vi (ce a 20).toL.length])
 |769=>cA (0,[ce a 0,.vi (lS (ce a 12).toL (ce a 12).toL.length),.vi (ce a 12).toL.length])
 |770=>cA (0,[.vi (fk (ce a 8).toL ((ce a 8).toL.length-(ce a 11).toI.toNat)).length,.vi (((ce a 8).toL.length:Int)-1-(((ce a 8).toL.length-(ce a 11).toI.toNat:Nat):Int)),.vl (fk (ce a 8).toL ((ce a 8).toL.length-(ce a 11).toI.toNat))])
 |771=>if a.length=12 then cA (qX X (ce a 4) (ce a 5) (ce a 6) (ce a 7) (ce a 10).toL)else X 771 a
 |751=>cA (0,[.vi (ce a 5).toL.length,.vi (js (ce a 5).toL).1,.vi (js (ce a 5).toL).2])
 |_=>X i a
section
variable{X:Nat->List Val->Val}{I:Opq}(hf: ∀i a,I.f i a=FT X i a)
include hf
theorem t_numSum(hn:(I.w 0).toL.length<=1000000):Z0 T_numSum I=some (0,[FT X 702 [I.w 0],FT X 703 [I.w 0]]):=by
 have e0:bZ I yb=cA (0,[.vi (I.w 0).toL.length,.vi (js (I.w 0).toL).1,.vi (js (I.w 0).toL).2]):=by
  show I.f 751 [.vi 0,.vi 0,.vi 0,.vi 0,.vi (I.w 0).toL.length,I.w 0,.vi (I.w 0).toL.length]=_;rw[hf];rfl
 unfold T_numSum;refine Z5 (r:=(0,[.vi (I.w 0).toL.length,.vi (js (I.w 0).toL).1,.vi (js (I.w 0).toL).2])) ?_ e0 ?_
 .show cO _ [.vi ((0:Nat):Int),.vi 0,.vi 0]=_;refine eE (st:=λk=>[.vi k,.vi (fZ (λk=>ci (cg (I.w 0).toL k) 0) k).1,.vi (fZ (λk=>ci (cg (I.w 0).toL k) 0) k).2]) (n:=(I.w 0).toL.length) (λk hk=> ?_) ?_
  .have p1:(k:Int)<((I.w 0).toL.length:Int):=by omega
   have p2:(0:Int)<=(k:Int):=by omega
   have p3:=eJ hk (by omega);have p4:(co (I.w 0).toL (k:Int) (0:Int)).toI=ci (cg (I.w 0).toL k) 0:=rfl;unfold Sr;simp only[fZ];generalize (fZ (λk=>ci (cg (I.w 0).toL k) 0) k).1=s;generalize (fZ (λk=>ci (cg (I.w 0).toL k) 0) k).2=o;simp[Z0,ck,bZ,dB,cK,cN,p1,p2,p3,p4];grind
  .unfold Sr;simp[Z0,ck,bZ,dB,cK,cN,js]
 .show Z0 (.ite _ _ _) I=_;have e1: ∀k:Int,(co (bZ I yb).toL 1 k)=Z7 (.vl [.vi (I.w 0).toL.length,.vi (js (I.w 0).toL).1,.vi (js (I.w 0).toL).2]) k.toNat:=λk=>by rw[e0];rfl
  by_cases h:(js (I.w 0).toL).2=0
  .refine cE ?_ ?_
   .show(!decide ((co (bZ I yb).toL 1 2).toI=0))=false;rw[e1];show(!decide ((js (I.w 0).toL).2=0))=false;grind
   .show some (0,[co (bZ I yb).toL 1 1,Val.vi 0])=some (0,[Val.vi (pQ (I.w 0).toL),.vi (gC (I.w 0).toL)]);rw[e1,pQ,gC,e8 h,e8 h];rfl
  .refine cG ?_ ?_
   .show(!decide ((co (bZ I yb).toL 1 2).toI=0))=true;rw[e1];show(!decide ((js (I.w 0).toL).2=0))=true;grind
   .show some (0,[Val.vi 0,Val.vi 30])=some (0,[Val.vi (pQ (I.w 0).toL),.vi (gC (I.w 0).toL)]);simp_all[pQ,gC,b9]
omit hf in
theorem t_spanP:Z0 T_spanP I=some (0,[FT X 712 [I.w 0,I.w 1,I.w 2,I.w 3]]):=by
 show Z0 T_spanP I=some (0,[Val.vi (DK (I.w 0).toI (I.w 1).toI (I.w 2).toI (I.w 3).toI)]);unfold T_spanP Jf Lu DK;simp[Z0,ck,bZ,dB,cK,a99,ar0,ak3,a09,decide_eq_true_eq];grind
omit hf in
theorem t_aBlank:Z0 T_aBlank I=some (0,[FT X 736 [I.w 0,I.w 1,I.w 2,I.w 3]]):=rfl
omit hf in
theorem t_pick:Z0 T_pick I=some (0,[FT X 737 [I.w 0,I.w 1]]):=by
 show Z0 T_pick I=some (0,[Val.vi (tD (I.w 0).toI (I.w 1).toI)]);unfold T_pick tD;by_cases h:(I.w 1).toI<=0
 .rw[e8 h];exact cG (c9 h) rfl
 .rw[b9 h];refine cE (i6 h) (W8 ?_ rfl);show(!decide ((I.w 1).toI=0))=true;grind
omit hf in
theorem t_aRight:Z0 T_aRight I=some (0,[FT X 735 [I.w 0,I.w 1,I.w 2,I.w 3]]):=by
 show Z0 T_aRight I=some (0,[Val.vb (AZ (I.w 0).toI (I.w 1).toI (I.w 2).toI (I.w 3).toI)]);unfold T_aRight IT OF AZ rU;generalize ha:(I.w 0).toI=a;generalize hb:(I.w 1).toI=b;generalize hc:(I.w 2).toI=c;generalize hd:(I.w 3).toI=d;simp[Z0,ck,bZ,dB,cK,ha,hb,hc,hd];grind
omit hf in
theorem t_wRight:Z0 T_wRight I=some (0,[FT X 700 [I.w 0,I.w 1,I.w 2,I.w 3]]):=by
 show Z0 T_wRight I=some (0,[Val.vb (cV (I.w 0).toI (I.w 1).toI (I.w 2).toI (I.w 3).toI)]);unfold T_wRight Ui Uq Vb OX Sw Tm UF cV;generalize ha:(I.w 0).toI=a;generalize hb:(I.w 1).toI=b;generalize hc:(I.w 2).toI=c;generalize hd:(I.w 3).toI=d;by_cases k1:a=1
 .by_cases q1:b<1
  .simp[Z0,ck,bZ,dB,cK,ha,hb,hc,hd,k1,q1,K6.2 q1]
  by_cases q2:1048576<b
  .simp[Z0,ck,bZ,dB,cK,ha,hb,hc,hd,k1,q1,q2,K6.2 q2]
  .simp[Z0,ck,bZ,dB,cK,ha,hb,hc,hd,k1,q1,q2,show 1<=b by omega,show b<=1048576 by omega]
 by_cases k2:a=2
 .by_cases q1:b<1
  .simp[Z0,ck,bZ,dB,cK,ha,hb,hc,hd,k1,k2,q1];omega
  by_cases q2:1048576<b
  .simp[Z0,ck,bZ,dB,cK,ha,hb,hc,hd,k1,k2,q1,q2];omega
  by_cases q3:c<1
  .simp[Z0,ck,bZ,dB,cK,ha,hb,hc,hd,k1,k2,q1,q2,q3];omega
  by_cases q4:1048576<c
  .simp[Z0,ck,bZ,dB,cK,ha,hb,hc,hd,k1,k2,q1,q2,q3,q4];omega
  have m1:cn .rem .i64 b c=b % c:=by
   exact S8 (by omega)
  have m2:cn .quo .i64 b c=b/c:=by
   show IntKind.i64.wrap (b.tdiv c)=b/c;have h1:0<=b/c:=T1 (by omega) (by omega);have h2:b/c<=b:=O8 _ (by omega);grind[lu]
  have c0: ¬c=0:=by omega
  have e1:1<=b:=by omega
  have e2:b<=1048576:=by omega
  have e3:1<=c:=by omega
  have e4:c<=1048576:=by omega
  by_cases q5:d=0<;>by_cases q6:b % c=0<;>simp[Z0,ck,bZ,dB,cK,ha,hb,hc,hd,k2,q1,q2,q3,q4,q5,q6,m1,m2,c0,e1,e2,e3,e4]
 .by_cases k3:a=3
  .by_cases q1:d<1
   .simp[Z0,ck,bZ,dB,cK,ha,hb,hc,hd,k1,k2,k3,q1,K6.2 q1]
   by_cases q2:1048576<d
   .simp[Z0,ck,bZ,dB,cK,ha,hb,hc,hd,k1,k2,k3,q1,q2,K6.2 q2]
   .simp[Z0,ck,bZ,dB,cK,ha,hb,hc,hd,k1,k2,k3,q1,q2,show 1<=d by omega,show d<=1048576 by omega]
  simp_all[Z0,ck,bZ,dB,cK]
omit hf in
theorem t_evRight0(h:(I.w 0).toI<1\/2<(I.w 0).toI):Z0 T_evRight0 I=some (0,[FT X 701 [I.w 0,I.w 1,I.w 2,I.w 3]]):=by
 show Z0 T_evRight0 I=some (0,[Val.vi (dH (I.w 0).toI (I.w 1).toS (I.w 2).toI (I.w 3).toI)]);unfold T_evRight0 dH;rw[e8 h];by_cases h1:(I.w 0).toI<1
 .exact cG (c9 h1) rfl
 .exact cE (i6 h1) (cG (c9 (show(2:Int)<(I.w 0).toI by omega)) rfl)
omit hf in
theorem t_evRight1(h:(I.w 0).toI=1):Z0 T_evRight1 I=some (0,[FT X 701 [I.w 0,I.w 1,I.w 2,I.w 3]]):=by
 show Z0 T_evRight1 I=some (0,[Val.vi (dH (I.w 0).toI (I.w 1).toS (I.w 2).toI (I.w 3).toI)]);rw[h];unfold T_evRight1 dH eU;generalize hk:(I.w 1).toS=k;generalize ht:(I.w 2).toI=t;by_cases k0:k=[]
 .simp_all[Z0,ck,bZ,dB,cK]
 .by_cases k1:32<k.length
  .have: ¬((k.length:Int)<=32):=by omega
   simp_all[Z0,ck,bZ,dB,cK]
  .have:(k.length:Int)<=32:=by omega
   by_cases t1:t< -1099511627776<;>by_cases t2:1099511627776<t<;>simp[Z0,ck,bZ,dB,cK,hk,ht,k0,k1,this,t1,t2,K6.2,F8.1]<;>omega
omit hf in
theorem t_evRight2(h:(I.w 0).toI=2):Z0 T_evRight2 I=some (0,[FT X 701 [I.w 0,I.w 1,I.w 2,I.w 3]]):=by
 show Z0 T_evRight2 I=some (0,[Val.vi (dH (I.w 0).toI (I.w 1).toS (I.w 2).toI (I.w 3).toI)]);rw[h];unfold T_evRight2 dH eU;generalize hk:(I.w 1).toS=k;generalize ht:(I.w 2).toI=t;generalize hv:(I.w 3).toI=v;by_cases k0:k=[]<;>by_cases k1:v=0<;>simp[Z0,ck,bZ,dB,cK,hk,ht,hv,k0,k1];grind
theorem t_few:Z0 T_few I=some (0,[FT X 734 [I.w 0,I.w 1]]):=by
 have hF:FT X 734 [I.w 0,I.w 1]= .vb (!(List.range (min (I.w 0).toL.length 100)).any (λi=>pd (cg (I.w 0).toL i))&&decide (((I.w 0).toL.length:Int)<=(I.w 1).toI)):=rfl;have hF2: ∀a b c d:Val,FT X 765 [a,b,c,d,I.w 0,I.w 1]=cA (gZ (.vb false) (λk=>[.vb false,.vi k]) (λi=>pd (cg (I.w 0).toL i)) (min (I.w 0).toL.length 100)):=λ_ _ _ _=>rfl
 have h0:=GP (x:= .vb false) (px:=λk=>[.vb false,.vi k]) (bad:=λi=>pd (cg (I.w 0).toL i)) (n:=min (I.w 0).toL.length 100);have e0:I.f 765 [.vb false,.vi 0,.vi 0,.vi (I.w 0).toL.length,I.w 0,I.w 1]=cA (gZ (.vb false) (λk=>[.vb false,.vi k]) (λi=>pd (cg (I.w 0).toL i)) (min (I.w 0).toL.length 100)):=by grind
 rw[hF];refine Z5 (r:=gZ (.vb false) (λk=>[.vb false,.vi k]) (λi=>pd (cg (I.w 0).toL i)) (min (I.w 0).toL.length 100)) ?_ e0 ?_
 .refine xu (λi hi hb=> ?_) (λi hi hb=> ?_) ?_
  .have p1:(i:Int)<((I.w 0).toL.length:Int):=by omega
   have p0:(i:Int)<100:=by omega
   have p3:=eJ (n:=100) (i:=i) (by omega) (by omega);have p4:(co (I.w 0).toL (i:Int) (1:Int)).toS=(Z7 (cg (I.w 0).toL i) 1).toS:=rfl;have p5: ¬(50:Int)<((Z7 (cg (I.w 0).toL i) 1).toS.length:Int):=by
    have:=of_decide_eq_false hb;omega
   simp_all[Nc,Z0,ck,bZ,dB,cK,cN]
  .have p1:(i:Int)<((I.w 0).toL.length:Int):=by omega
   have p0:(i:Int)<100:=by omega
   have p4:(co (I.w 0).toL (i:Int) (1:Int)).toS=(Z7 (cg (I.w 0).toL i) 1).toS:=rfl;have p5:(50:Int)<((Z7 (cg (I.w 0).toL i) 1).toS.length:Int):=by
    have:=j5 hb;omega
   simp_all[Nc,Z0,ck,bZ,dB,cK,cN]
  .unfold Nc;rcases j9 (I.w 0).toL.length 100 with q|q
   .rw[B1 (by omega)];simp[Z0,ck,bZ,dB,cK,cN]
   simp_all[K7,Z0,ck,bZ,dB,cK,cN]
 .rw[h0]at e0;rw[h0];cases hb:(List.range (min (I.w 0).toL.length 100)).any (λi=>pd (cg (I.w 0).toL i))with
  |true=>
   rw[hb]at e0;show some (0,[co (I.f 765 [.vb false,.vi 0,.vi 0,.vi (I.w 0).toL.length,I.w 0,I.w 1]).toL 1 0])=_;rw[e0];rfl
  |false=>rfl
omit hf in
theorem t_down(h1:1<=(I.w 1).toI)(h2:(I.w 1).toI<=1048576)(h3: -1099511627776<=(I.w 0).toI)(h4:(I.w 0).toI<=1099511627776):Z0 T_down I=some (0,[FT X 709 [I.w 0,I.w 1],.vi 0]):=by
 show Z0 T_down I=some (0,[Val.vi (fU (I.w 0).toI (I.w 1).toI),Val.vi 0]);unfold T_down MI Ko TC If Ih fU;generalize ha:(I.w 0).toI=n at h3 h4;generalize hb:(I.w 1).toI=d at h1 h2;have q0:=I9 n (show d≠0 by omega);have q1:=J0 n (show 0<d by omega);have d0: ¬d<=0:=by omega
 have d1: ¬d=0:=by omega
 have hr:(cn .rem .i64 n d<0/\cn .add .i64 (cn .rem .i64 n d) d=n % d)\/(0<=cn .rem .i64 n d/\cn .rem .i64 n d=n % d):=by
  show(n.tmod d<0/\IntKind.i64.wrap (n.tmod d+d)=n % d)\/(0<=n.tmod d/\n.tmod d=n % d);have t1:n.tmod d=n-d*n.tdiv d:=Int.tmod_def n d;have t2:=O9 n d;by_cases hn:0<=n
  .grind
  .have t3:n.tmod d= -((-n) % d):=by
    rw[show n= -(-n) by omega,Int.neg_tmod,S8 (by omega)];simp
   have t4:(-n) % d=if n % d=0 then 0 else d-n % d:=by
    grind[Int.neg_emod,Int.dvd_iff_emod_eq_zero]
   by_cases z:n % d=0
   .omega
   .left;rw[t3,t4,b9 z];grind[lu]
 have hs:cn .sub .i64 n (n % d)=n-n % d:=kN (by omega) (by omega);rcases hr with⟨r1,r2⟩|⟨r1,r2⟩
 .by_cases z:0<=n
  .simp_all[Z0,ck,bZ,dB,cK]
  .have: ¬0<=n-n % d:=by omega
   simp[Z0,ck,bZ,dB,cK,ha,hb,d0,d1,r1,r2,hs,q0,z,this];omega
 .have r3: ¬cn .rem .i64 n d<0:=by omega
  rw[r2]at r3;by_cases z:0<=n
  .simp[Z0,ck,bZ,dB,cK,ha,hb,d0,d1,r2,r3,hs,q0,z]
  .have: ¬0<=n-n % d:=by omega
   simp[Z0,ck,bZ,dB,cK,ha,hb,d0,d1,r2,r3,hs,q0,z,this];omega
end
end Go.Ev.S9
