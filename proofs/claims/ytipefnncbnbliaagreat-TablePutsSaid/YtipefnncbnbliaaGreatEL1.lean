import Derived.Test.YtipefnncbnbliaaGreatE1
import Derived.Test.YtipefnncbnbliaaGreatEM1
set_option linter.unusedSimpArgs false
set_option linter.unusedVariables false
namespace Go.Ev.S9
open Go Go.Ev
def Pi:SX:= ze aM 1
def OK:SX:= zs aO aZ
def Sf:SX:= zt aO 1048576
def Uf:SX:= cC aO aO
def Qc:SX:= ze aT 0
def PK:SX:= ze aU 0
def Sy:SX:= ze aM 3
def T_wRight:VT:= .ite (Pi) (.ite (OK) (.ret 0 [.cb false]) (.ite (Sf) (.ret 0 [.cb false]) (.ret 0 [zn Pi (zn Uf (zn Qc PK))]))) (.ite (ze aM 2) (.ite (OK) (.ret 0 [.cb false]) (.ite (Sf) (.ret 0 [.cb false]) (.ite (zs aT aZ) (.ret 0 [.cb false]) (.ite (zt aT 1048576) (.ret 0 [.cb false]) (.ite (zn Uf (zn (cC aT aT) PK)) (.need (dv aT aN) (.ite (ze (.op (.ar .rem .i64) [aO,aT]) 0) (.ret 0 [zb (.op (.ar .quo .i64) [aO,aT]) 16]) (.ret 0 [.cb false]))) (.ret 0 [.cb false])))))) (.ite (Sy) (.ite (zs aU aZ) (.ret 0 [.cb false]) (.ite (zt aU 1048576) (.ret 0 [.cb false]) (.ret 0 [zn Sy (zn (ze aO 0) (zn Qc (cC aU aU)))]))) (.ret 0 [.cb false])))
def T_evRight0:VT:= .ite (zs aM aZ) (.ret 0 [.ci 80]) (.ite (zt aM 2) (.ret 0 [.ci 80]) (.bad))
def T_evRight1:VT:= .ite (.op (.scmp .neq) [aO,.cs []]) (.ite (dJ (zb (.op .slen [aO]) 32)) (.ret 0 [bI]) (.ite (zs aT (.ci (-1099511627776))) (.ret 0 [bF]) (.ite (zt aT 1099511627776) (.ret 0 [bF]) (.ret 0 [aN])))) (.ret 0 [bI])
def T_evRight2:VT:= .ite (dJ (zn (ze bn 2) (zn (.op (.scmp .eql) [aO,.cs []]) (zn (cC aT aT) (ze aU 0))))) (.ret 0 [bI]) (.ite (zs aT (.ci (-1099511627776))) (.ret 0 [bF]) (.ite (zt aT 1099511627776) (.ret 0 [bF]) (.ret 0 [aN])))
def yJ:SX:= .app 751 [aN,aN,aN,aN,zl 0,aM,zl 0]
def TL:VT:= .ite (zs aV (zl 0)) (.need (zp aV) (.ite (gM aR aN) (.ite (gM (zg 0 2000 0) aN) (.ite (zs (za aR (zg 0 2000 0)) aN) (.ret 0 [zi aV,za aR (zg 0 2000 0),zi aW]) (.ret 0 [zi aV,za aR (zg 0 2000 0),aW])) (.ret 0 [zi aV,za aR (zg 0 2000 0),aW])) (.ite (zs (zg 0 2000 0) aN) (.ite (gM (za aR (zg 0 2000 0)) aN) (.ret 0 [zi aV,za aR (zg 0 2000 0),zm aW aZ]) (.ret 0 [zi aV,za aR (zg 0 2000 0),aW])) (.ret 0 [zi aV,za aR (zg 0 2000 0),aW])))) (.ret 1 [aV,aR,aW])
def T_numSum:VT:= .loop ⟨751,[aN,aN,aN],2000,[aN,zl 0,aM,zl 0]⟩ TL [.ite (dv (zo yJ 2) aN) (.ret 0 [aN,bL]) (.ret 0 [zo yJ 1,aN])]
def GV:SX:= .op (.ar .rem .i64) [aM,aO]
def Hy:SX:= gM aM aN
def Uc:SX:= za GV aO
def Iq:SX:= zm aM Uc
def Js:SX:= zm aM GV
def T_down:VT:= .ite (zb aO 0) (.ret 0 [aN,bn]) (.need (dv aO aN) (.ite (zs GV aN) (.ite (dJ (.op .beq [Hy,gM Uc aN])) (.ite (dJ (.op .beq [gM Iq aN,Hy])) (.ret 0 [aN,bL]) (.ret 0 [Iq,aN])) (.ret 0 [Iq,aN])) (.ite (dJ (.op .beq [Hy,gM GV aN])) (.ite (dJ (.op .beq [gM Js aN,Hy])) (.ret 0 [aN,bL]) (.ret 0 [Js,aN])) (.ret 0 [Js,aN]))))
def BD:VT:= .ite (zs aR (zl 1)) (.need (zp aR) (.ite (dJ (.op .beq [gM (zg 1 2001 1) aN,gM (zg 1 2001 0) aN])) (.ite (dJ (.op .beq [gM (zm (zg 1 2001 1) (zg 1 2001 0)) aN,gM (zg 1 2001 1) aN])) (.ite (gM (zg 1 2001 0) (zg 1 2001 1)) (.ret 2 [.cb false,aR]) (.ite (zt aR 0) (.need (zn (zp (zm aR aZ)) (zs (zm aR aZ) (zl 1))) (.ite (fm (bX aO (zm aR aZ) 1) (zg 1 2001 0)) (.ret 2 [.cb false,aR]) (.ret 0 [aV,zi aR]))) (.ret 0 [aV,zi aR]))) (.ite (gM (zg 1 2001 0) (zg 1 2001 1)) (.ret 2 [.cb false,aR]) (.ite (zs (zm (zg 1 2001 1) (zg 1 2001 0)) aM) (.ret 2 [.cb false,aR]) (.ite (zt aR 0) (.need (zn (zp (zm aR aZ)) (zs (zm aR aZ) (zl 1))) (.ite (fm (bX aO (zm aR aZ) 1) (zg 1 2001 0)) (.ret 2 [.cb false,aR]) (.ret 0 [aV,zi aR]))) (.ret 0 [aV,zi aR]))))) (.ite (gM (zg 1 2001 0) (zg 1 2001 1)) (.ret 2 [.cb false,aR]) (.ite (zs (zm (zg 1 2001 1) (zg 1 2001 0)) aM) (.ret 2 [.cb false,aR]) (.ite (zt aR 0) (.need (zn (zp (zm aR aZ)) (zs (zm aR aZ) (zl 1))) (.ite (fm (bX aO (zm aR aZ) 1) (zg 1 2001 0)) (.ret 2 [.cb false,aR]) (.ret 0 [aV,zi aR]))) (.ret 0 [aV,zi aR])))))) (.ret 1 [aV,aR])
def T_sRight:VT:= .loop ⟨754,[.cb false,aN],2000,[aM,aN,zl 1,aO,aN,zl 1,aO,zl 1]⟩ BD [.ret 0 [.cb true],.ret 0 [zo (.app 754 [.cb false,aN,aM,aN,zl 1,aO,aN,zl 1,aO,zl 1]) 0]]
def Mx:SX:= zs aM aT
def Ja:SX:= fm aM aT
def T_spanP:VT:= .ite (zs aO aU) (.ite (Mx) (.ret 0 [.ci (-1)]) (.ite (Ja) (.ret 0 [.ci (-1)]) (.ret 0 [.ci (-1)]))) (.ite (fm aO aU) (.ite (Mx) (.ret 0 [aZ]) (.ite (Ja) (.ret 0 [aZ]) (.ret 0 [aZ]))) (.ite (Mx) (.ret 0 [.ci (-1)]) (.ite (Ja) (.ret 0 [aZ]) (.ret 0 [aN]))))
def Gj:SX:= za (zm (.app 709 [aS,aT]) aO) aT
def CY:SX:= .app 753 [zL ck,Gj,ck,aM,aO,aT,aU,.app 709 [aS,aT]]
def Fc:SX:= zo CY 2
def Dr:SX:= za (zm (.app 709 [aS,aO]) aO) aO
def EC:SX:= .app 753 [zL ck,Dr,ck,aM,aO,aT,aU,.app 709 [aS,aO]]
def Ej:SX:= zo EC 2
def Pl:VT:= .ite (fJ aR (.app 709 [aS,aT])) (.need (zn (cC aV (zl 2002)) (zb (zL (zc aW (.op .row [.op .row [aR,za aR aO]]))) 1000000)) (.ite (ze aM 2) (.ret 0 [zL (zc aW (.op .row [.op .row [aR,za aR aO]])),za aR aT,zc aW (.op .row [.op .row [aR,za aR aO]])]) (.ret 0 [zL (zc aW (.op .row [.op .row [aR,za aR aO]])),za aR aO,zc aW (.op .row [.op .row [aR,za aR aO]])]))) (.ret 1 [aV,aR,aW])
def TJ:VT:= .ite (fJ aR (.app 709 [aS,aO])) (.need (zn (cC aV (zl 2002)) (zb (zL (zc aW (.op .row [.op .row [aR,za aR aO]]))) 1000000)) (.ite (ze aM 2) (.ret 0 [zL (zc aW (.op .row [.op .row [aR,za aR aO]])),za aR aT,zc aW (.op .row [.op .row [aR,za aR aO]])]) (.ret 0 [zL (zc aW (.op .row [.op .row [aR,za aR aO]])),za aR aO,zc aW (.op .row [.op .row [aR,za aR aO]])]))) (.ret 1 [aV,aR,aW])
def T_wOf:VT:= .ite (dJ (.app 700 [aM,aO,aT,aU])) (.ret 0 [ck]) (.ite (gM aS (.ci (-1099511627776))) (.ite (dJ (zb aS 1099511627776)) (.ret 0 [ck]) (.ite (ze aM 3) (.ret 0 [.op .row [.op .row [aS,za aS aU]]]) (.ite (ze aM 2) (.need (zn (fJ aZ aT) (zb aT 1048576)) (.loop ⟨753,[zL ck,Gj,ck],2000,[aM,aO,aT,aU,.app 709 [aS,aT]]⟩ Pl [.need (cC (zo CY 0) (zL Fc)) (.ret 0 [Fc])])) (.need (zn (fJ aZ aO) (zb aO 1048576)) (.loop ⟨753,[zL ck,Dr,ck],2000,[aM,aO,aT,aU,.app 709 [aS,aO]]⟩ TJ [.need (cC (zo EC 0) (zL Ej)) (.ret 0 [Ej])]))))) (.ret 0 [ck]))
def jX:SX:= .app 752 [zL ck,zL ck,aN,aN,aN,aN,aN,ck,ck,aN,zl 0,aM,zl 0]
def HD:SX:= zo jX 0
def GT:SX:= zo jX 7
def qE:SX:= .op .lsub [GT,aN,HD]
def CR:SX:= zo jX 1
def Ey:SX:= zo jX 8
def rV:SX:= .op .lsub [Ey,aN,CR]
def Kr:VT:= .ite (zs aW (zl 0)) (.need (zp aW) (.ite (zn (ze (zg 0 2002 0) 0) (zn (ze (zg 0 2002 1) 0) (zn (ze (zg 0 2002 2) 0) (ze (zg 0 2002 3) 0)))) (.ret 0 [aV,aR,zi aW,bj,bp,bq,bv,bA,bw]) (.need (zp aR) (.ite (ze aR 0) (.need (zn (cC aV (zl 2007)) (zb (zL (zc bA (.op .row [.op .row [zg 0 2002 0]]))) 1000000)) (.need (zn (cC aR (zl 2008)) (zb (zL (zc bw (.op .row [.op .row [zg 0 2002 1]]))) 1000000)) (.ret 0 [zL (zc bA (.op .row [.op .row [zg 0 2002 0]])),zL (zc bw (.op .row [.op .row [zg 0 2002 1]])),zi aW,zg 0 2002 0,zg 0 2002 1,.op .imin [zg 0 2002 2,zg 0 2002 2],.op .imax [zg 0 2002 3,zg 0 2002 3],zc bA (.op .row [.op .row [zg 0 2002 0]]),zc bw (.op .row [.op .row [zg 0 2002 1]])]))) (.need (zn (cC aV (zl 2007)) (zb (zL (zc bA (.op .row [.op .row [zg 0 2002 0]]))) 1000000)) (.need (zn (cC aR (zl 2008)) (zb (zL (zc bw (.op .row [.op .row [zg 0 2002 1]]))) 1000000)) (.ret 0 [zL (zc bA (.op .row [.op .row [zg 0 2002 0]])),zL (zc bw (.op .row [.op .row [zg 0 2002 1]])),zi aW,bj,bp,.op .imin [bq,zg 0 2002 2],.op .imax [bv,zg 0 2002 3],zc bA (.op .row [.op .row [zg 0 2002 0]]),zc bw (.op .row [.op .row [zg 0 2002 1]])]))))))) (.ret 1 [aV,aR,aW,bj,bp,bq,bv,bA,bw])
def T_join:VT:= .loop ⟨752,[zL ck,zL ck,aN,aN,aN,aN,aN,ck,ck],2000,[aN,zl 0,aM,zl 0]⟩ Kr [.need (zn (zn (zp HD) (fJ HD (zL GT))) (zb (zL qE) 1000000)) (.need (zn (zn (zp CR) (fJ CR (zL Ey))) (zb (zL rV) 1000000)) (.ite (dv (.app 703 [qE]) aN) (.ret 0 [aN,aN,aN,aN,bL]) (.ite (dv (.app 703 [rV]) aN) (.ret 0 [aN,aN,aN,aN,bL]) (.ret 0 [.app 702 [qE],.app 702 [rV],zo jX 5,zo jX 6,aN]))))]
def nk:SX:= za aO aM
def ju:SX:= .app 755 [zL ck,zL ck,aN,aO,nk,ck,ck,aO,nk,aO,nk,aN,zl 2,aT,zl 2]
def gd:SX:= zo ju 1
def ir:SX:= zo ju 6
def gi:SX:= zo ju 3
def mu:SX:= zo ju 4
def oi:SX:= zo (.app 756 [aN,gd,gd,ir,gi,mu,gd]) 0
def Jt:SX:= bX ir oi 0
def Cy:SX:= .app 713 [ir,gd,oi,gi,mu]
def tT:SX:= zo ju 5
def AB:SX:= cC (zo ju 0) (zL tT)
def yZ:SX:= .app 714 [ir,gd,oi,gi,mu]
def HH:VT:= .ite (zs aW (zl 2)) (.need (zp aW) (.ite (zs (zg 2 2002 0) (za aO aM)) (.ite (dJ (zs aO (zg 2 2002 1))) (.need (zn (cC aR (zl 2006)) (zb (zL (zc bv (.op .row [.op .row [zg 2 2002 0,zg 2 2002 1]]))) 1000000)) (.ret 0 [aV,zL (zc bv (.op .row [.op .row [zg 2 2002 0,zg 2 2002 1]])),zi aW,bj,bp,bq,zc bv (.op .row [.op .row [zg 2 2002 0,zg 2 2002 1]])])) (.need (zn (cC aV (zl 2005)) (zb (zL (zc bq (.op .row [.op .row [zg 2 2002 0,zg 2 2002 1]]))) 1000000)) (.ret 0 [zL (zc bq (.op .row [.op .row [zg 2 2002 0,zg 2 2002 1]])),aR,zi aW,.op .imin [bj,zg 2 2002 0],.op .imax [bp,zg 2 2002 1],zc bq (.op .row [.op .row [zg 2 2002 0,zg 2 2002 1]]),bv]))) (.need (zn (cC aR (zl 2006)) (zb (zL (zc bv (.op .row [.op .row [zg 2 2002 0,zg 2 2002 1]]))) 1000000)) (.ret 0 [aV,zL (zc bv (.op .row [.op .row [zg 2 2002 0,zg 2 2002 1]])),zi aW,bj,bp,bq,zc bv (.op .row [.op .row [zg 2 2002 0,zg 2 2002 1]])])))) (.ret 1 [aV,aR,aW,bj,bp,bq,bv])
def Ud:VT:= .ite (zs aV aR) (.need (zn (zp (zh aV aR)) (zs (zh aV aR) (zo (.app 755 [zL ck,zL ck,aN,aO,za aO aM,ck,ck,aO,za aO aM,aO,za aO aM,aN,zl 2,aT,zl 2]) 1))) (.need (zs (zh aV aR) (zL (zo (.app 755 [zL ck,zL ck,aN,aO,za aO aM,ck,ck,aO,za aO aM,aO,za aO aM,aN,zl 2,aT,zl 2]) 6))) (.ite (zs (bX (zo (.app 755 [zL ck,zL ck,aN,aO,za aO aM,ck,ck,aO,za aO aM,aO,za aO aM,aN,zl 2,aT,zl 2]) 6) (zh aV aR) 0) (zo (.app 755 [zL ck,zL ck,aN,aO,za aO aM,ck,ck,aO,za aO aM,aO,za aO aM,aN,zl 2,aT,zl 2]) 3)) (.ret 0 [zi (zh aV aR),aR]) (.ite (fm (bX (zo (.app 755 [zL ck,zL ck,aN,aO,za aO aM,ck,ck,aO,za aO aM,aO,za aO aM,aN,zl 2,aT,zl 2]) 6) (zh aV aR) 0) (zo (.app 755 [zL ck,zL ck,aN,aO,za aO aM,ck,ck,aO,za aO aM,aO,za aO aM,aN,zl 2,aT,zl 2]) 3)) (.ret 0 [aV,zh aV aR]) (.ret 0 [aV,zh aV aR]))))) (.ret 1 [aV,aR])
def T_sinsert:VT:= .ite (cC aM (.op .imax [aZ,.op .imin [aM,bS]])) (.ite (dv aO (.op .imax [.ci (-1099511627776),.op .imin [aO,bT]])) (.ret 0 [aN,aN,bn,ck,ck]) (.need (zb (zl 2) 400) (.ite (dJ (.app 711 [aM,aT])) (.ret 0 [aN,aN,bn,ck,ck]) (.loop ⟨755,[zL ck,zL ck,aN,aO,nk,ck,ck],2000,[aO,nk,aO,nk,aN,zl 2,aT,zl 2]⟩ HH [.need (zp gd) (.loop ⟨756,[aN,gd],2000,[gd,ir,gi,mu,gd]⟩ Ud [.ite (zs oi gd) (.need (zp oi) (.need (zs oi (zL ir)) (.ite (zs Jt gi) (.need (Cy) (.need (AB) (.ret 0 [gi,mu,aN,tT,yZ]))) (.ite (fm Jt gi) (.need (Cy) (.need (AB) (.ret 0 [gi,mu,aN,tT,yZ]))) (.need (Cy) (.need (AB) (.ret 0 [gi,mu,aN,tT,yZ]))))))) (.need (Cy) (.need (AB) (.ret 0 [gi,mu,aN,tT,yZ])))])])))) (.ret 0 [aN,aN,bn,ck,ck])
def ko:SX:= .op .row [.op .row [aM,aO,aT,aU],.op .row [aZ,aS,aS,aS]]
def T_aput:VT:= .need (zb (zL ko) 1000) (.ite (dv (.app 706 [ko]) aN) (.ret 0 [aM,aO,aT,aU,.app 706 [ko]]) (.ret 0 [bX (.app 705 [ko]) aN 0,bX (.app 705 [ko]) aN 1,bX (.app 705 [ko]) aN 2,bX (.app 705 [ko]) aN 3,aN]))
def Ar:SX:= .app 750 [zL ck,ck,aS]
def pJ:SX:= zo Ar 1
def Uq:VT:= .need (zn (cC aV (zl 2001)) (zb (zL (zc aR (.op .row [zv 4 2002]))) 1000000)) (.ret 0 [zL (zc aR (.op .row [zv 4 2002])),zc aR (.op .row [zv 4 2002])])
def T_trows:VT:= .mloop ⟨750,[zL ck,ck],2000,[aS]⟩ aS Uq [.need (zn (cC (zo Ar 0) (zL pJ)) (zn (zn (zb (zL pJ) 400) (.app 431 [pJ])) (.app 491 [pJ]))) (.ret 0 [.app 490 [pJ]])]
def rH:SX:= .op (.mfind [.str,.int .i64,.int .i64]) [aS,.op .row [be,bd,bf]]
def nF:SX:= zs rH (zl 4)
def T_tget:VT:= .ret 0 [.op .ite [nF,bX aS rH 3,aN],.op .ite [nF,bX aS rH 4,aN],.op .ite [nF,bX aS rH 5,aN],.op .ite [nF,bX aS rH 6,aN],nF]
def EU:SX:= .app 757 [zL ck,ck,be,aS]
def Ep:SX:= zo EU 0
def oE:SX:= zo EU 1
def QR:VT:= .ite (.op (.scmp .eql) [zg 4 2002 0,be]) (.need (zn (cC aV (zl 2001)) (zb (zL (zc aR (.op .row [.op .row [zg 4 2002 1,zg 4 2002 2]]))) 1000000)) (.ret 0 [zL (zc aR (.op .row [.op .row [zg 4 2002 1,zg 4 2002 2]])),zc aR (.op .row [.op .row [zg 4 2002 1,zg 4 2002 2]])])) (.ret 0 [aV,aR])
def T_tsess:VT:= .mloop ⟨757,[zL ck,ck],2000,[be,aS]⟩ aS QR [.need (zn (cC Ep (zL oE)) (zn (zb (zL oE) 1000000) (.app 716 [oE]))) (.need (cC Ep (zL (.app 715 [oE]))) (.ret 0 [.app 715 [oE]]))]
def Hl:SX:= .app 718 [aU,bf,.app 723 [aS,bd]]
def Ax:SX:= bX Hl aN 0
def BS:SX:= bX Hl aN 1
def jU:SX:= .app 717 [aU,bf,.app 723 [aS,bd]]
def Hq:SX:= .app 758 [zL ck,aN,ck,be,bd,bf,bh,Ax,BS,zL jU,jU,zL jU]
def FO:SX:= zo Hq 2
def Xw:VT:= .ite (zs aR (zL (.app 717 [aU,bf,.app 723 [aS,bd]]))) (.need (zp aR) (.need (zn (cC aV (zl 2002)) (zb (zL (zc aW (.op .row [.op .row [bd,bX (.app 717 [aU,bf,.app 723 [aS,bd]]) aR 0,bX (.app 717 [aU,bf,.app 723 [aS,bd]]) aR 1]]))) 1000000)) (.ret 0 [zL (zc aW (.op .row [.op .row [bd,bX (.app 717 [aU,bf,.app 723 [aS,bd]]) aR 0,bX (.app 717 [aU,bf,.app 723 [aS,bd]]) aR 1]])),zi aR,zc aW (.op .row [.op .row [bd,bX (.app 717 [aU,bf,.app 723 [aS,bd]]) aR 0,bX (.app 717 [aU,bf,.app 723 [aS,bd]]) aR 1]])]))) (.ret 1 [aV,aR,aW])
def T_joined:VT:= .need (zn (zb (zl 4) 400) (.app 491 [aS])) (.need (zb (zL (.app 723 [aS,bd])) 24) (.loop ⟨758,[zL ck,aN,ck],2000,[be,bd,bf,bh,Ax,BS,zL jU,jU,zL jU]⟩ Xw [.need (cC (zo Hq 0) (zL FO)) (.ret 0 [bd,Ax,BS,FO])]))
def zU:SX:= .op .row [.op .row [aZ,bh,bh,bh]]
def qT:SX:= .app 725 [aU,aS,bd,bf]
def sw:SX:= bX qT aN 0
def se:SX:= bX qT aN 1
def sa:SX:= bX qT aN 2
def fS:SX:= .app 724 [aU,aS,bd,bf]
def sH:SX:= .app 759 [zL ck,zL zU,aN,ck,zU,aM,aO,aT,aU,aS,sw,se,sa,zL fS,fS,zL fS]
def DF:SX:= zo sH 1
def JX:SX:= zo sH 4
def kr:SX:= .op .lsub [JX,aN,DF]
def MZ:SX:= zo sH 3
def wn:SX:= .op .row [bX fS aW 0,bX fS aW 1,bX fS aW 2]
def nZ(j:Int):SX:= .op .ite [zs (.op (.mfind [.str,.int .i64,.int .i64]) [aS,wn]) (zl 4),.op .lget [aS,.op (.mfind [.str,.int .i64,.int .i64]) [aS,wn],.ci j],aN]
def sL:SX:= zc bp (.op .row [.op .row [nZ 3,nZ 4,nZ 5,nZ 6]])
def BB:SX:= zc bj (.op .row [wn])
def WH:SX:= zn (.op (.scmp .eql) [bX fS aW 0,sw]) (zn (cC (bX fS aW 1) se) (cC (bX fS aW 2) sa))
def e57:VT:= .ite (zs aW (zL fS)) (.need (zp aW) (.need (zn (cC aR (zl 2004)) (zb (zL sL) 1000000)) (.ite (dJ WH) (.need (zn (cC aV (zl 2003)) (zb (zL BB) 1000000)) (.ret 0 [zL BB,zL sL,zi aW,BB,sL])) (.ret 0 [aV,zL sL,zi aW,bj,sL])))) (.ret 1 [aV,aR,aW,bj,bp])
def T_sess:VT:= .need (zn (zb (zl 4) 24) (.app 491 [aS])) (.loop ⟨759,[zL ck,zL zU,aN,ck,zU],2000,[aM,aO,aT,aU,aS,sw,se,sa,zL fS,fS,zL fS]⟩ e57 [.need (zn (zn (zp DF) (fJ DF (zL JX))) (zb (zL kr) 1000)) (.ite (dv (.app 706 [kr]) aN) (.ret 0 [.app 706 [kr],ck,ck]) (.need (cC (zo sH 0) (zL MZ)) (.ret 0 [aN,MZ,.op .row [.op .row [sw,se,sa,bX (.app 705 [kr]) aN 0,bX (.app 705 [kr]) aN 1,bX (.app 705 [kr]) aN 2,bX (.app 705 [kr]) aN 3]]])))])
def rY:SX:= .app 701 [be,bd,bf,bh]
def gF:SX:= .app 704 [aM,aO,aT,aU,bf]
def yM:SX:= .app 760 [zL ck,rY,aN,ck,aM,aO,aT,aU,aS,be,bd,bf,bh,zL gF,gF,zL gF]
def FU:SX:= zo yM 1
def Ed:SX:= zo yM 0
def Nc:SX:= zo yM 3
def Ap:SX:= .op .lsub [Nc,aN,Ed]
def EA:SX:= .op .row [bd,bX gF aW 0,bX gF aW 1]
def iQ(j:Int):SX:= .op .ite [zs (.op (.mfind [.str,.int .i64,.int .i64]) [aS,EA]) (zl 4),.op .lget [aS,.op (.mfind [.str,.int .i64,.int .i64]) [aS,EA],.ci j],aN]
def wL:SX:= .app 708 [iQ 3,iQ 4,iQ 5,iQ 6,bh]
def sZ:SX:= .app 707 [iQ 3,iQ 4,iQ 5,iQ 6,bh]
def Bs:SX:= zc bj (.op .row [.op .row [bd,bX gF aW 0,bX gF aW 1,bX sZ aN 0,bX sZ aN 1,bX sZ aN 2,bX sZ aN 3]])
def Kg:VT:= .ite (zs aW (zL gF)) (.need (zp aW) (.ite (dv wL aN) (.ret 1 [aV,wL,aW,bj]) (.need (zn (cC aV (zl 2003)) (zb (zL Bs) 1000000)) (.ret 0 [zL Bs,wL,zi aW,Bs])))) (.ret 1 [aV,aR,aW,bj])
def T_tryE:VT:= .ite (dv rY aN) (.ret 0 [rY,ck,ck]) (.ite (dv be aZ) (.ret 0 [bn,ck,ck]) (.ite (ze aM 3) (.need (zn (zb (zl 4) 24) (.app 491 [aS])) (.ret 0 [.app 729 [aU,aS,bd,bf,bh],.app 727 [aU,aS,bd,bf,bh],.app 728 [aU,aS,bd,bf,bh]])) (.loop ⟨760,[zL ck,rY,aN,ck],2000,[aM,aO,aT,aU,aS,be,bd,bf,bh,zL gF,gF,zL gF]⟩ Kg [.ite (dv FU aN) (.ret 0 [FU,ck,ck]) (.need (zn (zn (zp Ed) (fJ Ed (zL Nc))) (zn (zb (zL Ap) 400) (.app 431 [Ap]))) (.ret 0 [aN,ck,.app 490 [Ap]]))])))
def Fv:SX:= .app 732 [aM,aO,aT,aU,aS,be,bd,bf,bh]
def dU:SX:= .app 731 [aM,aO,aT,aU,aS,be,bd,bf,bh]
def gV:SX:= .app 730 [aM,aO,aT,aU,aS,be,bd,bf,bh]
def sf:SX:= zo (.app 761 [aN,aS,aM,aO,aT,aU,aS,zL dU,dU,zL gV,gV,zL gV]) 1
def QB:VT:= .ite (zs aV (zL (.app 730 [aM,aO,aT,aU,aS,be,bd,bf,bh]))) (.need (zp aV) (.ret 0 [zi aV,.op (.mdel [.str,.int .i64,.int .i64]) [aR,.op .row [bX (.app 730 [aM,aO,aT,aU,aS,be,bd,bf,bh]) aV 0,bX (.app 730 [aM,aO,aT,aU,aS,be,bd,bf,bh]) aV 1,bX (.app 730 [aM,aO,aT,aU,aS,be,bd,bf,bh]) aV 2]]])) (.ret 1 [aV,aR])
def RD:VT:= .ite (zs aV (zL (.app 731 [aM,aO,aT,aU,aS,be,bd,bf,bh]))) (.need (zp aV) (.ret 0 [zi aV,.op .ite [zs (.op (.mfind [.str,.int .i64,.int .i64]) [aR,.op .row [bX (.app 731 [aM,aO,aT,aU,aS,be,bd,bf,bh]) aV 0,bX (.app 731 [aM,aO,aT,aU,aS,be,bd,bf,bh]) aV 1,bX (.app 731 [aM,aO,aT,aU,aS,be,bd,bf,bh]) aV 2]]) (zl 2001),.op .lset [aR,.op (.mfind [.str,.int .i64,.int .i64]) [aR,.op .row [bX (.app 731 [aM,aO,aT,aU,aS,be,bd,bf,bh]) aV 0,bX (.app 731 [aM,aO,aT,aU,aS,be,bd,bf,bh]) aV 1,bX (.app 731 [aM,aO,aT,aU,aS,be,bd,bf,bh]) aV 2]],.op .row [bX (.app 731 [aM,aO,aT,aU,aS,be,bd,bf,bh]) aV 0,bX (.app 731 [aM,aO,aT,aU,aS,be,bd,bf,bh]) aV 1,bX (.app 731 [aM,aO,aT,aU,aS,be,bd,bf,bh]) aV 2,bX (.app 731 [aM,aO,aT,aU,aS,be,bd,bf,bh]) aV 3,bX (.app 731 [aM,aO,aT,aU,aS,be,bd,bf,bh]) aV 4,bX (.app 731 [aM,aO,aT,aU,aS,be,bd,bf,bh]) aV 5,bX (.app 731 [aM,aO,aT,aU,aS,be,bd,bf,bh]) aV 6]],zc aR (.op .row [.op .row [bX (.app 731 [aM,aO,aT,aU,aS,be,bd,bf,bh]) aV 0,bX (.app 731 [aM,aO,aT,aU,aS,be,bd,bf,bh]) aV 1,bX (.app 731 [aM,aO,aT,aU,aS,be,bd,bf,bh]) aV 2,bX (.app 731 [aM,aO,aT,aU,aS,be,bd,bf,bh]) aV 3,bX (.app 731 [aM,aO,aT,aU,aS,be,bd,bf,bh]) aV 4,bX (.app 731 [aM,aO,aT,aU,aS,be,bd,bf,bh]) aV 5,bX (.app 731 [aM,aO,aT,aU,aS,be,bd,bf,bh]) aV 6]])]])) (.ret 1 [aV,aR])
def T_put:VT:= .need (zn (zn (zn (zb (zl 4) 400) (.app 431 [aS])) (.app 491 [aS])) (.app 739 [aM,aS,bd])) (.ite (dv Fv aN) (.ret 0 [Fv,aS]) (.loop ⟨761,[aN,aS],2000,[aM,aO,aT,aU,aS,zL dU,dU,zL gV,gV,zL gV]⟩ QB [.loop ⟨762,[aN,sf],2000,[aM,aO,aT,aU,sf,zL dU,dU,zL dU]⟩ RD [.ret 0 [aN,zo (.app 762 [aN,sf,aM,aO,aT,aU,sf,zL dU,dU,zL dU]) 1]]]))
def KH:VT:= .ite (zs aR (zl 0)) (.ite (zs aR bM) (.need (zp aR) (.ite (zt (.op .slen [zg 0 2001 1]) 50) (.ret 2 [.cb false,aR]) (.ret 0 [aV,zi aR]))) (.ret 1 [aV,aR])) (.ret 1 [aV,aR])
def T_few:VT:= .loop ⟨765,[.cb false,aN],2000,[aN,zl 0,aM,aO]⟩ KH [.ret 0 [fJ (zl 0) aO],.ret 0 [zo (.app 765 [.cb false,aN,aN,zl 0,aM,aO]) 0]]
def ex(j:Int):SX:= .op .lget [aS,bj,.ci j]
def aX:List SX:=[aM,aO,aT,aU,bp,ex 0,ex 1,ex 2,ex 3]
def eb5:SX:= .app 730 aX
def eb6:SX:= .app 731 aX
def eb7:SX:= .app 733 aX
def rx(j:Int):SX:= .op .lget [eb6,bg,.ci j]
def gx(j:Int):SX:= .op .lget [eb5,bg,.ci j]
def tx:SX:= .app 721 [eb7,rx 0,rx 1,rx 2]
def eb8(x:SX):SX:= zn (zn (zb (zL x) 400) (.app 431 [x])) (.app 491 [x])
def di9:SX:= .app 766 [.cb false,zL ck,aN,aN,ck,ck,aN,zl 4,aS,be,aM,aO,aT,aU,aM,aO,aT,aU,ck]
def dj0:SX:= zo di9 4
def r7:SX:= .app 490 [dj0]
theorem cM(I:Opq)(v0:Nat)(l:List Val)(n:Nat):(I.upd v0 l).w n=if v0<=n then l.getD (n-v0) (.vb false)else I.w n:=rfl
theorem eV(I:Opq)(v0:Nat)(l:List Val):(I.upd v0 l).f=I.f:=rfl
@[simp]theorem a06(n:Int):(Val.vi n).toI=n:=rfl
@[simp]theorem dD3(n:List UInt8):(Val.vs n).toS=n:=rfl
@[simp]theorem al0(n:Bool):(Val.vb n).toB=n:=rfl
@[simp]theorem a84(n:List Val):(Val.vl n).toL=n:=rfl
@[simp]theorem a96(a b:Int):gn .lss a b=decide (a<b):=rfl
@[simp]theorem ad1(a b:Int):gn .leq a b=decide (a<=b):=rfl
@[simp]theorem aq8(a b:Int):gn .gtr a b=decide (b<a):=rfl
@[simp]theorem cR4(a b:Int):gn .geq a b=decide (b<=a):=rfl
@[simp]theorem cR5(a b:Int):gn .eql a b=decide (a=b):=rfl
@[simp]theorem bZ2(a b:Int):gn .neq a b= !decide (a=b):=rfl
@[simp]theorem cR6(a b:List UInt8):pz .eql a b=decide (a=b):=rfl
@[simp]theorem bZ3(a b:List UInt8):pz .neq a b= !decide (a=b):=rfl
theorem W8{I:Opq}{e:SX}{x:VT}{r:Option (Nat×List Val)}(h:dB I e=true)(h2:W7 x I=r):W7 (.need e x) I=r:=by rw[W7.eq_3,e8 h,h2]
theorem cy{I:Opq}{e:SX}{x y:VT}{r:Option (Nat×List Val)}(h:dB I e=true)(h2:W7 x I=r):W7 (.ite e x y) I=r:=by rw[W7.eq_2,e8 h,h2]
theorem cu{I:Opq}{e:SX}{x y:VT}{r:Option (Nat×List Val)}(h:dB I e=false)(h2:W7 y I=r):W7 (.ite e x y) I=r:=by simp_all[W7.eq_2,b9]
theorem Z3{I:Opq}{hd:LHd}{b:VT}{ks:List VT}{r:Nat×List Val}{x:Option (Nat×List Val)}(h1:cI (λvs=>W7 b (I.upd hd.v0 vs)) (Z6 I hd.s0)=some r)(h2:I.f hd.id (Z6 I (hd.s0++hd.fv))=cr r)(h3:nq ks r.1 I=x):W7 (.loop hd b ks) I=x:=by
 simp_all[W7.eq_5,e8]
theorem mG{x:Int}(h: -9223372036854775808<=x)(h2:x<9223372036854775808):IntKind.i64.wrap x=x:=by
 grind[IntKind.wrap,IntKind.bits,IntKind.signed]
theorem gb{x y:Int}(h: -9223372036854775808<=x+y)(h2:x+y<9223372036854775808):cg .add .i64 x y=x+y:=mG h h2
theorem lQ{x y:Int}(h: -9223372036854775808<=x-y)(h2:x-y<9223372036854775808):cg .sub .i64 x y=x-y:=mG h h2
theorem eH{i n:Nat}(h:i<n)(h2:n<=9223372036854775807):cg .add .i64 (i:Int) 1=((i+1:Nat):Int):=by
 grind[gb]
def ci(r:Val)(k:Nat):Int:=(Z7 r k).toI
def cT(k s l g:Int):Bool:=
 if k=1 then decide (1<=s)&&decide (s<=1048576)&&decide (l=0)&&decide (g=0)
 else if k=2 then decide (1<=s)&&decide (s<=1048576)&&decide (1<=l)&&decide (l<=1048576)&&decide (g=0)&&decide (s % l=0)&&decide (s/l<=16)
 else decide (k=3)&&decide (1<=g)&&decide (g<=1048576)&&decide (s=0)&&decide (l=0)
def ep(t:Int):Bool:=decide (-1099511627776<=t)&&decide (t<=1099511627776)
def Z9(k:Int)(key:List UInt8)(t v:Int):Int:=
 if k<1\/2<k then 80
 else if k=1 then(if key=[]\/32<key.length then 60 else if ep t then 0 else 61)
 else(if key=[]/\v=0 then(if ep t then 0 else 61)else 60)
def fw(g:Nat->Int):Nat->Int×Int
 |0=>(0,0)
 |k+1=>let s:=(fw g k).1;let o:=(fw g k).2;let x:=g k;let t:=cg .add .i64 s x
  if 0<=s/\0<=x/\t<0 then(t,cg .add .i64 o 1)else if s<0/\x<0/\0<=t then(t,cg .sub .i64 o 1)else(t,o)
def fZ(l:List Val):Int×Int:=fw (λk=>ci (bW l k) 0) l.length
def fR(l:List Val):Int:=if(fZ l).2=0 then 0 else 30
def qa(l:List Val):Int:=if(fZ l).2=0 then(fZ l).1 else 0
def Bu(a b c d:Int):Bool:=decide (a=0)&&(decide (b=0)&&(decide (c=0)&&decide (d=0)))
def dj1(a b c d:Int):Bool:=Bu a b c d||decide (0<a)&&decide (c<=d)&&(decide (1<a)||decide (a=1)&&decide (c=b)&&decide (d=b))
def AI(a b c d:Int):Int:=if b<d then-1 else if d<b then 1 else if a<c then-1 else if c<a then 1 else 0
def su(r:Val):Bool:=decide (50<(Z7 r 1).toS.length)
def dT7(i n:Int):Int:=if n<=0 then 0 else cg .rem .i64 (cg .add .i64 (cg .rem .i64 i n) n) n
def fk(n d:Int):Int:=n-n % d
def dz(k s l:Int):Int:=if k=2 then l else s
def iG(st step size:Int)(j:Nat):List Val:=[.vl [.vi (st+j*step),.vi (st+j*step+size)]]
def fe(k s l:Int):Nat:=(s/dz k s l).toNat
def cX(k s l g:Int)(t:Val):List Val:=bif cT k s l g&&ep t.toI then(if k=3 then [.vl [t,.vi (t.toI+g)]]else cn (iG (fk t.toI (dz k s l)-s+dz k s l) (dz k s l) s) (fe k s l))else []
def tN(r:Val):Bool:=Bu (ci r 0) (ci r 1) (ci r 2) (ci r 3)
def jG(l:List Val)(c:Nat)(k:Nat):List Val:=bif tN (bW l k)then []else [.vl [Z7 (bW l k) c]]
def jS(l:List Val):Nat->List Val
 |0=>[.vi 0,.vi 0,.vi 0,.vi 0]
 |k+1=>bif tN (bW l k)then jS l k else
  (if(cn (jG l 0) k).length=0 then [Z7 (bW l k) 0,Z7 (bW l k) 1,.vi (min (ci (bW l k) 2) (ci (bW l k) 2)),.vi (max (ci (bW l k) 3) (ci (bW l k) 3))]
   else [(jS l k).getD 0 default,(jS l k).getD 1 default,.vi (min ((jS l k).getD 2 default).toI (ci (bW l k) 2)),.vi (max ((jS l k).getD 3 default).toI (ci (bW l k) 3))])
def jC(l:List Val):List Val:=cn (jG l 0) l.length
def jT(l:List Val):List Val:=cn (jG l 1) l.length
def jE(l:List Val):Int:=if fR (jC l)≠0\/fR (jT l)≠0 then 30 else 0
def jR(l:List Val):List Val:=if fR (jC l)≠0\/fR (jT l)≠0 then [.vi 0,.vi 0,.vi 0,.vi 0]else [.vi (qa (jC l)),.vi (qa (jT l)),(jS l l.length).getD 2 default,(jS l l.length).getD 3 default]
def pR(a b c d v:Val):List Val:=[.vl [a,b,c,d],.vl [.vi 1,v,v,v]]
def nR(a b c d v:Val):List Val:=if jE (pR a b c d v)≠0 then [a,b,c,d]else jR (pR a b c d v)
def CC(l:List Val)(key:List UInt8)(i:Nat):List Val:=bif decide ((Z7 (bW l i) 0).toS=key)then [.vl [Z7 (bW l i) 1,Z7 (bW l i) 2]]else []
def gg(l:List Val)(key:List UInt8):List Val:=cn (CC l key) l.length
def spanV(a b:Val):Int:=AI (ci a 0) (ci a 1) (ci b 0) (ci b 1)
def Z4(r:Val):Int×Int:=(ci r 0,ci r 1)
def gw(l:List Val)(p:Val):Nat:=l.findIdx λr=>gP [.str,.int .i64,.int .i64] r p
def gy(l:List Val)(p:Val):Bool:=decide (gw l p<l.length)
def iZ(l:List Val)(p:Val)(j:Nat):Val:=bif gy l p then Z7 (bW l (gw l p)) j else .vi 0
def tc(l:List Val)(p:Val):List Val:=[iZ l p 3,iZ l p 4,iZ l p 5,iZ l p 6]
def dD4(s e:Int):Bool:= !((!((decide (0<=e))==(decide (0<=s))))&&(!((decide (0<=cg .sub .i64 e s))==(decide (0<=e)))))
def mK(g:Int)(l:List Val)(i:Nat):Bool:=decide (ci (bW l i) 1<=ci (bW l i) 0)||(dD4 (ci (bW l i) 0) (ci (bW l i) 1)&&decide (cg .sub .i64 (ci (bW l i) 1) (ci (bW l i) 0)<g))||(decide (0<i)&&decide (ci (bW l i) 0<ci (bW l (i-1)) 1))
def ql(t o:Int)(r:Val):Bool:=decide (ci r 0<o)&&decide (t<ci r 1)
def dV(r:Val):Val:= .vl [Z7 r 0,Z7 r 1]
def yK(l:List Val)(t o:Int)(i:Nat):List Val:=bif ql t o (bW l i)then [dV (bW l i)]else []
def zd(l:List Val)(t o:Int)(i:Nat):List Val:=bif ql t o (bW l i)then []else [dV (bW l i)]
def kI(l:List Val)(t o:Val):Nat->Val×Val
 |0=>(t,o)
 |i+1=>bif ql t.toI o.toI (bW l i)then(.vi (min (kI l t o i).1.toI (ci (bW l i) 0)),.vi (max (kI l t o i).2.toI (ci (bW l i) 1)))else kI l t o i
def yi(l:List Val)(t o:Int):List Val:=cn (yK l t o) l.length
def LX(l:List Val)(t o:Int):List Val:=cn (zd l t o) l.length
def mS(l:List Val)(x:Int):Nat->Nat->Nat->Nat
 |0,i,_=>i
 |n+1,i,j=>if i<j then(if ci (bW l ((i+j)/2)) 0<x then mS l x n ((i+j)/2+1) j else mS l x n i ((i+j)/2))else i
def Gf(l:List Val)(j:Nat)(a b:Val):List Val:=(l.take j).map dV++[.vl [a,b]]++(l.drop j).map dV
def iM(g t:Int)(l:List Val):Bool:=decide (1<=g)&&decide (g<=1048576)&&ep t&& !(List.range l.length).any (mK g l)
def ou(g t:Int):Val:= .vi (cg .add .i64 t g)
def ix(g t:Val)(l:List Val):Val×Val:=kI l t (ou g.toI t.toI) l.length
def iz(g t:Val)(l:List Val):List Val:=LX l t.toI (ou g.toI t.toI).toI
def pL(g t:Val)(l:List Val):List Val:=yi l t.toI (ou g.toI t.toI).toI
def nK(g t:Val)(l:List Val):Nat:=mS (iz g t l) (ix g t l).1.toI (iz g t l).length 0 (iz g t l).length
noncomputable def cS(m:List Val)(key:Val):List Val:=gK spanV (gg m key.toS)
noncomputable def kT(g:Val)(m:List Val)(key t:Val):List Val:=bif iM g.toI t.toI (cS m key)then pL g t (cS m key)else []
noncomputable def kN(g:Val)(m:List Val)(key t:Val):List Val:=bif iM g.toI t.toI (cS m key)then [(ix g t (cS m key)).1,(ix g t (cS m key)).2]else [.vi 0,.vi 0]
def fx(key r:Val):Val:= .vl [key,Z7 r 0,Z7 r 1]
def zV(key ns ne r:Val):Bool:=decide ((Z7 r 0).toS=key.toS)&&(decide ((Z7 r 1).toI=ns.toI)&&decide ((Z7 r 2).toI=ne.toI))
def kv(key ns ne r:Val):List Val:=bif zV key ns ne r then []else [eh r]
def iS(P:List Val)(key ns ne:Val):List Val:=cn (λi=>kv key ns ne (bW P i)) P.length
def kS(m:List Val)(r:Val):Val:= .vl (tc m (eh r))
def kH(m P:List Val)(v:Val):List Val:= .vl [.vi 1,v,v,v]::P.map (kS m)
noncomputable def ja(g:Val)(m:List Val)(key t:Val):List Val:=(kT g m key t).map (fx key)
noncomputable def sM(g:Val)(m:List Val)(key t v:Val):Int:=jE (kH m (ja g m key t) v)
noncomputable def nB(g:Val)(m:List Val)(key t v:Val):List Val:=if sM g m key t v≠0 then []else iS (ja g m key t) key ((kN g m key t).getD 0 default) ((kN g m key t).getD 1 default)
noncomputable def nQ(g:Val)(m:List Val)(key t v:Val):List Val:=if sM g m key t v≠0 then []else [.vl [key,(kN g m key t).getD 0 default,(kN g m key t).getD 1 default,(jR (kH m (ja g m key t) v)).getD 0 default,(jR (kH m (ja g m key t) v)).getD 1 default,(jR (kH m (ja g m key t) v)).getD 2 default,(jR (kH m (ja g m key t) v)).getD 3 default]]
def qx(m:List Val)(key r:Val)(j:Nat):Val:=iZ m (fx key r) j
def kf(m:List Val)(key v r:Val):Int:=jE (pR (qx m key r 3) (qx m key r 4) (qx m key r 5) (qx m key r 6) v)
def Aj(m:List Val)(key v r:Val):List Val:=nR (qx m key r 3) (qx m key r 4) (qx m key r 5) (qx m key r 6) v
def nP(m:List Val)(key v r:Val):Val:= .vl [key,Z7 r 0,Z7 r 1,(Aj m key v r).getD 0 default,(Aj m key v r).getD 1 default,(Aj m key v r).getD 2 default,(Aj m key v r).getD 3 default]
def gI(m S:List Val)(key v:Val):Nat:=((List.range S.length).find? λi=>decide (kf m key v (bW S i)≠0)).getD S.length
def fV(m S:List Val)(key v:Val)(k:Nat):List Val:=cn (λi=>[nP m key v (bW S i)]) k
def kL(m S:List Val)(key v e0:Val):Val:=if gI m S key v<S.length then .vi (kf m key v (bW S (gI m S key v)))else if S.length=0 then e0 else .vi 0
noncomputable def dD(w:List Val):Int:=if Z9 (bV w 5).toI (bV w 6).toS (bV w 7).toI (bV w 8).toI≠0 then Z9 (bV w 5).toI (bV w 6).toS (bV w 7).toI (bV w 8).toI else if(bV w 5).toI≠1 then 2 else if(bV w 0).toI=3 then sM (bV w 3) (bV w 4).toL (bV w 6) (bV w 7) (bV w 8)else
 (kL (bV w 4).toL (cX (bV w 0).toI (bV w 1).toI (bV w 2).toI (bV w 3).toI (bV w 7)) (bV w 6) (bV w 8) (.vi 0)).toI
noncomputable def ew(w:List Val):List Val:=if Z9 (bV w 5).toI (bV w 6).toS (bV w 7).toI (bV w 8).toI≠0\/(bV w 5).toI≠1 then []else if(bV w 0).toI=3 then nB (bV w 3) (bV w 4).toL (bV w 6) (bV w 7) (bV w 8)else []
noncomputable def eJ(X:Nat->List Val->Val)(w:List Val):Val:=if Z9 (bV w 5).toI (bV w 6).toS (bV w 7).toI (bV w 8).toI≠0\/(bV w 5).toI≠1 then .vl []else if(bV w 0).toI=3 then .vl (nQ (bV w 3) (bV w 4).toL (bV w 6) (bV w 7) (bV w 8))else
 if dD w≠0 then .vl []else X 490 [.vl (fV (bV w 4).toL (cX (bV w 0).toI (bV w 1).toI (bV w 2).toI (bV w 3).toI (bV w 7)) (bV w 6) (bV w 8) (cX (bV w 0).toI (bV w 1).toI (bV w 2).toI (bV w 3).toI (bV w 7)).length)]
def Uv:Val->Bool
 | .vs _=>true
 |_=>false
def fI(m:Val)(P:List Val):Nat->Val
 |0=>m
 |i+1=> .vl ((fI m P i).toL.eraseIdx (gw (fI m P i).toL (eh (bW P i))))
def eU(m:Val)(R:List Val):Nat->Val
 |0=>m
 |i+1=>bif gy (eU m R i).toL (eh (bW R i))then .vl ((eU m R i).toL.set (gw (eU m R i).toL (eh (bW R i))) (cK (bW R i)))else .vl ((eU m R i).toL++[cK (bW R i)])
noncomputable def fN(X:Nat->List Val->Val)(w:List Val):Val:=if dD w≠0 then bV w 4 else eU (fI (bV w 4) (ew w) (ew w).length) (eJ X w).toL (eJ X w).toL.length
def El(r:Val):Val:= .vl [Z7 r 0,Z7 r 1,Z7 r 2,Z7 r 3]
def iO(a b c d m r:Val):List Val:=[a,b,c,d,m,Z7 r 0,Z7 r 1,Z7 r 2,Z7 r 3]
noncomputable def nA(X:Nat->List Val->Val)(a b c d:Val)(U:List Val):Nat->Val
 |0=> .vl []
 |i+1=>fN X (iO a b c d (nA X a b c d U i) (bW U i))
noncomputable def jN(X:Nat->List Val->Val)(a b c d:Val)(U:List Val)(i:Nat):Int:=dD (iO a b c d (nA X a b c d U i) (bW U i))
noncomputable def jz(X:Nat->List Val->Val)(a b c d:Val)(U:List Val):Nat:=((List.range U.length).find? λi=>decide (jN X a b c d U i≠0)).getD U.length
noncomputable def Ez(X:Nat->List Val->Val)(a b c d:Val)(U:List Val):Nat×List Val:=if jz X a b c d U+1<U.length then(1,[.vi (jN X a b c d U (jz X a b c d U)),.vi (jN X a b c d U (jz X a b c d U)),.vi (jz X a b c d U+1:Nat),nA X a b c d U (jz X a b c d U+1)])
 else(0,[.vi 0,if jz X a b c d U<U.length then .vi (jN X a b c d U (jz X a b c d U))else .vi 0,.vi U.length,nA X a b c d U U.length])
def isVi:Val->Bool
 | .vi _=>true
 |_=>false
def opOk:Val->Bool
 | .vl [.vi _,.vs _,.vi _,.vi v]=>decide (-9223372036854775808<=v)&&decide (v<9223372036854775808)
 |_=>false
def opsOk:Val->Bool
 | .vl l=>l.all opOk
 |_=>false
noncomputable def FT(X:Nat->List Val->Val):Nat->List Val->Val:=λi a=>match i with
 |700=> .vb (cT (bV a 0).toI (bV a 1).toI (bV a 2).toI (bV a 3).toI)
 |701=> .vi (Z9 (bV a 0).toI (bV a 1).toS (bV a 2).toI (bV a 3).toI)
 |702=> .vi (qa (bV a 0).toL)
 |703=> .vi (fR (bV a 0).toL)
 |704=> .vl (cX (bV a 0).toI (bV a 1).toI (bV a 2).toI (bV a 3).toI (bV a 4))
 |753=>cr (0,[.vi (fe (bV a 3).toI (bV a 4).toI (bV a 5).toI),.vi ((bV a 1).toI+fe (bV a 3).toI (bV a 4).toI (bV a 5).toI*dz (bV a 3).toI (bV a 4).toI (bV a 5).toI),.vl (cn (iG (bV a 1).toI (dz (bV a 3).toI (bV a 4).toI (bV a 5).toI) (bV a 4).toI) (fe (bV a 3).toI (bV a 4).toI (bV a 5).toI))])
 |705=> .vl [.vl (jR (bV a 0).toL)]
 |706=> .vi (jE (bV a 0).toL)
 |752=>cr (0,[.vi (jC (bV a 11).toL).length,.vi (jT (bV a 11).toL).length,.vi (bV a 11).toL.length]++jS (bV a 11).toL (bV a 11).toL.length++[.vl (jC (bV a 11).toL),.vl (jT (bV a 11).toL)])
 |707=> .vl [.vl (nR (bV a 0) (bV a 1) (bV a 2) (bV a 3) (bV a 4))]
 |708=> .vi (jE (pR (bV a 0) (bV a 1) (bV a 2) (bV a 3) (bV a 4)))
 |715=> .vl (gK spanV (bV a 0).toL)
 |716=> .vb (decide ((bV a 0).toL.map Z4).Nodup)
 |721=> .vl [.vl (tc (bV a 0).toL (.vl [bV a 1,bV a 2,bV a 3]))]
 |722=> .vb (gy (bV a 0).toL (.vl [bV a 1,bV a 2,bV a 3]))
 |723=> .vl (gK spanV (gg (bV a 0).toL (bV a 1).toS))
 |750=>cr (0,[.vi (bV a 2).toL.length,.vl ((bV a 2).toL.map cK)])
 |757=>cr (0,[.vi (gg (bV a 3).toL (bV a 2).toS).length,.vl (gg (bV a 3).toL (bV a 2).toS)])
 |711=> .vb (!(List.range (bV a 1).toL.length).any (mK (bV a 0).toI (bV a 1).toL))
 |754=>cr (gv (.vb false) (λk=>[.vb false,.vi k]) (mK (bV a 2).toI (bV a 5).toL) (bV a 5).toL.length)
 |713=> .vb (decide ((bV a 1).toI=((bV a 0).toL.length:Int))&&decide (0<=(bV a 2).toI)&&decide ((bV a 2).toI<=((bV a 0).toL.length:Int))&&decide ((bV a 0).toL.length<=24))
 |714=> .vl (Gf (bV a 0).toL (bV a 2).toI.toNat (bV a 3) (bV a 4))
 |717=> .vl (bif iM (bV a 0).toI (bV a 1).toI (bV a 2).toL then pL (bV a 0) (bV a 1) (bV a 2).toL else [])
 |718=> .vl [.vl (bif iM (bV a 0).toI (bV a 1).toI (bV a 2).toL then [(ix (bV a 0) (bV a 1) (bV a 2).toL).1,(ix (bV a 0) (bV a 1) (bV a 2).toL).2]else [.vi 0,.vi 0])]
 |719=> .vl (bif iM (bV a 0).toI (bV a 1).toI (bV a 2).toL then Gf (iz (bV a 0) (bV a 1) (bV a 2).toL) (nK (bV a 0) (bV a 1) (bV a 2).toL) (ix (bV a 0) (bV a 1) (bV a 2).toL).1 (ix (bV a 0) (bV a 1) (bV a 2).toL).2 else [])
 |720=> .vi (bif iM (bV a 0).toI (bV a 1).toI (bV a 2).toL then 0 else 2)
 |755=>cr (0,[.vi (yi (bV a 13).toL (bV a 3).toI (bV a 4).toI).length,.vi (LX (bV a 13).toL (bV a 3).toI (bV a 4).toI).length,.vi (bV a 13).toL.length,(kI (bV a 13).toL (bV a 3) (bV a 4) (bV a 13).toL.length).1,(kI (bV a 13).toL (bV a 3) (bV a 4) (bV a 13).toL.length).2,.vl (yi (bV a 13).toL (bV a 3).toI (bV a 4).toI),.vl (LX (bV a 13).toL (bV a 3).toI (bV a 4).toI)])
 |756=>cr (0,[.vi (mS (bV a 3).toL (bV a 4).toI (bV a 3).toL.length 0 (bV a 3).toL.length),.vi (mS (bV a 3).toL (bV a 4).toI (bV a 3).toL.length 0 (bV a 3).toL.length)])
 |724=> .vl ((kT (bV a 0) (bV a 1).toL (bV a 2) (bV a 3)).map (fx (bV a 2)))
 |725=> .vl [.vl (bV a 2::kN (bV a 0) (bV a 1).toL (bV a 2) (bV a 3))]
 |758=>cr (0,[.vi (bV a 10).toL.length,.vi (bV a 10).toL.length,.vl ((bV a 10).toL.map (fx (bV a 4)))])
 |727=> .vl (nB (bV a 0) (bV a 1).toL (bV a 2) (bV a 3) (bV a 4))
 |728=> .vl (nQ (bV a 0) (bV a 1).toL (bV a 2) (bV a 3) (bV a 4))
 |729=> .vi (sM (bV a 0) (bV a 1).toL (bV a 2) (bV a 3) (bV a 4))
 |759=>cr (0,[.vi (iS (bV a 14).toL (bV a 10) (bV a 11) (bV a 12)).length,.vi ((bV a 4).toL++(bV a 14).toL.map (kS (bV a 9).toL)).length,.vi (bV a 14).toL.length,.vl (iS (bV a 14).toL (bV a 10) (bV a 11) (bV a 12)),.vl ((bV a 4).toL++(bV a 14).toL.map (kS (bV a 9).toL))])
 |730=> .vl (ew a)
 |731=>eJ X a
 |732=> .vi (dD a)
 |760=>cr (0,[.vi (gI (bV a 8).toL (bV a 14).toL (bV a 10) (bV a 12)),kL (bV a 8).toL (bV a 14).toL (bV a 10) (bV a 12) (bV a 1),.vi (gI (bV a 8).toL (bV a 14).toL (bV a 10) (bV a 12)),.vl (fV (bV a 8).toL (bV a 14).toL (bV a 10) (bV a 12) (gI (bV a 8).toL (bV a 14).toL (bV a 10) (bV a 12)))])
 |739=> .vb ((!decide ((bV a 0).toI=3)||decide ((bV a 1).toL.length<=24))&&Uv (bV a 2))
 |733=>fN X a
 |761=>cr (0,[.vi (bV a 10).toL.length,fI (bV a 1) (bV a 10).toL (bV a 10).toL.length])
 |762=>cr (0,[.vi (bV a 8).toL.length,eU (bV a 1) (bV a 8).toL (bV a 8).toL.length])
 |709=> .vi (fk (bV a 0).toI (bV a 1).toI)
 |712=> .vi (AI (bV a 0).toI (bV a 1).toI (bV a 2).toI (bV a 3).toI)
 |734=> .vb (!(List.range (min (bV a 0).toL.length 100)).any (λi=>su (bW (bV a 0).toL i))&&decide (((bV a 0).toL.length:Int)<=(bV a 1).toI))
 |765=>cr (gv (.vb false) (λk=>[.vb false,.vi k]) (λi=>su (bW (bV a 4).toL i)) (min (bV a 4).toL.length 100))
 |735=> .vb (dj1 (bV a 0).toI (bV a 1).toI (bV a 2).toI (bV a 3).toI)
 |736=> .vb (Bu (bV a 0).toI (bV a 1).toI (bV a 2).toI (bV a 3).toI)
 |737=> .vi (dT7 (bV a 0).toI (bV a 1).toI)
 |738=> .vb (isVi (bV a 0)&&(isVi (bV a 1)&&(isVi (bV a 2)&&(isVi (bV a 3)&&(isVi (bV a 5)&&opsOk (bV a 4))))))
 |751=>cr (0,[.vi (bV a 5).toL.length,.vi (fZ (bV a 5).toL).1,.vi (fZ (bV a 5).toL).2])
 |_=>X i a
section
variable{X:Nat->List Val->Val}{I:Opq}(hf: ∀i a,I.f i a=FT X i a)
include hf
theorem t_numSum(hn:(I.w 0).toL.length<=1000000):W7 T_numSum I=some (0,[FT X 702 [I.w 0],FT X 703 [I.w 0]]):=by
 have e0:bU I yJ=cr (0,[.vi (I.w 0).toL.length,.vi (fZ (I.w 0).toL).1,.vi (fZ (I.w 0).toL).2]):=by
  show I.f 751 [.vi 0,.vi 0,.vi 0,.vi 0,.vi (I.w 0).toL.length,I.w 0,.vi (I.w 0).toL.length]=_;rw[hf];rfl
 unfold T_numSum;refine Z3 (r:=(0,[.vi (I.w 0).toL.length,.vi (fZ (I.w 0).toL).1,.vi (fZ (I.w 0).toL).2])) ?_ e0 ?_
 .show cI _ [.vi ((0:Nat):Int),.vi 0,.vi 0]=_;refine eG (st:=λk=>[.vi k,.vi (fw (λk=>ci (bW (I.w 0).toL k) 0) k).1,.vi (fw (λk=>ci (bW (I.w 0).toL k) 0) k).2]) (n:=(I.w 0).toL.length) (λk hk=> ?_) ?_
  .have p1:(k:Int)<((I.w 0).toL.length:Int):=by omega
   have p2:(0:Int)<=(k:Int):=by omega
   have p3:=eH hk (by omega);have p4:(bZ (I.w 0).toL (k:Int) (0:Int)).toI=ci (bW (I.w 0).toL k) 0:=rfl;unfold TL;simp only[fw];generalize (fw (λk=>ci (bW (I.w 0).toL k) 0) k).1=s;generalize (fw (λk=>ci (bW (I.w 0).toL k) 0) k).2=o;simp[W7,Z6,bU,dB,cA,cM,p1,p2,p3,p4];grind
  .unfold TL;simp[W7,Z6,bU,dB,cA,cM,fZ]
 .show W7 (.ite _ _ _) I=_;have e1: ∀k:Int,(bZ (bU I yJ).toL 1 k)=Z7 (.vl [.vi (I.w 0).toL.length,.vi (fZ (I.w 0).toL).1,.vi (fZ (I.w 0).toL).2]) k.toNat:=λk=>by rw[e0];rfl
  by_cases h:(fZ (I.w 0).toL).2=0
  .refine cu ?_ ?_
   .show(!decide ((bZ (bU I yJ).toL 1 2).toI=0))=false;rw[e1];show(!decide ((fZ (I.w 0).toL).2=0))=false;grind
   .show some (0,[bZ (bU I yJ).toL 1 1,Val.vi 0])=some (0,[Val.vi (qa (I.w 0).toL),.vi (fR (I.w 0).toL)]);rw[e1,qa,fR,e8 h,e8 h];rfl
  .refine cy ?_ ?_
   .show(!decide ((bZ (bU I yJ).toL 1 2).toI=0))=true;rw[e1];show(!decide ((fZ (I.w 0).toL).2=0))=true;grind
   .show some (0,[Val.vi 0,Val.vi 30])=some (0,[Val.vi (qa (I.w 0).toL),.vi (fR (I.w 0).toL)]);simp_all[qa,fR,b9]
omit hf in
theorem t_spanP:W7 T_spanP I=some (0,[FT X 712 [I.w 0,I.w 1,I.w 2,I.w 3]]):=by
 show W7 T_spanP I=some (0,[Val.vi (AI (I.w 0).toI (I.w 1).toI (I.w 2).toI (I.w 3).toI)]);unfold T_spanP Mx Ja AI;simp[W7,Z6,bU,dB,cA,a96,aq8,al0,a06,decide_eq_true_eq];grind
omit hf in
theorem t_wRight:W7 T_wRight I=some (0,[FT X 700 [I.w 0,I.w 1,I.w 2,I.w 3]]):=by
 show W7 T_wRight I=some (0,[Val.vb (cT (I.w 0).toI (I.w 1).toI (I.w 2).toI (I.w 3).toI)]);unfold T_wRight Pi OK Sf Uf Qc PK Sy cT;generalize ha:(I.w 0).toI=a;generalize hb:(I.w 1).toI=b;generalize hc:(I.w 2).toI=c;generalize hd:(I.w 3).toI=d;by_cases k1:a=1
 .by_cases q1:b<1
  .simp[W7,Z6,bU,dB,cA,ha,hb,hc,hd,k1,q1,K9.2 q1]
  by_cases q2:1048576<b
  .simp[W7,Z6,bU,dB,cA,ha,hb,hc,hd,k1,q1,q2,K9.2 q2]
  .simp[W7,Z6,bU,dB,cA,ha,hb,hc,hd,k1,q1,q2,show 1<=b by omega,show b<=1048576 by omega]
 by_cases k2:a=2
 .by_cases q1:b<1
  .simp[W7,Z6,bU,dB,cA,ha,hb,hc,hd,k1,k2,q1];omega
  by_cases q2:1048576<b
  .simp[W7,Z6,bU,dB,cA,ha,hb,hc,hd,k1,k2,q1,q2];omega
  by_cases q3:c<1
  .simp[W7,Z6,bU,dB,cA,ha,hb,hc,hd,k1,k2,q1,q2,q3];omega
  by_cases q4:1048576<c
  .simp[W7,Z6,bU,dB,cA,ha,hb,hc,hd,k1,k2,q1,q2,q3,q4];omega
  have m1:cg .rem .i64 b c=b % c:=by
   exact S6 (by omega)
  have m2:cg .quo .i64 b c=b/c:=by
   show IntKind.i64.wrap (b.tdiv c)=b/c;have h1:0<=b/c:=S8 (by omega) (by omega);have h2:b/c<=b:=O9 _ (by omega);grind[mG]
  have c0: ¬c=0:=by omega
  have e1:1<=b:=by omega
  have e2:b<=1048576:=by omega
  have e3:1<=c:=by omega
  have e4:c<=1048576:=by omega
  by_cases q5:d=0<;>by_cases q6:b % c=0<;>simp[W7,Z6,bU,dB,cA,ha,hb,hc,hd,k2,q1,q2,q3,q4,q5,q6,m1,m2,c0,e1,e2,e3,e4]
 .by_cases k3:a=3
  .by_cases q1:d<1
   .simp[W7,Z6,bU,dB,cA,ha,hb,hc,hd,k1,k2,k3,q1,K9.2 q1]
   by_cases q2:1048576<d
   .simp[W7,Z6,bU,dB,cA,ha,hb,hc,hd,k1,k2,k3,q1,q2,K9.2 q2]
   .simp[W7,Z6,bU,dB,cA,ha,hb,hc,hd,k1,k2,k3,q1,q2,show 1<=d by omega,show d<=1048576 by omega]
  simp_all[W7,Z6,bU,dB,cA]
omit hf in
theorem t_evRight0(h:(I.w 0).toI<1\/2<(I.w 0).toI):W7 T_evRight0 I=some (0,[FT X 701 [I.w 0,I.w 1,I.w 2,I.w 3]]):=by
 show W7 T_evRight0 I=some (0,[Val.vi (Z9 (I.w 0).toI (I.w 1).toS (I.w 2).toI (I.w 3).toI)]);unfold T_evRight0 Z9;rw[e8 h];by_cases h1:(I.w 0).toI<1
 .exact cy (e9 h1) rfl
 .exact cu (j5 h1) (cy (e9 (show(2:Int)<(I.w 0).toI by omega)) rfl)
omit hf in
theorem t_evRight1(h:(I.w 0).toI=1):W7 T_evRight1 I=some (0,[FT X 701 [I.w 0,I.w 1,I.w 2,I.w 3]]):=by
 show W7 T_evRight1 I=some (0,[Val.vi (Z9 (I.w 0).toI (I.w 1).toS (I.w 2).toI (I.w 3).toI)]);rw[h];unfold T_evRight1 Z9 ep;generalize hk:(I.w 1).toS=k;generalize ht:(I.w 2).toI=t;by_cases k0:k=[]
 .simp_all[W7,Z6,bU,dB,cA]
 .by_cases k1:32<k.length
  .have: ¬((k.length:Int)<=32):=by omega
   simp_all[W7,Z6,bU,dB,cA]
  .have:(k.length:Int)<=32:=by omega
   by_cases t1:t< -1099511627776<;>by_cases t2:1099511627776<t<;>simp[W7,Z6,bU,dB,cA,hk,ht,k0,k1,this,t1,t2,K9.2,E9.1]<;>omega
omit hf in
theorem t_evRight2(h:(I.w 0).toI=2):W7 T_evRight2 I=some (0,[FT X 701 [I.w 0,I.w 1,I.w 2,I.w 3]]):=by
 show W7 T_evRight2 I=some (0,[Val.vi (Z9 (I.w 0).toI (I.w 1).toS (I.w 2).toI (I.w 3).toI)]);rw[h];unfold T_evRight2 Z9 ep;generalize hk:(I.w 1).toS=k;generalize ht:(I.w 2).toI=t;generalize hv:(I.w 3).toI=v;by_cases k0:k=[]<;>by_cases k1:v=0<;>simp[W7,Z6,bU,dB,cA,hk,ht,hv,k0,k1];grind
theorem t_few:W7 T_few I=some (0,[FT X 734 [I.w 0,I.w 1]]):=by
 have hF:FT X 734 [I.w 0,I.w 1]= .vb (!(List.range (min (I.w 0).toL.length 100)).any (λi=>su (bW (I.w 0).toL i))&&decide (((I.w 0).toL.length:Int)<=(I.w 1).toI)):=rfl;have hF2: ∀a b c d:Val,FT X 765 [a,b,c,d,I.w 0,I.w 1]=cr (gv (.vb false) (λk=>[.vb false,.vi k]) (λi=>su (bW (I.w 0).toL i)) (min (I.w 0).toL.length 100)):=λ_ _ _ _=>rfl
 have h0:=Ek (x:= .vb false) (px:=λk=>[.vb false,.vi k]) (bad:=λi=>su (bW (I.w 0).toL i)) (n:=min (I.w 0).toL.length 100);have e0:I.f 765 [.vb false,.vi 0,.vi 0,.vi (I.w 0).toL.length,I.w 0,I.w 1]=cr (gv (.vb false) (λk=>[.vb false,.vi k]) (λi=>su (bW (I.w 0).toL i)) (min (I.w 0).toL.length 100)):=by grind
 rw[hF];refine Z3 (r:=gv (.vb false) (λk=>[.vb false,.vi k]) (λi=>su (bW (I.w 0).toL i)) (min (I.w 0).toL.length 100)) ?_ e0 ?_
 .refine ws (λi hi hb=> ?_) (λi hi hb=> ?_) ?_
  .have p1:(i:Int)<((I.w 0).toL.length:Int):=by omega
   have p0:(i:Int)<100:=by omega
   have p3:=eH (n:=100) (i:=i) (by omega) (by omega);have p4:(bZ (I.w 0).toL (i:Int) (1:Int)).toS=(Z7 (bW (I.w 0).toL i) 1).toS:=rfl;have p5: ¬(50:Int)<((Z7 (bW (I.w 0).toL i) 1).toS.length:Int):=by
    have:=of_decide_eq_false hb;omega
   simp_all[KH,W7,Z6,bU,dB,cA,cM]
  .have p1:(i:Int)<((I.w 0).toL.length:Int):=by omega
   have p0:(i:Int)<100:=by omega
   have p4:(bZ (I.w 0).toL (i:Int) (1:Int)).toS=(Z7 (bW (I.w 0).toL i) 1).toS:=rfl;have p5:(50:Int)<((Z7 (bW (I.w 0).toL i) 1).toS.length:Int):=by
    have:=j6 hb;omega
   simp_all[KH,W7,Z6,bU,dB,cA,cM]
  .unfold KH;rcases k5 (I.w 0).toL.length 100 with q|q
   .rw[A8 (by omega)];simp[W7,Z6,bU,dB,cA,cM]
   simp_all[M3,W7,Z6,bU,dB,cA,cM]
 .rw[h0]at e0;rw[h0];cases hb:(List.range (min (I.w 0).toL.length 100)).any (λi=>su (bW (I.w 0).toL i))with
  |true=>
   rw[hb]at e0;show some (0,[bZ (I.f 765 [.vb false,.vi 0,.vi 0,.vi (I.w 0).toL.length,I.w 0,I.w 1]).toL 1 0])=_;rw[e0];rfl
  |false=>rfl
omit hf in
theorem t_down(h1:1<=(I.w 1).toI)(h2:(I.w 1).toI<=1048576)(h3: -1099511627776<=(I.w 0).toI)(h4:(I.w 0).toI<=1099511627776):W7 T_down I=some (0,[FT X 709 [I.w 0,I.w 1],.vi 0]):=by
 show W7 T_down I=some (0,[Val.vi (fk (I.w 0).toI (I.w 1).toI),Val.vi 0]);unfold T_down Js Iq Uc Hy GV fk;generalize ha:(I.w 0).toI=n at h3 h4;generalize hb:(I.w 1).toI=d at h1 h2;have q0:=I4 n (show d≠0 by omega);have q1:=I5 n (show 0<d by omega);have d0: ¬d<=0:=by omega
 have d1: ¬d=0:=by omega
 have hr:(cg .rem .i64 n d<0/\cg .add .i64 (cg .rem .i64 n d) d=n % d)\/(0<=cg .rem .i64 n d/\cg .rem .i64 n d=n % d):=by
  show(n.tmod d<0/\IntKind.i64.wrap (n.tmod d+d)=n % d)\/(0<=n.tmod d/\n.tmod d=n % d);have t1:n.tmod d=n-d*n.tdiv d:=Int.tmod_def n d;have t2:=P0 n d;by_cases hn:0<=n
  .grind
  .have t3:n.tmod d= -((-n) % d):=by
    rw[show n= -(-n) by omega,Int.neg_tmod,S6 (by omega)];simp
   have t4:(-n) % d=if n % d=0 then 0 else d-n % d:=by
    grind[Int.neg_emod,Int.dvd_iff_emod_eq_zero]
   by_cases z:n % d=0
   .omega
   .left;rw[t3,t4,b9 z];grind[mG]
 have hs:cg .sub .i64 n (n % d)=n-n % d:=lQ (by omega) (by omega);rcases hr with⟨r1,r2⟩|⟨r1,r2⟩
 .by_cases z:0<=n
  .simp_all[W7,Z6,bU,dB,cA]
  .have: ¬0<=n-n % d:=by omega
   simp[W7,Z6,bU,dB,cA,ha,hb,d0,d1,r1,r2,hs,q0,z,this];omega
 .have r3: ¬cg .rem .i64 n d<0:=by omega
  rw[r2]at r3;by_cases z:0<=n
  .simp[W7,Z6,bU,dB,cA,ha,hb,d0,d1,r2,r3,hs,q0,z]
  .have: ¬0<=n-n % d:=by omega
   simp[W7,Z6,bU,dB,cA,ha,hb,d0,d1,r2,r3,hs,q0,z,this];omega
end
end Go.Ev.S9
