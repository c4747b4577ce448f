import Derived.Test.YtliadehnohhngaaGreatE1
import Derived.Test.YtliadehnohhngaaGreatEM1
set_option linter.all false
noncomputable section
namespace Go.Ev.S9
open Go Go.Ev
def YY:SX:= ze aN 1
def WK:SX:= zs aO aZ
def SI:SX:= zt aO 1048576
def YM:SX:= cF aO aO
def RJ:SX:= ze aS 0
def VE:SX:= ze aV 0
def Wl:SX:= ze aN 3
def T_wRight:VT:= .J (YY) (.J (WK) (.W 0 [.cb false]) (.J (SI) (.W 0 [.cb false]) (.W 0 [zn YY (zn YM (zn RJ VE))]))) (.J (ze aN 2) (.J (WK) (.W 0 [.cb false]) (.J (SI) (.W 0 [.cb false]) (.J (zs aS aZ) (.W 0 [.cb false]) (.J (zt aS 1048576) (.W 0 [.cb false]) (.J (zn YM (zn (cF aS aS) VE)) (.N (cX aS aM) (.J (ze (.O (.ar .rem .i64) [aO,aS]) 0) (.W 0 [zb (.O (.ar .quo .i64) [aO,aS]) 16]) (.W 0 [.cb false]))) (.W 0 [.cb false])))))) (.J (Wl) (.J (zs aV aZ) (.W 0 [.cb false]) (.J (zt aV 1048576) (.W 0 [.cb false]) (.W 0 [zn Wl (zn (ze aO 0) (zn RJ (cF aV aV)))]))) (.W 0 [.cb false])))
def T_evRight0:VT:= .J (zs aN aZ) (.W 0 [.C 80]) (.J (zt aN 2) (.W 0 [.C 80]) (.X))
def T_evRight1:VT:= .J (.O (.scmp .neq) [aO,.cs []]) (.J (dR (zb (.O .slen [aO]) 32)) (.W 0 [bL]) (.J (zs aS (.C (-1099511627776))) (.W 0 [bG]) (.J (zt aS 1099511627776) (.W 0 [bG]) (.W 0 [aM])))) (.W 0 [bL])
def T_evRight2:VT:= .J (dR (zn (ze bm 2) (zn (.O (.scmp .eql) [aO,.cs []]) (zn (cF aS aS) (ze aV 0))))) (.W 0 [bL]) (.J (zs aS (.C (-1099511627776))) (.W 0 [bG]) (.J (zt aS 1099511627776) (.W 0 [bG]) (.W 0 [aM])))
def yP:SX:= .Q 751 [aM,aM,aM,aM,zl 0,aN,zl 0]
def Wz:VT:= .J (zs aU (zl 0)) (.N (zp aU) (.J (eQ aR aM) (.J (eQ (zg 0 2000 0) aM) (.J (zs (za aR (zg 0 2000 0)) aM) (.W 0 [zi aU,za aR (zg 0 2000 0),zi aW]) (.W 0 [zi aU,za aR (zg 0 2000 0),aW])) (.W 0 [zi aU,za aR (zg 0 2000 0),aW])) (.J (zs (zg 0 2000 0) aM) (.J (eQ (za aR (zg 0 2000 0)) aM) (.W 0 [zi aU,za aR (zg 0 2000 0),zm aW aZ]) (.W 0 [zi aU,za aR (zg 0 2000 0),aW])) (.W 0 [zi aU,za aR (zg 0 2000 0),aW])))) (.W 1 [aU,aR,aW])
def T_numSum:VT:= .loop ⟨751,[aM,aM,aM],2000,[aM,zl 0,aN,zl 0]⟩ Wz [.J (cX (zo yP 2) aM) (.W 0 [aM,bS]) (.W 0 [zo yP 1,aM])]
def Kk:SX:= .O (.ar .rem .i64) [aN,aO]
def FP:SX:= eQ aN aM
def Tl:SX:= za Kk aO
def Ow:SX:= zm aN Tl
def KS:SX:= zm aN Kk
def T_down:VT:= .J (zb aO 0) (.W 0 [aM,bm]) (.N (cX aO aM) (.J (zs Kk aM) (.J (dR (.O .beq [FP,eQ Tl aM])) (.J (dR (.O .beq [eQ Ow aM,FP])) (.W 0 [aM,bS]) (.W 0 [Ow,aM])) (.W 0 [Ow,aM])) (.J (dR (.O .beq [FP,eQ Kk aM])) (.J (dR (.O .beq [eQ KS aM,FP])) (.W 0 [aM,bS]) (.W 0 [KS,aM])) (.W 0 [KS,aM]))))
def Dy:VT:= .J (zs aR (zl 1)) (.N (zp aR) (.J (dR (.O .beq [eQ (zg 1 2001 1) aM,eQ (zg 1 2001 0) aM])) (.J (dR (.O .beq [eQ (zm (zg 1 2001 1) (zg 1 2001 0)) aM,eQ (zg 1 2001 1) aM])) (.J (eQ (zg 1 2001 0) (zg 1 2001 1)) (.W 2 [.cb false,aR]) (.J (zt aR 0) (.N (zn (zp (zm aR aZ)) (zs (zm aR aZ) (zl 1))) (.J (dF (cq aO (zm aR aZ) 1) (zg 1 2001 0)) (.W 2 [.cb false,aR]) (.W 0 [aU,zi aR]))) (.W 0 [aU,zi aR]))) (.J (eQ (zg 1 2001 0) (zg 1 2001 1)) (.W 2 [.cb false,aR]) (.J (zs (zm (zg 1 2001 1) (zg 1 2001 0)) aN) (.W 2 [.cb false,aR]) (.J (zt aR 0) (.N (zn (zp (zm aR aZ)) (zs (zm aR aZ) (zl 1))) (.J (dF (cq aO (zm aR aZ) 1) (zg 1 2001 0)) (.W 2 [.cb false,aR]) (.W 0 [aU,zi aR]))) (.W 0 [aU,zi aR]))))) (.J (eQ (zg 1 2001 0) (zg 1 2001 1)) (.W 2 [.cb false,aR]) (.J (zs (zm (zg 1 2001 1) (zg 1 2001 0)) aN) (.W 2 [.cb false,aR]) (.J (zt aR 0) (.N (zn (zp (zm aR aZ)) (zs (zm aR aZ) (zl 1))) (.J (dF (cq aO (zm aR aZ) 1) (zg 1 2001 0)) (.W 2 [.cb false,aR]) (.W 0 [aU,zi aR]))) (.W 0 [aU,zi aR])))))) (.W 1 [aU,aR])
def T_sRight:VT:= .loop ⟨754,[.cb false,aM],2000,[aN,aM,zl 1,aO,aM,zl 1,aO,zl 1]⟩ Dy [.W 0 [.cb true],.W 0 [zo (.Q 754 [.cb false,aM,aN,aM,zl 1,aO,aM,zl 1,aO,zl 1]) 0]]
def Pt:SX:= zs aN aS
def KH:SX:= dF aN aS
def T_spanP:VT:= .J (zs aO aV) (.J (Pt) (.W 0 [.C (-1)]) (.J (KH) (.W 0 [.C (-1)]) (.W 0 [.C (-1)]))) (.J (dF aO aV) (.J (Pt) (.W 0 [aZ]) (.J (KH) (.W 0 [aZ]) (.W 0 [aZ]))) (.J (Pt) (.W 0 [.C (-1)]) (.J (KH) (.W 0 [aZ]) (.W 0 [aM]))))
def HA:SX:= za (zm (.Q 709 [aT,aS]) aO) aS
def GP:SX:= .Q 753 [zL co,HA,co,aN,aO,aS,aV,.Q 709 [aT,aS]]
def JT:SX:= zo GP 2
def Is:SX:= za (zm (.Q 709 [aT,aO]) aO) aO
def Km:SX:= .Q 753 [zL co,Is,co,aN,aO,aS,aV,.Q 709 [aT,aO]]
def Jx:SX:= zo Km 2
def Va:VT:= .J (eE aR (.Q 709 [aT,aS])) (.N (zn (cF aU (zl 2002)) (zb (zL (zc aW (.O .row [.O .row [aR,za aR aO]]))) 1000000)) (.J (ze aN 2) (.W 0 [zL (zc aW (.O .row [.O .row [aR,za aR aO]])),za aR aS,zc aW (.O .row [.O .row [aR,za aR aO]])]) (.W 0 [zL (zc aW (.O .row [.O .row [aR,za aR aO]])),za aR aO,zc aW (.O .row [.O .row [aR,za aR aO]])]))) (.W 1 [aU,aR,aW])
def Wb:VT:= .J (eE aR (.Q 709 [aT,aO])) (.N (zn (cF aU (zl 2002)) (zb (zL (zc aW (.O .row [.O .row [aR,za aR aO]]))) 1000000)) (.J (ze aN 2) (.W 0 [zL (zc aW (.O .row [.O .row [aR,za aR aO]])),za aR aS,zc aW (.O .row [.O .row [aR,za aR aO]])]) (.W 0 [zL (zc aW (.O .row [.O .row [aR,za aR aO]])),za aR aO,zc aW (.O .row [.O .row [aR,za aR aO]])]))) (.W 1 [aU,aR,aW])
def T_wOf:VT:= .J (dR (.Q 700 [aN,aO,aS,aV])) (.W 0 [co]) (.J (eQ aT (.C (-1099511627776))) (.J (dR (zb aT 1099511627776)) (.W 0 [co]) (.J (ze aN 3) (.W 0 [.O .row [.O .row [aT,za aT aV]]]) (.J (ze aN 2) (.N (zn (eE aZ aS) (zb aS 1048576)) (.loop ⟨753,[zL co,HA,co],2000,[aN,aO,aS,aV,.Q 709 [aT,aS]]⟩ Va [.N (cF (zo GP 0) (zL JT)) (.W 0 [JT])])) (.N (zn (eE aZ aO) (zb aO 1048576)) (.loop ⟨753,[zL co,Is,co],2000,[aN,aO,aS,aV,.Q 709 [aT,aO]]⟩ Wb [.N (cF (zo Km 0) (zL Jx)) (.W 0 [Jx])]))))) (.W 0 [co]))
def kR:SX:= .Q 752 [zL co,zL co,aM,aM,aM,aM,aM,co,co,aM,zl 0,aN,zl 0]
def Jt:SX:= zo kR 0
def FW:SX:= zo kR 7
def rY:SX:= .O .lsub [FW,aM,Jt]
def FH:SX:= zo kR 1
def GZ:SX:= zo kR 8
def tF:SX:= .O .lsub [GZ,aM,FH]
def Qt:VT:= .J (zs aW (zl 0)) (.N (zp aW) (.J (zn (ze (zg 0 2002 0) 0) (zn (ze (zg 0 2002 1) 0) (zn (ze (zg 0 2002 2) 0) (ze (zg 0 2002 3) 0)))) (.W 0 [aU,aR,zi aW,bj,bq,bv,bw,bA,bx]) (.N (zp aR) (.J (ze aR 0) (.N (zn (cF aU (zl 2007)) (zb (zL (zc bA (.O .row [.O .row [zg 0 2002 0]]))) 1000000)) (.N (zn (cF aR (zl 2008)) (zb (zL (zc bx (.O .row [.O .row [zg 0 2002 1]]))) 1000000)) (.W 0 [zL (zc bA (.O .row [.O .row [zg 0 2002 0]])),zL (zc bx (.O .row [.O .row [zg 0 2002 1]])),zi aW,zg 0 2002 0,zg 0 2002 1,.O .imin [zg 0 2002 2,zg 0 2002 2],.O .imax [zg 0 2002 3,zg 0 2002 3],zc bA (.O .row [.O .row [zg 0 2002 0]]),zc bx (.O .row [.O .row [zg 0 2002 1]])]))) (.N (zn (cF aU (zl 2007)) (zb (zL (zc bA (.O .row [.O .row [zg 0 2002 0]]))) 1000000)) (.N (zn (cF aR (zl 2008)) (zb (zL (zc bx (.O .row [.O .row [zg 0 2002 1]]))) 1000000)) (.W 0 [zL (zc bA (.O .row [.O .row [zg 0 2002 0]])),zL (zc bx (.O .row [.O .row [zg 0 2002 1]])),zi aW,bj,bq,.O .imin [bv,zg 0 2002 2],.O .imax [bw,zg 0 2002 3],zc bA (.O .row [.O .row [zg 0 2002 0]]),zc bx (.O .row [.O .row [zg 0 2002 1]])]))))))) (.W 1 [aU,aR,aW,bj,bq,bv,bw,bA,bx])
def T_join:VT:= .loop ⟨752,[zL co,zL co,aM,aM,aM,aM,aM,co,co],2000,[aM,zl 0,aN,zl 0]⟩ Qt [.N (zn (zn (zp Jt) (eE Jt (zL FW))) (zb (zL rY) 1000000)) (.N (zn (zn (zp FH) (eE FH (zL GZ))) (zb (zL tF) 1000000)) (.J (cX (.Q 703 [rY]) aM) (.W 0 [aM,aM,aM,aM,bS]) (.J (cX (.Q 703 [tF]) aM) (.W 0 [aM,aM,aM,aM,bS]) (.W 0 [.Q 702 [rY],.Q 702 [tF],zo kR 5,zo kR 6,aM]))))]
def oD:SX:= za aO aN
def kl:SX:= .Q 755 [zL co,zL co,aM,aO,oD,co,co,aO,oD,aO,oD,aM,zl 2,aS,zl 2]
def gP:SX:= zo kl 1
def iW:SX:= zo kl 6
def gK:SX:= zo kl 3
def mM:SX:= zo kl 4
def pX:SX:= zo (.Q 756 [aM,gP,gP,iW,gK,mM,gP]) 0
def Mh:SX:= cq iW pX 0
def CP:SX:= .Q 713 [iW,gP,pX,gK,mM]
def vU:SX:= zo kl 5
def DZ:SX:= cF (zo kl 0) (zL vU)
def AN:SX:= .Q 714 [iW,gP,pX,gK,mM]
def PN:VT:= .J (zs aW (zl 2)) (.N (zp aW) (.J (zs (zg 2 2002 0) (za aO aN)) (.J (dR (zs aO (zg 2 2002 1))) (.N (zn (cF aR (zl 2006)) (zb (zL (zc bw (.O .row [.O .row [zg 2 2002 0,zg 2 2002 1]]))) 1000000)) (.W 0 [aU,zL (zc bw (.O .row [.O .row [zg 2 2002 0,zg 2 2002 1]])),zi aW,bj,bq,bv,zc bw (.O .row [.O .row [zg 2 2002 0,zg 2 2002 1]])])) (.N (zn (cF aU (zl 2005)) (zb (zL (zc bv (.O .row [.O .row [zg 2 2002 0,zg 2 2002 1]]))) 1000000)) (.W 0 [zL (zc bv (.O .row [.O .row [zg 2 2002 0,zg 2 2002 1]])),aR,zi aW,.O .imin [bj,zg 2 2002 0],.O .imax [bq,zg 2 2002 1],zc bv (.O .row [.O .row [zg 2 2002 0,zg 2 2002 1]]),bw]))) (.N (zn (cF aR (zl 2006)) (zb (zL (zc bw (.O .row [.O .row [zg 2 2002 0,zg 2 2002 1]]))) 1000000)) (.W 0 [aU,zL (zc bw (.O .row [.O .row [zg 2 2002 0,zg 2 2002 1]])),zi aW,bj,bq,bv,zc bw (.O .row [.O .row [zg 2 2002 0,zg 2 2002 1]])])))) (.W 1 [aU,aR,aW,bj,bq,bv,bw])
def TP:VT:= .J (zs aU aR) (.N (zn (zp (zh aU aR)) (zs (zh aU aR) (zo (.Q 755 [zL co,zL co,aM,aO,za aO aN,co,co,aO,za aO aN,aO,za aO aN,aM,zl 2,aS,zl 2]) 1))) (.N (zs (zh aU aR) (zL (zo (.Q 755 [zL co,zL co,aM,aO,za aO aN,co,co,aO,za aO aN,aO,za aO aN,aM,zl 2,aS,zl 2]) 6))) (.J (zs (cq (zo (.Q 755 [zL co,zL co,aM,aO,za aO aN,co,co,aO,za aO aN,aO,za aO aN,aM,zl 2,aS,zl 2]) 6) (zh aU aR) 0) (zo (.Q 755 [zL co,zL co,aM,aO,za aO aN,co,co,aO,za aO aN,aO,za aO aN,aM,zl 2,aS,zl 2]) 3)) (.W 0 [zi (zh aU aR),aR]) (.J (dF (cq (zo (.Q 755 [zL co,zL co,aM,aO,za aO aN,co,co,aO,za aO aN,aO,za aO aN,aM,zl 2,aS,zl 2]) 6) (zh aU aR) 0) (zo (.Q 755 [zL co,zL co,aM,aO,za aO aN,co,co,aO,za aO aN,aO,za aO aN,aM,zl 2,aS,zl 2]) 3)) (.W 0 [aU,zh aU aR]) (.W 0 [aU,zh aU aR]))))) (.W 1 [aU,aR])
def T_sinsert:VT:= .J (cF aN (.O .imax [aZ,.O .imin [aN,bX]])) (.J (cX aO (.O .imax [.C (-1099511627776),.O .imin [aO,bY]])) (.W 0 [aM,aM,bm,co,co]) (.N (zb (zl 2) 400) (.J (dR (.Q 711 [aN,aS])) (.W 0 [aM,aM,bm,co,co]) (.loop ⟨755,[zL co,zL co,aM,aO,oD,co,co],2000,[aO,oD,aO,oD,aM,zl 2,aS,zl 2]⟩ PN [.N (zp gP) (.loop ⟨756,[aM,gP],2000,[gP,iW,gK,mM,gP]⟩ TP [.J (zs pX gP) (.N (zp pX) (.N (zs pX (zL iW)) (.J (zs Mh gK) (.N (CP) (.N (DZ) (.W 0 [gK,mM,aM,vU,AN]))) (.J (dF Mh gK) (.N (CP) (.N (DZ) (.W 0 [gK,mM,aM,vU,AN]))) (.N (CP) (.N (DZ) (.W 0 [gK,mM,aM,vU,AN]))))))) (.N (CP) (.N (DZ) (.W 0 [gK,mM,aM,vU,AN])))])])))) (.W 0 [aM,aM,bm,co,co])
def lB:SX:= .O .row [.O .row [aN,aO,aS,aV],.O .row [aZ,aT,aT,aT]]
def T_aput:VT:= .N (zb (zL lB) 1000) (.J (cX (.Q 706 [lB]) aM) (.W 0 [aN,aO,aS,aV,.Q 706 [lB]]) (.W 0 [cq (.Q 705 [lB]) aM 0,cq (.Q 705 [lB]) aM 1,cq (.Q 705 [lB]) aM 2,cq (.Q 705 [lB]) aM 3,aM]))
def Fe:SX:= .Q 750 [zL co,co,aT]
def qB:SX:= zo Fe 1
def XQ:VT:= .N (zn (cF aU (zl 2001)) (zb (zL (zc aR (.O .row [zv 4 2002]))) 1000000)) (.W 0 [zL (zc aR (.O .row [zv 4 2002])),zc aR (.O .row [zv 4 2002])])
def T_trows:VT:= .mloop ⟨750,[zL co,co],2000,[aT]⟩ aT XQ [.N (zn (cF (zo Fe 0) (zL qB)) (zn (zn (zb (zL qB) 400) (.Q 431 [qB])) (.Q 491 [qB]))) (.W 0 [.Q 490 [qB]])]
def IL:SX:= .Q 757 [zL co,co,bg,aT]
def JK:SX:= zo IL 0
def qg:SX:= zo IL 1
def Vv:VT:= .J (.O (.scmp .eql) [zg 4 2002 0,bg]) (.N (zn (cF aU (zl 2001)) (zb (zL (zc aR (.O .row [.O .row [zg 4 2002 1,zg 4 2002 2]]))) 1000000)) (.W 0 [zL (zc aR (.O .row [.O .row [zg 4 2002 1,zg 4 2002 2]])),zc aR (.O .row [.O .row [zg 4 2002 1,zg 4 2002 2]])])) (.W 0 [aU,aR])
def T_tsess:VT:= .mloop ⟨757,[zL co,co],2000,[bg,aT]⟩ aT Vv [.N (zn (cF JK (zL qg)) (zn (zb (zL qg) 1000000) (.Q 716 [qg]))) (.N (cF JK (zL (.Q 715 [qg]))) (.W 0 [.Q 715 [qg]]))]
def JY:SX:= .Q 718 [aV,bf,.Q 723 [aT,bd]]
def El:SX:= cq JY aM 0
def Eg:SX:= cq JY aM 1
def lh:SX:= .Q 717 [aV,bf,.Q 723 [aT,bd]]
def IE:SX:= .Q 758 [zL co,aM,co,bg,bd,bf,bh,El,Eg,zL lh,lh,zL lh]
def Ij:SX:= zo IE 2
def ei6:VT:= .J (zs aR (zL (.Q 717 [aV,bf,.Q 723 [aT,bd]]))) (.N (zp aR) (.N (zn (cF aU (zl 2002)) (zb (zL (zc aW (.O .row [.O .row [bd,cq (.Q 717 [aV,bf,.Q 723 [aT,bd]]) aR 0,cq (.Q 717 [aV,bf,.Q 723 [aT,bd]]) aR 1]]))) 1000000)) (.W 0 [zL (zc aW (.O .row [.O .row [bd,cq (.Q 717 [aV,bf,.Q 723 [aT,bd]]) aR 0,cq (.Q 717 [aV,bf,.Q 723 [aT,bd]]) aR 1]])),zi aR,zc aW (.O .row [.O .row [bd,cq (.Q 717 [aV,bf,.Q 723 [aT,bd]]) aR 0,cq (.Q 717 [aV,bf,.Q 723 [aT,bd]]) aR 1]])]))) (.W 1 [aU,aR,aW])
def T_joined:VT:= .N (zn (zb (zl 4) 400) (.Q 491 [aT])) (.N (zb (zL (.Q 723 [aT,bd])) 24) (.loop ⟨758,[zL co,aM,co],2000,[bg,bd,bf,bh,El,Eg,zL lh,lh,zL lh]⟩ ei6 [.N (cF (zo IE 0) (zL Ij)) (.W 0 [bd,El,Eg,Ij])]))
def AD:SX:= .O .row [.O .row [aZ,bh,bh,bh]]
def sV:SX:= .Q 725 [aV,aT,bd,bf]
def ut:SX:= cq sV aM 0
def tP:SX:= cq sV aM 1
def uv:SX:= cq sV aM 2
def gE:SX:= .Q 724 [aV,aT,bd,bf]
def uk:SX:= .Q 759 [zL co,zL AD,aM,co,AD,aN,aO,aS,aV,aT,ut,tP,uv,zL gE,gE,zL gE]
def HX:SX:= zo uk 1
def Nk:SX:= zo uk 4
def lR:SX:= .O .lsub [Nk,aM,HX]
def LH:SX:= zo uk 3
def yH:SX:= .O .row [cq gE aW 0,cq gE aW 1,cq gE aW 2]
def po(j:Int):SX:= .O .J [zs (.O (.mfind [.str,.int .i64,.int .i64]) [aT,yH]) (zl 4),.O .G [aT,.O (.mfind [.str,.int .i64,.int .i64]) [aT,yH],.C j],aM]
def uq:SX:= zc bq (.O .row [.O .row [po 3,po 4,po 5,po 6]])
def DY:SX:= zc bj (.O .row [yH])
def ei7:SX:= zn (.O (.scmp .eql) [cq gE aW 0,ut]) (zn (cF (cq gE aW 1) tP) (cF (cq gE aW 2) uv))
def ei8:VT:= .J (zs aW (zL gE)) (.N (zp aW) (.N (zn (cF aR (zl 2004)) (zb (zL uq) 1000000)) (.J (dR ei7) (.N (zn (cF aU (zl 2003)) (zb (zL DY) 1000000)) (.W 0 [zL DY,zL uq,zi aW,DY,uq])) (.W 0 [aU,zL uq,zi aW,bj,uq])))) (.W 1 [aU,aR,aW,bj,bq])
def T_sess:VT:= .N (zn (zb (zl 4) 24) (.Q 491 [aT])) (.loop ⟨759,[zL co,zL AD,aM,co,AD],2000,[aN,aO,aS,aV,aT,ut,tP,uv,zL gE,gE,zL gE]⟩ ei8 [.N (zn (zn (zp HX) (eE HX (zL Nk))) (zb (zL lR) 1000)) (.J (cX (.Q 706 [lR]) aM) (.W 0 [.Q 706 [lR],co,co]) (.N (cF (zo uk 0) (zL LH)) (.W 0 [aM,LH,.O .row [.O .row [ut,tP,uv,cq (.Q 705 [lR]) aM 0,cq (.Q 705 [lR]) aM 1,cq (.Q 705 [lR]) aM 2,cq (.Q 705 [lR]) aM 3]]])))])
def uh:SX:= .Q 701 [bg,bd,bf,bh]
def iw:SX:= .Q 704 [aN,aO,aS,aV,bf]
def yV:SX:= .Q 760 [zL co,uh,aM,co,aN,aO,aS,aV,aT,bg,bd,bf,bh,zL iw,iw,zL iw]
def Jj:SX:= zo yV 1
def HG:SX:= zo yV 0
def Mq:SX:= zo yV 3
def EQ:SX:= .O .lsub [Mq,aM,HG]
def JA:SX:= .O .row [bd,cq iw aW 0,cq iw aW 1]
def jF(j:Int):SX:= .O .J [zs (.O (.mfind [.str,.int .i64,.int .i64]) [aT,JA]) (zl 4),.O .G [aT,.O (.mfind [.str,.int .i64,.int .i64]) [aT,JA],.C j],aM]
def yD:SX:= .Q 708 [jF 3,jF 4,jF 5,jF 6,bh]
def vO:SX:= .Q 707 [jF 3,jF 4,jF 5,jF 6,bh]
def EZ:SX:= zc bj (.O .row [.O .row [bd,cq iw aW 0,cq iw aW 1,cq vO aM 0,cq vO aM 1,cq vO aM 2,cq vO aM 3]])
def Qx:VT:= .J (zs aW (zL iw)) (.N (zp aW) (.J (cX yD aM) (.W 1 [aU,yD,aW,bj]) (.N (zn (cF aU (zl 2003)) (zb (zL EZ) 1000000)) (.W 0 [zL EZ,yD,zi aW,EZ])))) (.W 1 [aU,aR,aW,bj])
def T_tryE:VT:= .J (cX uh aM) (.W 0 [uh,co,co]) (.J (cX bg aZ) (.W 0 [bm,co,co]) (.J (ze aN 3) (.N (zn (zb (zl 4) 24) (.Q 491 [aT])) (.W 0 [.Q 729 [aV,aT,bd,bf,bh],.Q 727 [aV,aT,bd,bf,bh],.Q 728 [aV,aT,bd,bf,bh]])) (.loop ⟨760,[zL co,uh,aM,co],2000,[aN,aO,aS,aV,aT,bg,bd,bf,bh,zL iw,iw,zL iw]⟩ Qx [.J (cX Jj aM) (.W 0 [Jj,co,co]) (.N (zn (zn (zp HG) (eE HG (zL Mq))) (zn (zb (zL EQ) 400) (.Q 431 [EQ]))) (.W 0 [aM,co,.Q 490 [EQ]]))])))
def Gf:SX:= .Q 732 [aN,aO,aS,aV,aT,bg,bd,bf,bh]
def ej:SX:= .Q 731 [aN,aO,aS,aV,aT,bg,bd,bf,bh]
def iD:SX:= .Q 730 [aN,aO,aS,aV,aT,bg,bd,bf,bh]
def uc:SX:= zo (.Q 761 [aM,aT,aN,aO,aS,aV,aT,zL ej,ej,zL iD,iD,zL iD]) 1
def Zb:VT:= .J (zs aU (zL (.Q 730 [aN,aO,aS,aV,aT,bg,bd,bf,bh]))) (.N (zp aU) (.W 0 [zi aU,.O (.mdel [.str,.int .i64,.int .i64]) [aR,.O .row [cq (.Q 730 [aN,aO,aS,aV,aT,bg,bd,bf,bh]) aU 0,cq (.Q 730 [aN,aO,aS,aV,aT,bg,bd,bf,bh]) aU 1,cq (.Q 730 [aN,aO,aS,aV,aT,bg,bd,bf,bh]) aU 2]]])) (.W 1 [aU,aR])
def VB:VT:= .J (zs aU (zL (.Q 731 [aN,aO,aS,aV,aT,bg,bd,bf,bh]))) (.N (zp aU) (.W 0 [zi aU,.O .J [zs (.O (.mfind [.str,.int .i64,.int .i64]) [aR,.O .row [cq (.Q 731 [aN,aO,aS,aV,aT,bg,bd,bf,bh]) aU 0,cq (.Q 731 [aN,aO,aS,aV,aT,bg,bd,bf,bh]) aU 1,cq (.Q 731 [aN,aO,aS,aV,aT,bg,bd,bf,bh]) aU 2]]) (zl 2001),.O .lset [aR,.O (.mfind [.str,.int .i64,.int .i64]) [aR,.O .row [cq (.Q 731 [aN,aO,aS,aV,aT,bg,bd,bf,bh]) aU 0,cq (.Q 731 [aN,aO,aS,aV,aT,bg,bd,bf,bh]) aU 1,cq (.Q 731 [aN,aO,aS,aV,aT,bg,bd,bf,bh]) aU 2]],.O .row [cq (.Q 731 [aN,aO,aS,aV,aT,bg,bd,bf,bh]) aU 0,cq (.Q 731 [aN,aO,aS,aV,aT,bg,bd,bf,bh]) aU 1,cq (.Q 731 [aN,aO,aS,aV,aT,bg,bd,bf,bh]) aU 2,cq (.Q 731 [aN,aO,aS,aV,aT,bg,bd,bf,bh]) aU 3,cq (.Q 731 [aN,aO,aS,aV,aT,bg,bd,bf,bh]) aU 4,cq (.Q 731 [aN,aO,aS,aV,aT,bg,bd,bf,bh]) aU 5,cq (.Q 731 [aN,aO,aS,aV,aT,bg,bd,bf,bh]) aU 6]],zc aR (.O .row [.O .row [cq (.Q 731 [aN,aO,aS,aV,aT,bg,bd,bf,bh]) aU 0,cq (.Q 731 [aN,aO,aS,aV,aT,bg,bd,bf,bh]) aU 1,cq (.Q 731 [aN,aO,aS,aV,aT,bg,bd,bf,bh]) aU 2,cq (.Q 731 [aN,aO,aS,aV,aT,bg,bd,bf,bh]) aU 3,cq (.Q 731 [aN,aO,aS,aV,aT,bg,bd,bf,bh]) aU 4,cq (.Q 731 [aN,aO,aS,aV,aT,bg,bd,bf,bh]) aU 5,cq (.Q 731 [aN,aO,aS,aV,aT,bg,bd,bf,bh]) aU 6]])]])) (.W 1 [aU,aR])
def T_put:VT:= .N (zn (zn (zn (zb (zl 4) 400) (.Q 431 [aT])) (.Q 491 [aT])) (.Q 739 [aN,aT,bd])) (.J (cX Gf aM) (.W 0 [Gf,aT]) (.loop ⟨761,[aM,aT],2000,[aN,aO,aS,aV,aT,zL ej,ej,zL iD,iD,zL iD]⟩ Zb [.loop ⟨762,[aM,uc],2000,[aN,aO,aS,aV,uc,zL ej,ej,zL ej]⟩ VB [.W 0 [aM,zo (.Q 762 [aM,uc,aN,aO,aS,aV,uc,zL ej,ej,zL ej]) 1]]]))
def ex(j:Int):SX:= .O .G [aT,bj,.C j]
def aX:Jn:=[aN,aO,aS,aV,bq,ex 0,ex 1,ex 2,ex 3]
def x730:SX:= .Q 730 aX
def x731:SX:= .Q 731 aX
def x733:SX:= .Q 733 aX
def rx(j:Int):SX:= .O .G [x731,bi,.C j]
def gx(j:Int):SX:= .O .G [x730,bi,.C j]
def tx:SX:= .Q 721 [x733,rx 0,rx 1,rx 2]
def ep8(x:SX):SX:= zn (zn (zb (zL x) 400) (.Q 431 [x])) (.Q 491 [x])
def ds7:SX:= .Q 766 [.cb false,zL co,aM,aM,co,co,aM,zl 4,aT,bg,aN,aO,aS,aV,aN,aO,aS,aV,co]
def ds8:SX:= zo ds7 4
def r7:SX:= .Q 490 [ds8]
theorem Y8(I:Opq)(v0:Nat)(l:U0)(n:Nat):(I.U v0 l).w n=if v0<=n then l.getD (n-v0) (.B false)else I.w n:=rfl
theorem fh(I:Opq)(v0:Nat)(l:U0):(I.U v0 l).f=I.f:=rfl
@[simp]theorem a01(n:Int):(Val.D n).I=n:=rfl
@[simp]def aT0(n:qw):(Val.vs n).S=n:=rfl
@[simp]def a63(n:Bool):(Val.B n).Z=n:=rfl
@[simp]theorem a41(n:U0):(Val.A n).L=n:=rfl
@[simp]def a29(a b:Int):js .lss a b=decide (a<b):=rfl
@[simp]def a37(a b:Int):js .leq a b=decide (a<=b):=rfl
@[simp]def a85(a b:Int):js .gtr a b=decide (b<a):=rfl
@[simp]def d05(a b:Int):js .geq a b=decide (b<=a):=rfl
@[simp]def aa0(a b:Int):js .eql a b=decide (a=b):=rfl
@[simp]def c54(a b:Int):js .neq a b= !decide (a=b):=rfl
@[simp]def d06(a b:qw):lC .eql a b=decide (a=b):=rfl
@[simp]def c55(a b:qw):lC .neq a b= !decide (a=b):=rfl
def W6{I:Opq}{e:SX}{x:VT}{r:Option (Nat×U0)}(h:dB I e=true)(h2:W5 x I=r):W5 (.N e x) I=r:=by rw[W5.eq_3,c9 h,h2]
def cD{I:Opq}{e:SX}{x y:VT}{r:Option (Nat×U0)}(h:dB I e=true)(h2:W5 x I=r):W5 (.J e x y) I=r:=by rw[W5.eq_2,c9 h,h2]
def Y9{I:Opq}{e:SX}{x y:VT}{r:Option (Nat×U0)}(h:dB I e=false)(h2:W5 y I=r):W5 (.J e x y) I=r:=by simp_all[W5.eq_2,b9]
def Y3{I:Opq}{hd:LHd}{b:VT}{ks:abg}{r:Nat×U0}{x:Option (Nat×U0)}(h1:cQ (λvs=>W5 b (I.U hd.v0 vs)) (Y6 I hd.s0)=some r)(h2:I.f hd.id (Y6 I (hd.s0++hd.fv))=cC r)(h3:iP ks r.1 I=x):W5 (.loop hd b ks) I=x:=by simp_all[W5.eq_5,c9]
theorem nL{x:Int}(h: -9223372036854775808<=x)(h2:x<9223372036854775808):IntKind.i64.wrap x=x:=by grind[IntKind.wrap,IntKind.bits,IntKind.signed]
theorem gN{x y:Int}(h: -9223372036854775808<=x+y)(h2:x+y<9223372036854775808):cr .add .i64 x y=x+y:=nL h h2
theorem lN{x y:Int}(h: -9223372036854775808<=x-y)(h2:x-y<9223372036854775808):cr .sub .i64 x y=x-y:=nL h h2
theorem ft{i n:Nat}(h:i<n)(h2:n<=9223372036854775807):cr .add .i64 (i:Int) 1=((i+1:Nat):Int):=by grind[gN]
def ci(r:Val)(k:Nat):Int:=(Y5 r k).I
def cY(k s l g:Int):Bool:=
 if k=1 then decide (1<=s)&&decide (s<=1048576)&&decide (l=0)&&decide (g=0)
 else if k=2 then decide (1<=s)&&decide (s<=1048576)&&decide (1<=l)&&decide (l<=1048576)&&decide (g=0)&&decide (s % l=0)&&decide (s/l<=16)
 else decide (k=3)&&decide (1<=g)&&decide (g<=1048576)&&decide (s=0)&&decide (l=0)
def dW(t:Int):Bool:=decide (-1099511627776<=t)&&decide (t<=1099511627776)
def Y4(k:Int)(key:qw)(t v:Int):Int:=
 if k<1\/2<k then 80
 else if k=1 then(if key=[]\/32<key.length then 60 else if dW t then 0 else 61)
 else(if key=[]/\v=0 then(if dW t then 0 else 61)else 60)
def fO(g:Nat->Int):Nat->Int×Int
 |0=>(0,0)
 |k+1=>let s:=(fO g k).1;let o:=(fO g k).2;let x:=g k;let t:=cr .add .i64 s x
  if 0<=s/\0<=x/\t<0 then(t,cr .add .i64 o 1)else if s<0/\x<0/\0<=t then(t,cr .sub .i64 o 1)else(t,o)
def jo(l:U0):Int×Int:=fO (λk=>ci (cg l k) 0) l.length
def gB(l:U0):Int:=if(jo l).2=0 then 0 else 30
def sF(l:U0):Int:=if(jo l).2=0 then(jo l).1 else 0
def Fg(a b c d:Int):Bool:=decide (a=0)&&(decide (b=0)&&(decide (c=0)&&decide (d=0)))
def ds9(a b c d:Int):Bool:=Fg a b c d||decide (0<a)&&decide (c<=d)&&(decide (1<a)||decide (a=1)&&decide (c=b)&&decide (d=b))
def Fi(a b c d:Int):Int:=if b<d then-1 else if d<b then 1 else if a<c then-1 else if c<a then 1 else 0
def ei9(r:Val):Bool:=decide (50<(Y5 r 1).S.length)
def e77(i n:Int):Int:=if n<=0 then 0 else cr .rem .i64 (cr .add .i64 (cr .rem .i64 i n) n) n
def fI(n d:Int):Int:=n-n % d
def dJ(k s l:Int):Int:=if k=2 then l else s
def jc(st step size:Int)(j:Nat):U0:=[.A [.D (st+j*step),.D (st+j*step+size)]]
def fC(k s l:Int):Nat:=(s/dJ k s l).toNat
def dy(k s l g:Int)(t:Val):U0:=bif cY k s l g&&dW t.I then(if k=3 then [.A [t,.D (t.I+g)]]else cw (jc (fI t.I (dJ k s l)-s+dJ k s l) (dJ k s l) s) (fC k s l))else []
def vB(r:Val):Bool:=Fg (ci r 0) (ci r 1) (ci r 2) (ci r 3)
def jG(l:U0)(c:Nat)(k:Nat):U0:=bif vB (cg l k)then []else [.A [Y5 (cg l k) c]]
def jS(l:U0):Nat->U0
 |0=>[.D 0,.D 0,.D 0,.D 0]
 |k+1=>bif vB (cg l k)then jS l k else
  (if(cw (jG l 0) k).length=0 then [Y5 (cg l k) 0,Y5 (cg l k) 1,.D (min (ci (cg l k) 2) (ci (cg l k) 2)),.D (max (ci (cg l k) 3) (ci (cg l k) 3))]
   else [(jS l k).getD 0 default,(jS l k).getD 1 default,.D (min ((jS l k).getD 2 default).I (ci (cg l k) 2)),.D (max ((jS l k).getD 3 default).I (ci (cg l k) 3))])
def jC(l:U0):U0:=cw (jG l 0) l.length
def jT(l:U0):U0:=cw (jG l 1) l.length
def jE(l:U0):Int:=if gB (jC l)≠0\/gB (jT l)≠0 then 30 else 0
def jR(l:U0):U0:=if gB (jC l)≠0\/gB (jT l)≠0 then [.D 0,.D 0,.D 0,.D 0]else [.D (sF (jC l)),.D (sF (jT l)),(jS l l.length).getD 2 default,(jS l l.length).getD 3 default]
def pR(a b c d v:Val):U0:=[.A [a,b,c,d],.A [.D 1,v,v,v]]
def pz(a b c d v:Val):U0:=if jE (pR a b c d v)≠0 then [a,b,c,d]else jR (pR a b c d v)
def CO(l:U0)(key:qw)(i:Nat):U0:=bif decide ((Y5 (cg l i) 0).S=key)then [.A [Y5 (cg l i) 1,Y5 (cg l i) 2]]else []
def gQ(l:U0)(key:qw):U0:=cw (CO l key) l.length
def spanV(a b:Val):Int:=Fi (ci a 0) (ci a 1) (ci b 0) (ci b 1)
def Y7(r:Val):Int×Int:=(ci r 0,ci r 1)
def ja(l:U0)(p:Val):Nat:=l.findIdx λr=>gV [.str,.int .i64,.int .i64] r p
def kY(l:U0)(p:Val):Bool:=decide (ja l p<l.length)
def rM(l:U0)(p:Val)(j:Nat):Val:=bif kY l p then Y5 (cg l (ja l p)) j else .D 0
def Mb(l:U0)(p:Val):U0:=[rM l p 3,rM l p 4,rM l p 5,rM l p 6]
def dP6(s e:Int):Bool:= !((!((decide (0<=e))==(decide (0<=s))))&&(!((decide (0<=cr .sub .i64 e s))==(decide (0<=e)))))
def nR(g:Int)(l:U0)(i:Nat):Bool:=decide (ci (cg l i) 1<=ci (cg l i) 0)||(dP6 (ci (cg l i) 0) (ci (cg l i) 1)&&decide (cr .sub .i64 (ci (cg l i) 1) (ci (cg l i) 0)<g))||(decide (0<i)&&decide (ci (cg l i) 0<ci (cg l (i-1)) 1))
def rW(t o:Int)(r:Val):Bool:=decide (ci r 0<o)&&decide (t<ci r 1)
def ep(r:Val):Val:= .A [Y5 r 0,Y5 r 1]
def CC(l:U0)(t o:Int)(i:Nat):U0:=bif rW t o (cg l i)then [ep (cg l i)]else []
def zK(l:U0)(t o:Int)(i:Nat):U0:=bif rW t o (cg l i)then []else [ep (cg l i)]
def mu(l:U0)(t o:Val):Nat->Val×Val
 |0=>(t,o)
 |i+1=>bif rW t.I o.I (cg l i)then(.D (min (mu l t o i).1.I (ci (cg l i) 0)),.D (max (mu l t o i).2.I (ci (cg l i) 1)))else mu l t o i
def Aq(l:U0)(t o:Int):U0:=cw (CC l t o) l.length
def Qy(l:U0)(t o:Int):U0:=cw (zK l t o) l.length
def oN(l:U0)(x:Int):Nat->Nat->Nat->Nat
 |0,i,_=>i
 |n+1,i,j=>if i<j then(if ci (cg l ((i+j)/2)) 0<x then oN l x n ((i+j)/2+1) j else oN l x n i ((i+j)/2))else i
def FO(l:U0)(j:Nat)(a b:Val):U0:=(l.take j).map ep++[.A [a,b]]++(l.drop j).map ep
def jD(g t:Int)(l:U0):Bool:=decide (1<=g)&&decide (g<=1048576)&&dW t&& !(List.range l.length).any (nR g l)
def qi(g t:Int):Val:= .D (cr .add .i64 t g)
def ji(g t:Val)(l:U0):Val×Val:=mu l t (qi g.I t.I) l.length
def jk(g t:Val)(l:U0):U0:=Qy l t.I (qi g.I t.I).I
def rI(g t:Val)(l:U0):U0:=Aq l t.I (qi g.I t.I).I
def pv(g t:Val)(l:U0):Nat:=oN (jk g t l) (ji g t l).1.I (jk g t l).length 0 (jk g t l).length
def du(m:U0)(key:Val):U0:=gn spanV (gQ m key.S)
def mi(g:Val)(m:U0)(key t:Val):U0:=bif jD g.I t.I (du m key)then rI g t (du m key)else []
def mj(g:Val)(m:U0)(key t:Val):U0:=bif jD g.I t.I (du m key)then [(ji g t (du m key)).1,(ji g t (du m key)).2]else [.D 0,.D 0]
def fJ(key r:Val):Val:= .A [key,Y5 r 0,Y5 r 1]
def zM(key ns ne r:Val):Bool:=decide ((Y5 r 0).S=key.S)&&(decide ((Y5 r 1).I=ns.I)&&decide ((Y5 r 2).I=ne.I))
def lv(key ns ne r:Val):U0:=bif zM key ns ne r then []else [fF r]
def jJ(P:U0)(key ns ne:Val):U0:=cw (λi=>lv key ns ne (cg P i)) P.length
def mb(m:U0)(r:Val):Val:= .A (Mb m (fF r))
def mn(m P:U0)(v:Val):U0:= .A [.D 1,v,v,v]::P.map (mb m)
def jH(g:Val)(m:U0)(key t:Val):U0:=(mi g m key t).map (fJ key)
def tR(g:Val)(m:U0)(key t v:Val):Int:=jE (mn m (jH g m key t) v)
def pF(g:Val)(m:U0)(key t v:Val):U0:=if tR g m key t v≠0 then []else jJ (jH g m key t) key ((mj g m key t).getD 0 default) ((mj g m key t).getD 1 default)
def pa(g:Val)(m:U0)(key t v:Val):U0:=if tR g m key t v≠0 then []else [.A [key,(mj g m key t).getD 0 default,(mj g m key t).getD 1 default,(jR (mn m (jH g m key t) v)).getD 0 default,(jR (mn m (jH g m key t) v)).getD 1 default,(jR (mn m (jH g m key t) v)).getD 2 default,(jR (mn m (jH g m key t) v)).getD 3 default]]
def tr(m:U0)(key r:Val)(j:Nat):Val:=rM m (fJ key r) j
def lD(m:U0)(key v r:Val):Int:=jE (pR (tr m key r 3) (tr m key r 4) (tr m key r 5) (tr m key r 6) v)
def yF(m:U0)(key v r:Val):U0:=pz (tr m key r 3) (tr m key r 4) (tr m key r 5) (tr m key r 6) v
def pu(m:U0)(key v r:Val):Val:= .A [key,Y5 r 0,Y5 r 1,(yF m key v r).getD 0 default,(yF m key v r).getD 1 default,(yF m key v r).getD 2 default,(yF m key v r).getD 3 default]
def ir(m S:U0)(key v:Val):Nat:=((List.range S.length).find? λi=>decide (lD m key v (cg S i)≠0)).getD S.length
def gF(m S:U0)(key v:Val)(k:Nat):U0:=cw (λi=>[pu m key v (cg S i)]) k
def lS(m S:U0)(key v e0:Val):Val:=if ir m S key v<S.length then .D (lD m key v (cg S (ir m S key v)))else if S.length=0 then e0 else .D 0
def dD(w:U0):Int:=if Y4 (ce w 5).I (ce w 6).S (ce w 7).I (ce w 8).I≠0 then Y4 (ce w 5).I (ce w 6).S (ce w 7).I (ce w 8).I else if(ce w 5).I≠1 then 2 else if(ce w 0).I=3 then tR (ce w 3) (ce w 4).L (ce w 6) (ce w 7) (ce w 8)else
 (lS (ce w 4).L (dy (ce w 0).I (ce w 1).I (ce w 2).I (ce w 3).I (ce w 7)) (ce w 6) (ce w 8) (.D 0)).I
def eP(w:U0):U0:=if Y4 (ce w 5).I (ce w 6).S (ce w 7).I (ce w 8).I≠0\/(ce w 5).I≠1 then []else if(ce w 0).I=3 then pF (ce w 3) (ce w 4).L (ce w 6) (ce w 7) (ce w 8)else []
def eT(X:Nat->U0->Val)(w:U0):Val:=if Y4 (ce w 5).I (ce w 6).S (ce w 7).I (ce w 8).I≠0\/(ce w 5).I≠1 then .A []else if(ce w 0).I=3 then .A (pa (ce w 3) (ce w 4).L (ce w 6) (ce w 7) (ce w 8))else
 if dD w≠0 then .A []else X 490 [.A (gF (ce w 4).L (dy (ce w 0).I (ce w 1).I (ce w 2).I (ce w 3).I (ce w 7)) (ce w 6) (ce w 8) (dy (ce w 0).I (ce w 1).I (ce w 2).I (ce w 3).I (ce w 7)).length)]
def QV:Val->Bool
 | .vs _=>true
 |_=>false
def fY(m:Val)(P:U0):Nat->Val
 |0=>m
 |i+1=> .A ((fY m P i).L.eraseIdx (ja (fY m P i).L (fF (cg P i))))
def fp(m:Val)(R:U0):Nat->Val
 |0=>m
 |i+1=>bif kY (fp m R i).L (fF (cg R i))then .A ((fp m R i).L.set (ja (fp m R i).L (fF (cg R i))) (cO (cg R i)))else .A ((fp m R i).L++[cO (cg R i)])
def fx(X:Nat->U0->Val)(w:U0):Val:=if dD w≠0 then ce w 4 else fp (fY (ce w 4) (eP w) (eP w).length) (eT X w).L (eT X w).L.length
def wC(r:Val):Val:= .A [Y5 r 0,Y5 r 1,Y5 r 2,Y5 r 3]
def BI(a b c d m r:Val):U0:=[a,b,c,d,m,Y5 r 0,Y5 r 1,Y5 r 2,Y5 r 3]
def Mp(X:Nat->U0->Val)(a b c d:Val)(U:U0):Nat->Val
 |0=> .A []
 |i+1=>fx X (BI a b c d (Mp X a b c d U i) (cg U i))
def Qd(X:Nat->U0->Val)(a b c d:Val)(U:U0)(i:Nat):Int:=dD (BI a b c d (Mp X a b c d U i) (cg U i))
def zY(X:Nat->U0->Val)(a b c d:Val)(U:U0):Nat:=((List.range U.length).find? λi=>decide (Qd X a b c d U i≠0)).getD U.length
def ofR(X:Nat->U0->Val)(a b c d:Val)(U:U0):Nat×U0:=if zY X a b c d U+1<U.length then(1,[.D (Qd X a b c d U (zY X a b c d U)),.D (Qd X a b c d U (zY X a b c d U)),.D (zY X a b c d U+1:Nat),Mp X a b c d U (zY X a b c d U+1)])
 else(0,[.D 0,if zY X a b c d U<U.length then .D (Qd X a b c d U (zY X a b c d U))else .D 0,.D U.length,Mp X a b c d U U.length])
def lJ:Val->Bool
 | .D _=>true
 |_=>false
def Yt:Val->Bool
 | .A [.D _,.vs _,.D _,.D v]=>decide (-9223372036854775808<=v)&&decide (v<9223372036854775808)
 |_=>false
def LU:Val->Bool
 | .A l=>l.all Yt
 |_=>false
def FT(X:Nat->U0->Val):Nat->U0->Val:=λi a=>match i with
 |700=> .B (cY (ce a 0).I (ce a 1).I (ce a 2).I (ce a 3).I)
 |701=> .D (Y4 (ce a 0).I (ce a 1).S (ce a 2).I (ce a 3).I)
 |702=> .D (sF (ce a 0).L)
 |703=> .D (gB (ce a 0).L)
 |704=> .A (dy (ce a 0).I (ce a 1).I (ce a 2).I (ce a 3).I (ce a 4))
 |753=>cC (0,[.D (fC (ce a 3).I (ce a 4).I (ce a 5).I),.D ((ce a 1).I+fC (ce a 3).I (ce a 4).I (ce a 5).I*dJ (ce a 3).I (ce a 4).I (ce a 5).I),.A (cw (jc (ce a 1).I (dJ (ce a 3).I (ce a 4).I (ce a 5).I) (ce a 4).I) (fC (ce a 3).I (ce a 4).I (ce a 5).I))])
 |705=> .A [.A (jR (ce a 0).L)]
 |706=> .D (jE (ce a 0).L)
 |752=>cC (0,[.D (jC (ce a 11).L).length,.D (jT (ce a 11).L).length,.D (ce a 11).L.length]++jS (ce a 11).L (ce a 11).L.length++[.A (jC (ce a 11).L),.A (jT (ce a 11).L)])
 |707=> .A [.A (pz (ce a 0) (ce a 1) (ce a 2) (ce a 3) (ce a 4))]
 |708=> .D (jE (pR (ce a 0) (ce a 1) (ce a 2) (ce a 3) (ce a 4)))
 |715=> .A (gn spanV (ce a 0).L)
 |716=> .B (decide ((ce a 0).L.map Y7).Nodup)
 |721=> .A [.A (Mb (ce a 0).L (.A [ce a 1,ce a 2,ce a 3]))]
 |722=> .B (kY (ce a 0).L (.A [ce a 1,ce a 2,ce a 3]))
 |723=> .A (gn spanV (gQ (ce a 0).L (ce a 1).S))
 |750=>cC (0,[.D (ce a 2).L.length,.A ((ce a 2).L.map cO)])
 |757=>cC (0,[.D (gQ (ce a 3).L (ce a 2).S).length,.A (gQ (ce a 3).L (ce a 2).S)])
 |711=> .B (!(List.range (ce a 1).L.length).any (nR (ce a 0).I (ce a 1).L))
 |754=>cC (gg (.B false) (λk=>[.B false,.D k]) (nR (ce a 2).I (ce a 5).L) (ce a 5).L.length)
 |713=> .B (decide ((ce a 1).I=((ce a 0).L.length:Int))&&decide (0<=(ce a 2).I)&&decide ((ce a 2).I<=((ce a 0).L.length:Int))&&decide ((ce a 0).L.length<=24))
 |714=> .A (FO (ce a 0).L (ce a 2).I.toNat (ce a 3) (ce a 4))
 |717=> .A (bif jD (ce a 0).I (ce a 1).I (ce a 2).L then rI (ce a 0) (ce a 1) (ce a 2).L else [])
 |718=> .A [.A (bif jD (ce a 0).I (ce a 1).I (ce a 2).L then [(ji (ce a 0) (ce a 1) (ce a 2).L).1,(ji (ce a 0) (ce a 1) (ce a 2).L).2]else [.D 0,.D 0])]
 |719=> .A (bif jD (ce a 0).I (ce a 1).I (ce a 2).L then FO (jk (ce a 0) (ce a 1) (ce a 2).L) (pv (ce a 0) (ce a 1) (ce a 2).L) (ji (ce a 0) (ce a 1) (ce a 2).L).1 (ji (ce a 0) (ce a 1) (ce a 2).L).2 else [])
 |720=> .D (bif jD (ce a 0).I (ce a 1).I (ce a 2).L then 0 else 2)
 |755=>cC (0,[.D (Aq (ce a 13).L (ce a 3).I (ce a 4).I).length,.D (Qy (ce a 13).L (ce a 3).I (ce a 4).I).length,.D (ce a 13).L.length,(mu (ce a 13).L (ce a 3) (ce a 4) (ce a 13).L.length).1,(mu (ce a 13).L (ce a 3) (ce a 4) (ce a 13).L.length).2,.A (Aq (ce a 13).L (ce a 3).I (ce a 4).I),.A (Qy (ce a 13).L (ce a 3).I (ce a 4).I)])
 |756=>cC (0,[.D (oN (ce a 3).L (ce a 4).I (ce a 3).L.length 0 (ce a 3).L.length),.D (oN (ce a 3).L (ce a 4).I (ce a 3).L.length 0 (ce a 3).L.length)])
 |724=> .A ((mi (ce a 0) (ce a 1).L (ce a 2) (ce a 3)).map (fJ (ce a 2)))
 |725=> .A [.A (ce a 2::mj (ce a 0) (ce a 1).L (ce a 2) (ce a 3))]
 |758=>cC (0,[.D (ce a 10).L.length,.D (ce a 10).L.length,.A ((ce a 10).L.map (fJ (ce a 4)))])
 |727=> .A (pF (ce a 0) (ce a 1).L (ce a 2) (ce a 3) (ce a 4))
 |728=> .A (pa (ce a 0) (ce a 1).L (ce a 2) (ce a 3) (ce a 4))
 |729=> .D (tR (ce a 0) (ce a 1).L (ce a 2) (ce a 3) (ce a 4))
 |759=>cC (0,[.D (jJ (ce a 14).L (ce a 10) (ce a 11) (ce a 12)).length,.D ((ce a 4).L++(ce a 14).L.map (mb (ce a 9).L)).length,.D (ce a 14).L.length,.A (jJ (ce a 14).L (ce a 10) (ce a 11) (ce a 12)),.A ((ce a 4).L++(ce a 14).L.map (mb (ce a 9).L))])
 |730=> .A (eP a)
 |731=>eT X a
 |732=> .D (dD a)
 |760=>cC (0,[.D (ir (ce a 8).L (ce a 14).L (ce a 10) (ce a 12)),lS (ce a 8).L (ce a 14).L (ce a 10) (ce a 12) (ce a 1),.D (ir (ce a 8).L (ce a 14).L (ce a 10) (ce a 12)),.A (gF (ce a 8).L (ce a 14).L (ce a 10) (ce a 12) (ir (ce a 8).L (ce a 14).L (ce a 10) (ce a 12)))])
 |739=> .B ((!decide ((ce a 0).I=3)||decide ((ce a 1).L.length<=24))&&QV (ce a 2))
 |733=>fx X a
 |761=>cC (0,[.D (ce a 10).L.length,fY (ce a 1) (ce a 10).L (ce a 10).L.length])
 |762=>cC (0,[.D (ce a 8).L.length,fp (ce a 1) (ce a 8).L (ce a 8).L.length])
 |709=> .D (fI (ce a 0).I (ce a 1).I)
 |712=> .D (Fi (ce a 0).I (ce a 1).I (ce a 2).I (ce a 3).I)
 |734=> .B (!(List.range (min (ce a 0).L.length 100)).any (λi=>ei9 (cg (ce a 0).L i))&&decide (((ce a 0).L.length:Int)<=(ce a 1).I))
 |765=>cC (gg (.B false) (λk=>[.B false,.D k]) (λi=>ei9 (cg (ce a 4).L i)) (min (ce a 4).L.length 100))
 |735=> .B (ds9 (ce a 0).I (ce a 1).I (ce a 2).I (ce a 3).I)
 |736=> .B (Fg (ce a 0).I (ce a 1).I (ce a 2).I (ce a 3).I)
 |737=> .D (e77 (ce a 0).I (ce a 1).I)
 |738=> .B (lJ (ce a 0)&&(lJ (ce a 1)&&(lJ (ce a 2)&&(lJ (ce a 3)&&(lJ (ce a 5)&&LU (ce a 4))))))
 |751=>cC (0,[.D (ce a 5).L.length,.D (jo (ce a 5).L).1,.D (jo (ce a 5).L).2])
 |_=>X i a
section
variable{X:Nat->U0->Val}{I:Opq}(hf: ∀i a,I.f i a=FT X i a)
include hf
def t_numSum(hn:(I.w 0).L.length<=1000000):W5 T_numSum I=some (0,[FT X 702 [I.w 0],FT X 703 [I.w 0]]):=by
 have e0:bZ I yP=cC (0,[.D (I.w 0).L.length,.D (jo (I.w 0).L).1,.D (jo (I.w 0).L).2]):=by show I.f 751 [.D 0,.D 0,.D 0,.D 0,.D (I.w 0).L.length,I.w 0,.D (I.w 0).L.length]=_;rw[hf];rfl
 unfold T_numSum;refine Y3 (r:=(0,[.D (I.w 0).L.length,.D (jo (I.w 0).L).1,.D (jo (I.w 0).L).2])) ?_ e0 ?_;show cQ _ [.D ((0:Nat):Int),.D 0,.D 0]=_;refine fD (st:=λk=>[.D k,.D (fO (λk=>ci (cg (I.w 0).L k) 0) k).1,.D (fO (λk=>ci (cg (I.w 0).L k) 0) k).2]) (n:=(I.w 0).L.length) (λk hk=> ?_) ?_
 have p1:(k:Int)<((I.w 0).L.length:Int):=by omega
 have p2:(0:Int)<=(k:Int):=by omega
 have p3:=ft hk (by omega);have p4:(ck (I.w 0).L (k:Int) (0:Int)).I=ci (cg (I.w 0).L k) 0:=rfl;unfold Wz;simp only[fO];generalize (fO (λk=>ci (cg (I.w 0).L k) 0) k).1=s;generalize (fO (λk=>ci (cg (I.w 0).L k) 0) k).2=o;simp[W5,Y6,bZ,dB,cB,Y8,p1,p2,p3,p4];grind;unfold Wz;simp[W5,Y6,bZ,dB,cB,Y8,jo]
 show W5 (.J _ _ _) I=_;have e1: ∀k:Int,(ck (bZ I yP).L 1 k)=Y5 (.A [.D (I.w 0).L.length,.D (jo (I.w 0).L).1,.D (jo (I.w 0).L).2]) k.toNat:=λk=>by rw[e0];rfl
 by_cases h:(jo (I.w 0).L).2=0;refine Y9 ?_ ?_;show(!decide ((ck (bZ I yP).L 1 2).I=0))=false;rw[e1];show(!decide ((jo (I.w 0).L).2=0))=false;grind;show some (0,[ck (bZ I yP).L 1 1,Val.D 0])=some (0,[Val.D (sF (I.w 0).L),.D (gB (I.w 0).L)]);rw[e1,sF,gB,c9 h,c9 h];rfl;refine cD ?_ ?_;show(!decide ((ck (bZ I yP).L 1 2).I=0))=true;rw[e1];show(!decide ((jo (I.w 0).L).2=0))=true;grind;show some (0,[Val.D 0,Val.D 30])=some (0,[Val.D (sF (I.w 0).L),.D (gB (I.w 0).L)]);simp_all[sF,gB,b9]
omit hf in
def t_spanP:W5 T_spanP I=some (0,[FT X 712 [I.w 0,I.w 1,I.w 2,I.w 3]]):=by show W5 T_spanP I=some (0,[Val.D (Fi (I.w 0).I (I.w 1).I (I.w 2).I (I.w 3).I)]);unfold T_spanP Pt KH Fi;simp[W5,Y6,bZ,dB,cB,a29,a85,a63,a01,decide_eq_true_eq];grind
omit hf in
def t_wRight:W5 T_wRight I=some (0,[FT X 700 [I.w 0,I.w 1,I.w 2,I.w 3]]):=by
 show W5 T_wRight I=some (0,[Val.B (cY (I.w 0).I (I.w 1).I (I.w 2).I (I.w 3).I)]);unfold T_wRight YY WK SI YM RJ VE Wl cY;generalize ha:(I.w 0).I=a;generalize hb:(I.w 1).I=b;generalize hc:(I.w 2).I=c;generalize hd:(I.w 3).I=d;by_cases k1:a=1;by_cases q1:b<1;simp[W5,Y6,bZ,dB,cB,ha,hb,hc,hd,k1,q1,M4.2 q1];by_cases q2:1048576<b;simp[W5,Y6,bZ,dB,cB,ha,hb,hc,hd,k1,q1,q2,M4.2 q2];simp[W5,Y6,bZ,dB,cB,ha,hb,hc,hd,k1,q1,q2,show 1<=b by omega,show b<=1048576 by omega];by_cases k2:a=2;by_cases q1:b<1;simp[W5,Y6,bZ,dB,cB,ha,hb,hc,hd,k1,k2,q1];omega;by_cases q2:1048576<b;simp[W5,Y6,bZ,dB,cB,ha,hb,hc,hd,k1,k2,q1,q2];omega;by_cases q3:c<1;simp[W5,Y6,bZ,dB,cB,ha,hb,hc,hd,k1,k2,q1,q2,q3];omega;by_cases q4:1048576<c;simp[W5,Y6,bZ,dB,cB,ha,hb,hc,hd,k1,k2,q1,q2,q3,q4];omega
 have m1:cr .rem .i64 b c=b % c:=by exact S6 (by omega)
 have m2:cr .quo .i64 b c=b/c:=by show IntKind.i64.wrap (b.tdiv c)=b/c;have h1:0<=b/c:=S8 (by omega) (by omega);have h2:b/c<=b:=P4 _ (by omega);grind[nL]
 have c0: ¬c=0:=by omega
 have e1:1<=b:=by omega
 have e2:b<=1048576:=by omega
 have e3:1<=c:=by omega
 have e4:c<=1048576:=by omega
 by_cases q5:d=0<;>by_cases q6:b % c=0<;>simp[W5,Y6,bZ,dB,cB,ha,hb,hc,hd,k2,q1,q2,q3,q4,q5,q6,m1,m2,c0,e1,e2,e3,e4];by_cases k3:a=3;by_cases q1:d<1;simp[W5,Y6,bZ,dB,cB,ha,hb,hc,hd,k1,k2,k3,q1,M4.2 q1];by_cases q2:1048576<d;simp[W5,Y6,bZ,dB,cB,ha,hb,hc,hd,k1,k2,k3,q1,q2,M4.2 q2];simp[W5,Y6,bZ,dB,cB,ha,hb,hc,hd,k1,k2,k3,q1,q2,show 1<=d by omega,show d<=1048576 by omega];simp_all[W5,Y6,bZ,dB,cB]
omit hf in
def t_evRight0(h:(I.w 0).I<1\/2<(I.w 0).I):W5 T_evRight0 I=some (0,[FT X 701 [I.w 0,I.w 1,I.w 2,I.w 3]]):=by show W5 T_evRight0 I=some (0,[Val.D (Y4 (I.w 0).I (I.w 1).S (I.w 2).I (I.w 3).I)]);unfold T_evRight0 Y4;rw[c9 h];by_cases h1:(I.w 0).I<1;exact cD (i6 h1) rfl;exact Y9 (j7 h1) (cD (i6 (show(2:Int)<(I.w 0).I by omega)) rfl)
omit hf in
def t_evRight1(h:(I.w 0).I=1):W5 T_evRight1 I=some (0,[FT X 701 [I.w 0,I.w 1,I.w 2,I.w 3]]):=by
 show W5 T_evRight1 I=some (0,[Val.D (Y4 (I.w 0).I (I.w 1).S (I.w 2).I (I.w 3).I)]);rw[h];unfold T_evRight1 Y4 dW;generalize hk:(I.w 1).S=k;generalize ht:(I.w 2).I=t;by_cases k0:k=[];simp_all[W5,Y6,bZ,dB,cB];by_cases k1:32<k.length
 have: ¬((k.length:Int)<=32):=by omega
 simp_all[W5,Y6,bZ,dB,cB]
 have:(k.length:Int)<=32:=by omega
 by_cases t1:t< -1099511627776<;>by_cases t2:1099511627776<t<;>simp[W5,Y6,bZ,dB,cB,hk,ht,k0,k1,this,t1,t2,M4.2,E8.1]<;>omega
omit hf in
def t_evRight2(h:(I.w 0).I=2):W5 T_evRight2 I=some (0,[FT X 701 [I.w 0,I.w 1,I.w 2,I.w 3]]):=by show W5 T_evRight2 I=some (0,[Val.D (Y4 (I.w 0).I (I.w 1).S (I.w 2).I (I.w 3).I)]);rw[h];unfold T_evRight2 Y4 dW;generalize hk:(I.w 1).S=k;generalize ht:(I.w 2).I=t;generalize hv:(I.w 3).I=v;by_cases k0:k=[]<;>by_cases k1:v=0<;>simp[W5,Y6,bZ,dB,cB,hk,ht,hv,k0,k1];grind
omit hf in
def t_down(h1:1<=(I.w 1).I)(h2:(I.w 1).I<=1048576)(h3: -1099511627776<=(I.w 0).I)(h4:(I.w 0).I<=1099511627776):W5 T_down I=some (0,[FT X 709 [I.w 0,I.w 1],.D 0]):=by
 show W5 T_down I=some (0,[Val.D (fI (I.w 0).I (I.w 1).I),Val.D 0]);unfold T_down KS Ow Tl FP Kk fI;generalize ha:(I.w 0).I=n at h3 h4;generalize hb:(I.w 1).I=d at h1 h2;have q0:=I3 n (show d≠0 by omega);have q1:=I4 n (show 0<d by omega);have d0: ¬d<=0:=by omega
 have d1: ¬d=0:=by omega
 have hr:(cr .rem .i64 n d<0/\cr .add .i64 (cr .rem .i64 n d) d=n % d)\/(0<=cr .rem .i64 n d/\cr .rem .i64 n d=n % d):=by
  show(n.tmod d<0/\IntKind.i64.wrap (n.tmod d+d)=n % d)\/(0<=n.tmod d/\n.tmod d=n % d);have t1:n.tmod d=n-d*n.tdiv d:=Int.tmod_def n d;have t2:=P5 n d;by_cases hn:0<=n;grind
  have t3:n.tmod d= -((-n) % d):=by rw[show n= -(-n) by omega,Int.neg_tmod,S6 (by omega)];simp
  have t4:(-n) % d=if n % d=0 then 0 else d-n % d:=by grind[Int.neg_emod,Int.dvd_iff_emod_eq_zero]
  by_cases z:n % d=0;omega;left;rw[t3,t4,b9 z];grind[nL]
 have hs:cr .sub .i64 n (n % d)=n-n % d:=lN (by omega) (by omega);rcases hr with⟨r1,r2⟩|⟨r1,r2⟩
 by_cases z:0<=n;simp_all[W5,Y6,bZ,dB,cB]
 have: ¬0<=n-n % d:=by omega
 simp[W5,Y6,bZ,dB,cB,ha,hb,d0,d1,r1,r2,hs,q0,z,this];omega
 have r3: ¬cr .rem .i64 n d<0:=by omega
 rw[r2]at r3;by_cases z:0<=n;simp[W5,Y6,bZ,dB,cB,ha,hb,d0,d1,r2,r3,hs,q0,z]
 have: ¬0<=n-n % d:=by omega
 simp[W5,Y6,bZ,dB,cB,ha,hb,d0,d1,r2,r3,hs,q0,z,this];omega
