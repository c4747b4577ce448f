import Derived.Test.YtgeohopencabkaaGreatE1
import Derived.Test.YtgeohopencabkaaGreatEM1
set_option linter.all false
noncomputable section
namespace Go.Ev.S9
open Go Go.Ev
def Sp:SX:= ze aN 1
def Vn:SX:= zs aO aZ
def UI:SX:= zt aO 1048576
def RU:SX:= cG aO aO
def OE:SX:= ze aT 0
def Oj:SX:= ze aU 0
def PA:SX:= ze aN 3
def T_wRight:VT:= .J (Sp) (.J (Vn) (.W 0 [.cb false]) (.J (UI) (.W 0 [.cb false]) (.W 0 [zn Sp (zn RU (zn OE Oj))]))) (.J (ze aN 2) (.J (Vn) (.W 0 [.cb false]) (.J (UI) (.W 0 [.cb false]) (.J (zs aT aZ) (.W 0 [.cb false]) (.J (zt aT 1048576) (.W 0 [.cb false]) (.J (zn RU (zn (cG aT aT) Oj)) (.N (ew aT aM) (.J (ze (.O (.ar .rem .i64) [aO,aT]) 0) (.W 0 [zb (.O (.ar .quo .i64) [aO,aT]) 16]) (.W 0 [.cb false]))) (.W 0 [.cb false])))))) (.J (PA) (.J (zs aU aZ) (.W 0 [.cb false]) (.J (zt aU 1048576) (.W 0 [.cb false]) (.W 0 [zn PA (zn (ze aO 0) (zn OE (cG aU aU)))]))) (.W 0 [.cb false])))
def T_evRight0:VT:= .J (zs aN aZ) (.W 0 [.C 80]) (.J (zt aN 2) (.W 0 [.C 80]) (.X))
def T_evRight1:VT:= .J (.O (.scmp .neq) [aO,.cs []]) (.J (cY (zb (.O .slen [aO]) 32)) (.W 0 [.C 60]) (.J (zs aT (.C (-1099511627776))) (.W 0 [bS]) (.J (zt aT 1099511627776) (.W 0 [bS]) (.W 0 [aM])))) (.W 0 [.C 60])
def T_evRight2:VT:= .J (cY (zn (ze bC 2) (zn (.O (.scmp .eql) [aO,.cs []]) (zn (cG aT aT) (ze aU 0))))) (.W 0 [.C 60]) (.J (zs aT (.C (-1099511627776))) (.W 0 [bS]) (.J (zt aT 1099511627776) (.W 0 [bS]) (.W 0 [aM])))
def yF:SX:= .Q 751 [aM,aM,aM,aM,zl 0,aN,zl 0]
def Ts:VT:= .J (zs aV (zl 0)) (.N (zp aV) (.J (fT aR aM) (.J (fT (zg 0 2000 0) aM) (.J (zs (za aR (zg 0 2000 0)) aM) (.W 0 [zi aV,za aR (zg 0 2000 0),zi aW]) (.W 0 [zi aV,za aR (zg 0 2000 0),aW])) (.W 0 [zi aV,za aR (zg 0 2000 0),aW])) (.J (zs (zg 0 2000 0) aM) (.J (fT (za aR (zg 0 2000 0)) aM) (.W 0 [zi aV,za aR (zg 0 2000 0),zm aW aZ]) (.W 0 [zi aV,za aR (zg 0 2000 0),aW])) (.W 0 [zi aV,za aR (zg 0 2000 0),aW])))) (.W 1 [aV,aR,aW])
def T_numSum:VT:= .loop ⟨751,[aM,aM,aM],2000,[aM,zl 0,aN,zl 0]⟩ Ts [.J (ew (zo yF 2) aM) (.W 0 [aM,.C 30]) (.W 0 [zo yF 1,aM])]
def FN:SX:= .O (.ar .rem .i64) [aN,aO]
def Fq:SX:= fT aN aM
def SQ:SX:= za FN aO
def Mp:SX:= zm aN SQ
def JI:SX:= zm aN FN
def T_down:VT:= .J (zb aO 0) (.W 0 [aM,bC]) (.N (ew aO aM) (.J (zs FN aM) (.J (cY (.O .beq [Fq,fT SQ aM])) (.J (cY (.O .beq [fT Mp aM,Fq])) (.W 0 [aM,.C 30]) (.W 0 [Mp,aM])) (.W 0 [Mp,aM])) (.J (cY (.O .beq [Fq,fT FN aM])) (.J (cY (.O .beq [fT JI aM,Fq])) (.W 0 [aM,.C 30]) (.W 0 [JI,aM])) (.W 0 [JI,aM]))))
def Ci:VT:= .J (zs aR (zl 1)) (.N (zp aR) (.J (cY (.O .beq [fT (zg 1 2001 1) aM,fT (zg 1 2001 0) aM])) (.J (cY (.O .beq [fT (zm (zg 1 2001 1) (zg 1 2001 0)) aM,fT (zg 1 2001 1) aM])) (.J (fT (zg 1 2001 0) (zg 1 2001 1)) (.W 2 [.cb false,aR]) (.J (zt aR 0) (.N (zn (zp (zm aR aZ)) (zs (zm aR aZ) (zl 1))) (.J (dO (cr aO (zm aR aZ) 1) (zg 1 2001 0)) (.W 2 [.cb false,aR]) (.W 0 [aV,zi aR]))) (.W 0 [aV,zi aR]))) (.J (fT (zg 1 2001 0) (zg 1 2001 1)) (.W 2 [.cb false,aR]) (.J (zs (zm (zg 1 2001 1) (zg 1 2001 0)) aN) (.W 2 [.cb false,aR]) (.J (zt aR 0) (.N (zn (zp (zm aR aZ)) (zs (zm aR aZ) (zl 1))) (.J (dO (cr aO (zm aR aZ) 1) (zg 1 2001 0)) (.W 2 [.cb false,aR]) (.W 0 [aV,zi aR]))) (.W 0 [aV,zi aR]))))) (.J (fT (zg 1 2001 0) (zg 1 2001 1)) (.W 2 [.cb false,aR]) (.J (zs (zm (zg 1 2001 1) (zg 1 2001 0)) aN) (.W 2 [.cb false,aR]) (.J (zt aR 0) (.N (zn (zp (zm aR aZ)) (zs (zm aR aZ) (zl 1))) (.J (dO (cr aO (zm aR aZ) 1) (zg 1 2001 0)) (.W 2 [.cb false,aR]) (.W 0 [aV,zi aR]))) (.W 0 [aV,zi aR])))))) (.W 1 [aV,aR])
def T_sRight:VT:= .loop ⟨754,[.cb false,aM],2000,[aN,aM,zl 1,aO,aM,zl 1,aO,zl 1]⟩ Ci [.W 0 [.cb true],.W 0 [zo (.Q 754 [.cb false,aM,aN,aM,zl 1,aO,aM,zl 1,aO,zl 1]) 0]]
def My:SX:= zs aN aT
def Jw:SX:= dO aN aT
def T_spanP:VT:= .J (zs aO aU) (.J (My) (.W 0 [.C (-1)]) (.J (Jw) (.W 0 [.C (-1)]) (.W 0 [.C (-1)]))) (.J (dO aO aU) (.J (My) (.W 0 [aZ]) (.J (Jw) (.W 0 [aZ]) (.W 0 [aZ]))) (.J (My) (.W 0 [.C (-1)]) (.J (Jw) (.W 0 [aZ]) (.W 0 [aM]))))
def EI:SX:= za (zm (.Q 709 [aS,aT]) aO) aT
def FP:SX:= .Q 753 [zL ck,EI,ck,aN,aO,aT,aU,.Q 709 [aS,aT]]
def GI:SX:= zo FP 2
def HE:SX:= za (zm (.Q 709 [aS,aO]) aO) aO
def HT:SX:= .Q 753 [zL ck,HE,ck,aN,aO,aT,aU,.Q 709 [aS,aO]]
def Hq:SX:= zo HT 2
def OQ:VT:= .J (fW aR (.Q 709 [aS,aT])) (.N (zn (cG aV (zl 2002)) (zb (zL (zc aW (.O .row [.O .row [aR,za aR aO]]))) 1000000)) (.J (ze aN 2) (.W 0 [zL (zc aW (.O .row [.O .row [aR,za aR aO]])),za aR aT,zc aW (.O .row [.O .row [aR,za aR aO]])]) (.W 0 [zL (zc aW (.O .row [.O .row [aR,za aR aO]])),za aR aO,zc aW (.O .row [.O .row [aR,za aR aO]])]))) (.W 1 [aV,aR,aW])
def UM:VT:= .J (fW aR (.Q 709 [aS,aO])) (.N (zn (cG aV (zl 2002)) (zb (zL (zc aW (.O .row [.O .row [aR,za aR aO]]))) 1000000)) (.J (ze aN 2) (.W 0 [zL (zc aW (.O .row [.O .row [aR,za aR aO]])),za aR aT,zc aW (.O .row [.O .row [aR,za aR aO]])]) (.W 0 [zL (zc aW (.O .row [.O .row [aR,za aR aO]])),za aR aO,zc aW (.O .row [.O .row [aR,za aR aO]])]))) (.W 1 [aV,aR,aW])
def T_wOf:VT:= .J (cY (.Q 700 [aN,aO,aT,aU])) (.W 0 [ck]) (.J (fT aS (.C (-1099511627776))) (.J (cY (zb aS 1099511627776)) (.W 0 [ck]) (.J (ze aN 3) (.W 0 [.O .row [.O .row [aS,za aS aU]]]) (.J (ze aN 2) (.N (zn (fW aZ aT) (zb aT 1048576)) (.loop ⟨753,[zL ck,EI,ck],2000,[aN,aO,aT,aU,.Q 709 [aS,aT]]⟩ OQ [.N (cG (zo FP 0) (zL GI)) (.W 0 [GI])])) (.N (zn (fW aZ aO) (zb aO 1048576)) (.loop ⟨753,[zL ck,HE,ck],2000,[aN,aO,aT,aU,.Q 709 [aS,aO]]⟩ UM [.N (cG (zo HT 0) (zL Hq)) (.W 0 [Hq])]))))) (.W 0 [ck]))
def jQ:SX:= .Q 752 [zL ck,zL ck,aM,aM,aM,aM,aM,ck,ck,aM,zl 0,aN,zl 0]
def DH:SX:= zo jQ 0
def Gv:SX:= zo jQ 7
def pe:SX:= .O .lsub [Gv,aM,DH]
def Ey:SX:= zo jQ 1
def DD:SX:= zo jQ 8
def sW:SX:= .O .lsub [DD,aM,Ey]
def JH:VT:= .J (zs aW (zl 0)) (.N (zp aW) (.J (zn (ze (zg 0 2002 0) 0) (zn (ze (zg 0 2002 1) 0) (zn (ze (zg 0 2002 2) 0) (ze (zg 0 2002 3) 0)))) (.W 0 [aV,aR,zi aW,bD,bL,bJ,bK,bO,bQ]) (.N (zp aR) (.J (ze aR 0) (.N (zn (cG aV (zl 2007)) (zb (zL (zc bO (.O .row [.O .row [zg 0 2002 0]]))) 1000000)) (.N (zn (cG aR (zl 2008)) (zb (zL (zc bQ (.O .row [.O .row [zg 0 2002 1]]))) 1000000)) (.W 0 [zL (zc bO (.O .row [.O .row [zg 0 2002 0]])),zL (zc bQ (.O .row [.O .row [zg 0 2002 1]])),zi aW,zg 0 2002 0,zg 0 2002 1,.O .imin [zg 0 2002 2,zg 0 2002 2],.O .imax [zg 0 2002 3,zg 0 2002 3],zc bO (.O .row [.O .row [zg 0 2002 0]]),zc bQ (.O .row [.O .row [zg 0 2002 1]])]))) (.N (zn (cG aV (zl 2007)) (zb (zL (zc bO (.O .row [.O .row [zg 0 2002 0]]))) 1000000)) (.N (zn (cG aR (zl 2008)) (zb (zL (zc bQ (.O .row [.O .row [zg 0 2002 1]]))) 1000000)) (.W 0 [zL (zc bO (.O .row [.O .row [zg 0 2002 0]])),zL (zc bQ (.O .row [.O .row [zg 0 2002 1]])),zi aW,bD,bL,.O .imin [bJ,zg 0 2002 2],.O .imax [bK,zg 0 2002 3],zc bO (.O .row [.O .row [zg 0 2002 0]]),zc bQ (.O .row [.O .row [zg 0 2002 1]])]))))))) (.W 1 [aV,aR,aW,bD,bL,bJ,bK,bO,bQ])
def T_join:VT:= .loop ⟨752,[zL ck,zL ck,aM,aM,aM,aM,aM,ck,ck],2000,[aM,zl 0,aN,zl 0]⟩ JH [.N (zn (zn (zp DH) (fW DH (zL Gv))) (zb (zL pe) 1000000)) (.N (zn (zn (zp Ey) (fW Ey (zL DD))) (zb (zL sW) 1000000)) (.J (ew (.Q 703 [pe]) aM) (.W 0 [aM,aM,aM,aM,.C 30]) (.J (ew (.Q 703 [sW]) aM) (.W 0 [aM,aM,aM,aM,.C 30]) (.W 0 [.Q 702 [pe],.Q 702 [sW],zo jQ 5,zo jQ 6,aM]))))]
def nf:SX:= za aO aN
def jn:SX:= .Q 755 [zL ck,zL ck,aM,aO,nf,ck,ck,aO,nf,aO,nf,aM,zl 2,aT,zl 2]
def fZ:SX:= zo jn 1
def gX:SX:= zo jn 6
def fY:SX:= zo jn 3
def lw:SX:= zo jn 4
def oD:SX:= zo (.Q 756 [aM,fZ,fZ,gX,fY,lw,fZ]) 0
def NH:SX:= cr gX oD 0
def CI:SX:= .Q 713 [gX,fZ,oD,fY,lw]
def tO:SX:= zo jn 5
def BO:SX:= cG (zo jn 0) (zL tO)
def xZ:SX:= .Q 714 [gX,fZ,oD,fY,lw]
def LP:VT:= .J (zs aW (zl 2)) (.N (zp aW) (.J (zs (zg 2 2002 0) (za aO aN)) (.J (cY (zs aO (zg 2 2002 1))) (.N (zn (cG aR (zl 2006)) (zb (zL (zc bK (.O .row [.O .row [zg 2 2002 0,zg 2 2002 1]]))) 1000000)) (.W 0 [aV,zL (zc bK (.O .row [.O .row [zg 2 2002 0,zg 2 2002 1]])),zi aW,bD,bL,bJ,zc bK (.O .row [.O .row [zg 2 2002 0,zg 2 2002 1]])])) (.N (zn (cG aV (zl 2005)) (zb (zL (zc bJ (.O .row [.O .row [zg 2 2002 0,zg 2 2002 1]]))) 1000000)) (.W 0 [zL (zc bJ (.O .row [.O .row [zg 2 2002 0,zg 2 2002 1]])),aR,zi aW,.O .imin [bD,zg 2 2002 0],.O .imax [bL,zg 2 2002 1],zc bJ (.O .row [.O .row [zg 2 2002 0,zg 2 2002 1]]),bK]))) (.N (zn (cG aR (zl 2006)) (zb (zL (zc bK (.O .row [.O .row [zg 2 2002 0,zg 2 2002 1]]))) 1000000)) (.W 0 [aV,zL (zc bK (.O .row [.O .row [zg 2 2002 0,zg 2 2002 1]])),zi aW,bD,bL,bJ,zc bK (.O .row [.O .row [zg 2 2002 0,zg 2 2002 1]])])))) (.W 1 [aV,aR,aW,bD,bL,bJ,bK])
def Ub:VT:= .J (zs aV aR) (.N (zn (zp (zh aV aR)) (zs (zh aV aR) (zo (.Q 755 [zL ck,zL ck,aM,aO,za aO aN,ck,ck,aO,za aO aN,aO,za aO aN,aM,zl 2,aT,zl 2]) 1))) (.N (zs (zh aV aR) (zL (zo (.Q 755 [zL ck,zL ck,aM,aO,za aO aN,ck,ck,aO,za aO aN,aO,za aO aN,aM,zl 2,aT,zl 2]) 6))) (.J (zs (cr (zo (.Q 755 [zL ck,zL ck,aM,aO,za aO aN,ck,ck,aO,za aO aN,aO,za aO aN,aM,zl 2,aT,zl 2]) 6) (zh aV aR) 0) (zo (.Q 755 [zL ck,zL ck,aM,aO,za aO aN,ck,ck,aO,za aO aN,aO,za aO aN,aM,zl 2,aT,zl 2]) 3)) (.W 0 [zi (zh aV aR),aR]) (.J (dO (cr (zo (.Q 755 [zL ck,zL ck,aM,aO,za aO aN,ck,ck,aO,za aO aN,aO,za aO aN,aM,zl 2,aT,zl 2]) 6) (zh aV aR) 0) (zo (.Q 755 [zL ck,zL ck,aM,aO,za aO aN,ck,ck,aO,za aO aN,aO,za aO aN,aM,zl 2,aT,zl 2]) 3)) (.W 0 [aV,zh aV aR]) (.W 0 [aV,zh aV aR]))))) (.W 1 [aV,aR])
def T_sinsert:VT:= .J (cG aN (.O .imax [aZ,.O .imin [aN,bW]])) (.J (ew aO (.O .imax [.C (-1099511627776),.O .imin [aO,bY]])) (.W 0 [aM,aM,bC,ck,ck]) (.N (zb (zl 2) 400) (.J (cY (.Q 711 [aN,aT])) (.W 0 [aM,aM,bC,ck,ck]) (.loop ⟨755,[zL ck,zL ck,aM,aO,nf,ck,ck],2000,[aO,nf,aO,nf,aM,zl 2,aT,zl 2]⟩ LP [.N (zp fZ) (.loop ⟨756,[aM,fZ],2000,[fZ,gX,fY,lw,fZ]⟩ Ub [.J (zs oD fZ) (.N (zp oD) (.N (zs oD (zL gX)) (.J (zs NH fY) (.N (CI) (.N (BO) (.W 0 [fY,lw,aM,tO,xZ]))) (.J (dO NH fY) (.N (CI) (.N (BO) (.W 0 [fY,lw,aM,tO,xZ]))) (.N (CI) (.N (BO) (.W 0 [fY,lw,aM,tO,xZ]))))))) (.N (CI) (.N (BO) (.W 0 [fY,lw,aM,tO,xZ])))])])))) (.W 0 [aM,aM,bC,ck,ck])
def kw:SX:= .O .row [.O .row [aN,aO,aT,aU],.O .row [aZ,aS,aS,aS]]
def T_aput:VT:= .N (zb (zL kw) 1000) (.J (ew (.Q 706 [kw]) aM) (.W 0 [aN,aO,aT,aU,.Q 706 [kw]]) (.W 0 [cr (.Q 705 [kw]) aM 0,cr (.Q 705 [kw]) aM 1,cr (.Q 705 [kw]) aM 2,cr (.Q 705 [kw]) aM 3,aM]))
def Cf:SX:= .Q 750 [zL ck,ck,aS]
def qK:SX:= zo Cf 1
def Tq:VT:= .N (zn (cG aV (zl 2001)) (zb (zL (zc aR (.O .row [zv 4 2002]))) 1000000)) (.W 0 [zL (zc aR (.O .row [zv 4 2002])),zc aR (.O .row [zv 4 2002])])
def T_trows:VT:= .mloop ⟨750,[zL ck,ck],2000,[aS]⟩ aS Tq [.N (zn (cG (zo Cf 0) (zL qK)) (zn (zn (zb (zL qK) 400) (.Q 431 [qK])) (.Q 491 [qK]))) (.W 0 [.Q 490 [qK]])]
def Gs:SX:= .Q 757 [zL ck,ck,bd,aS]
def Gy:SX:= zo Gs 0
def oC:SX:= zo Gs 1
def Qr:VT:= .J (.O (.scmp .eql) [zg 4 2002 0,bd]) (.N (zn (cG aV (zl 2001)) (zb (zL (zc aR (.O .row [.O .row [zg 4 2002 1,zg 4 2002 2]]))) 1000000)) (.W 0 [zL (zc aR (.O .row [.O .row [zg 4 2002 1,zg 4 2002 2]])),zc aR (.O .row [.O .row [zg 4 2002 1,zg 4 2002 2]])])) (.W 0 [aV,aR])
def T_tsess:VT:= .mloop ⟨757,[zL ck,ck],2000,[bd,aS]⟩ aS Qr [.N (zn (cG Gy (zL oC)) (zn (zb (zL oC) 1000000) (.Q 716 [oC]))) (.N (cG Gy (zL (.Q 715 [oC]))) (.W 0 [.Q 715 [oC]]))]
def Hy:SX:= .Q 718 [aU,bh,.Q 723 [aS,bf]]
def BW:SX:= cr Hy aM 0
def CU:SX:= cr Hy aM 1
def jA:SX:= .Q 717 [aU,bh,.Q 723 [aS,bf]]
def HZ:SX:= .Q 758 [zL ck,aM,ck,bd,bf,bh,bi,BW,CU,zL jA,jA,zL jA]
def Gi:SX:= zo HZ 2
def ee5:VT:= .J (zs aR (zL (.Q 717 [aU,bh,.Q 723 [aS,bf]]))) (.N (zp aR) (.N (zn (cG aV (zl 2002)) (zb (zL (zc aW (.O .row [.O .row [bf,cr (.Q 717 [aU,bh,.Q 723 [aS,bf]]) aR 0,cr (.Q 717 [aU,bh,.Q 723 [aS,bf]]) aR 1]]))) 1000000)) (.W 0 [zL (zc aW (.O .row [.O .row [bf,cr (.Q 717 [aU,bh,.Q 723 [aS,bf]]) aR 0,cr (.Q 717 [aU,bh,.Q 723 [aS,bf]]) aR 1]])),zi aR,zc aW (.O .row [.O .row [bf,cr (.Q 717 [aU,bh,.Q 723 [aS,bf]]) aR 0,cr (.Q 717 [aU,bh,.Q 723 [aS,bf]]) aR 1]])]))) (.W 1 [aV,aR,aW])
def T_joined:VT:= .N (zn (zb (zl 4) 400) (.Q 491 [aS])) (.N (zb (zL (.Q 723 [aS,bf])) 24) (.loop ⟨758,[zL ck,aM,ck],2000,[bd,bf,bh,bi,BW,CU,zL jA,jA,zL jA]⟩ ee5 [.N (cG (zo HZ 0) (zL Gi)) (.W 0 [bf,BW,CU,Gi])]))
def xw:SX:= .O .row [.O .row [aZ,bi,bi,bi]]
def pK:SX:= .Q 725 [aU,aS,bf,bh]
def te:SX:= cr pK aM 0
def sO:SX:= cr pK aM 1
def se:SX:= cr pK aM 2
def fP:SX:= .Q 724 [aU,aS,bf,bh]
def tt:SX:= .Q 759 [zL ck,zL xw,aM,ck,xw,aN,aO,aT,aU,aS,te,sO,se,zL fP,fP,zL fP]
def Ei:SX:= zo tt 1
def LQ:SX:= zo tt 4
def ke:SX:= .O .lsub [LQ,aM,Ei]
def KY:SX:= zo tt 3
def yB:SX:= .O .row [cr fP aW 0,cr fP aW 1,cr fP aW 2]
def nj(j:Int):SX:= .O .J [zs (.O (.mfind [.str,.int .i64,.int .i64]) [aS,yB]) (zl 4),.O .G [aS,.O (.mfind [.str,.int .i64,.int .i64]) [aS,yB],.C j],aM]
def sG:SX:= zc bL (.O .row [.O .row [nj 3,nj 4,nj 5,nj 6]])
def CV:SX:= zc bD (.O .row [yB])
def ee6:SX:= zn (.O (.scmp .eql) [cr fP aW 0,te]) (zn (cG (cr fP aW 1) sO) (cG (cr fP aW 2) se))
def ee7:VT:= .J (zs aW (zL fP)) (.N (zp aW) (.N (zn (cG aR (zl 2004)) (zb (zL sG) 1000000)) (.J (cY ee6) (.N (zn (cG aV (zl 2003)) (zb (zL CV) 1000000)) (.W 0 [zL CV,zL sG,zi aW,CV,sG])) (.W 0 [aV,zL sG,zi aW,bD,sG])))) (.W 1 [aV,aR,aW,bD,bL])
def T_sess:VT:= .N (zn (zb (zl 4) 24) (.Q 491 [aS])) (.loop ⟨759,[zL ck,zL xw,aM,ck,xw],2000,[aN,aO,aT,aU,aS,te,sO,se,zL fP,fP,zL fP]⟩ ee7 [.N (zn (zn (zp Ei) (fW Ei (zL LQ))) (zb (zL ke) 1000)) (.J (ew (.Q 706 [ke]) aM) (.W 0 [.Q 706 [ke],ck,ck]) (.N (cG (zo tt 0) (zL KY)) (.W 0 [aM,KY,.O .row [.O .row [te,sO,se,cr (.Q 705 [ke]) aM 0,cr (.Q 705 [ke]) aM 1,cr (.Q 705 [ke]) aM 2,cr (.Q 705 [ke]) aM 3]]])))])
def rU:SX:= .Q 701 [bd,bf,bh,bi]
def gC:SX:= .Q 704 [aN,aO,aT,aU,bh]
def yE:SX:= .Q 760 [zL ck,rU,aM,ck,aN,aO,aT,aU,aS,bd,bf,bh,bi,zL gC,gC,zL gC]
def Fy:SX:= zo yE 1
def Ds:SX:= zo yE 0
def Ko:SX:= zo yE 3
def BK:SX:= .O .lsub [Ko,aM,Ds]
def FJ:SX:= .O .row [bf,cr gC aW 0,cr gC aW 1]
def iE(j:Int):SX:= .O .J [zs (.O (.mfind [.str,.int .i64,.int .i64]) [aS,FJ]) (zl 4),.O .G [aS,.O (.mfind [.str,.int .i64,.int .i64]) [aS,FJ],.C j],aM]
def Az:SX:= .Q 708 [iE 3,iE 4,iE 5,iE 6,bi]
def uv:SX:= .Q 707 [iE 3,iE 4,iE 5,iE 6,bi]
def Bx:SX:= zc bD (.O .row [.O .row [bf,cr gC aW 0,cr gC aW 1,cr uv aM 0,cr uv aM 1,cr uv aM 2,cr uv aM 3]])
def Ip:VT:= .J (zs aW (zL gC)) (.N (zp aW) (.J (ew Az aM) (.W 1 [aV,Az,aW,bD]) (.N (zn (cG aV (zl 2003)) (zb (zL Bx) 1000000)) (.W 0 [zL Bx,Az,zi aW,Bx])))) (.W 1 [aV,aR,aW,bD])
def T_tryE:VT:= .J (ew rU aM) (.W 0 [rU,ck,ck]) (.J (ew bd aZ) (.W 0 [bC,ck,ck]) (.J (ze aN 3) (.N (zn (zb (zl 4) 24) (.Q 491 [aS])) (.W 0 [.Q 729 [aU,aS,bf,bh,bi],.Q 727 [aU,aS,bf,bh,bi],.Q 728 [aU,aS,bf,bh,bi]])) (.loop ⟨760,[zL ck,rU,aM,ck],2000,[aN,aO,aT,aU,aS,bd,bf,bh,bi,zL gC,gC,zL gC]⟩ Ip [.J (ew Fy aM) (.W 0 [Fy,ck,ck]) (.N (zn (zn (zp Ds) (fW Ds (zL Ko))) (zn (zb (zL BK) 400) (.Q 431 [BK]))) (.W 0 [aM,ck,.Q 490 [BK]]))])))
def FW:SX:= .Q 732 [aN,aO,aT,aU,aS,bd,bf,bh,bi]
def dJ:SX:= .Q 731 [aN,aO,aT,aU,aS,bd,bf,bh,bi]
def ic:SX:= .Q 730 [aN,aO,aT,aU,aS,bd,bf,bh,bi]
def sD:SX:= zo (.Q 761 [aM,aS,aN,aO,aT,aU,aS,zL dJ,dJ,zL ic,ic,zL ic]) 1
def Qh:VT:= .J (zs aV (zL (.Q 730 [aN,aO,aT,aU,aS,bd,bf,bh,bi]))) (.N (zp aV) (.W 0 [zi aV,.O (.mdel [.str,.int .i64,.int .i64]) [aR,.O .row [cr (.Q 730 [aN,aO,aT,aU,aS,bd,bf,bh,bi]) aV 0,cr (.Q 730 [aN,aO,aT,aU,aS,bd,bf,bh,bi]) aV 1,cr (.Q 730 [aN,aO,aT,aU,aS,bd,bf,bh,bi]) aV 2]]])) (.W 1 [aV,aR])
def SZ:VT:= .J (zs aV (zL (.Q 731 [aN,aO,aT,aU,aS,bd,bf,bh,bi]))) (.N (zp aV) (.W 0 [zi aV,.O .J [zs (.O (.mfind [.str,.int .i64,.int .i64]) [aR,.O .row [cr (.Q 731 [aN,aO,aT,aU,aS,bd,bf,bh,bi]) aV 0,cr (.Q 731 [aN,aO,aT,aU,aS,bd,bf,bh,bi]) aV 1,cr (.Q 731 [aN,aO,aT,aU,aS,bd,bf,bh,bi]) aV 2]]) (zl 2001),.O .lset [aR,.O (.mfind [.str,.int .i64,.int .i64]) [aR,.O .row [cr (.Q 731 [aN,aO,aT,aU,aS,bd,bf,bh,bi]) aV 0,cr (.Q 731 [aN,aO,aT,aU,aS,bd,bf,bh,bi]) aV 1,cr (.Q 731 [aN,aO,aT,aU,aS,bd,bf,bh,bi]) aV 2]],.O .row [cr (.Q 731 [aN,aO,aT,aU,aS,bd,bf,bh,bi]) aV 0,cr (.Q 731 [aN,aO,aT,aU,aS,bd,bf,bh,bi]) aV 1,cr (.Q 731 [aN,aO,aT,aU,aS,bd,bf,bh,bi]) aV 2,cr (.Q 731 [aN,aO,aT,aU,aS,bd,bf,bh,bi]) aV 3,cr (.Q 731 [aN,aO,aT,aU,aS,bd,bf,bh,bi]) aV 4,cr (.Q 731 [aN,aO,aT,aU,aS,bd,bf,bh,bi]) aV 5,cr (.Q 731 [aN,aO,aT,aU,aS,bd,bf,bh,bi]) aV 6]],zc aR (.O .row [.O .row [cr (.Q 731 [aN,aO,aT,aU,aS,bd,bf,bh,bi]) aV 0,cr (.Q 731 [aN,aO,aT,aU,aS,bd,bf,bh,bi]) aV 1,cr (.Q 731 [aN,aO,aT,aU,aS,bd,bf,bh,bi]) aV 2,cr (.Q 731 [aN,aO,aT,aU,aS,bd,bf,bh,bi]) aV 3,cr (.Q 731 [aN,aO,aT,aU,aS,bd,bf,bh,bi]) aV 4,cr (.Q 731 [aN,aO,aT,aU,aS,bd,bf,bh,bi]) aV 5,cr (.Q 731 [aN,aO,aT,aU,aS,bd,bf,bh,bi]) aV 6]])]])) (.W 1 [aV,aR])
def T_put:VT:= .N (zn (zn (zn (zb (zl 4) 400) (.Q 431 [aS])) (.Q 491 [aS])) (.Q 739 [aN,aS,bf])) (.J (ew FW aM) (.W 0 [FW,aS]) (.loop ⟨761,[aM,aS],2000,[aN,aO,aT,aU,aS,zL dJ,dJ,zL ic,ic,zL ic]⟩ Qh [.loop ⟨762,[aM,sD],2000,[aN,aO,aT,aU,sD,zL dJ,dJ,zL dJ]⟩ SZ [.W 0 [aM,zo (.Q 762 [aM,sD,aN,aO,aT,aU,sD,zL dJ,dJ,zL dJ]) 1]]]))
def ex(j:Int):SX:= .O .G [aS,bD,.C j]
def aX:GF:=[aN,aO,aT,aU,bL,ex 0,ex 1,ex 2,ex 3]
def x730:SX:= .Q 730 aX
def x731:SX:= .Q 731 aX
def x733:SX:= .Q 733 aX
def rx(j:Int):SX:= .O .G [x731,bR,.C j]
def gx(j:Int):SX:= .O .G [x730,bR,.C j]
def tx:SX:= .Q 721 [x733,rx 0,rx 1,rx 2]
def ej7(x:SX):SX:= zn (zn (zb (zL x) 400) (.Q 431 [x])) (.Q 491 [x])
def PY:SX:= .Q 766 [.cb false,zL ck,aM,aM,ck,ck,aM,zl 4,aS,bd,aN,aO,aT,aU,aN,aO,aT,aU,ck]
def PM:SX:= zo PY 4
def TM:SX:= zo PY 1
def cC7:SX:= zo PY 5
def du6:SX:= zL (.Q 490 [PM])
def du7:SX:= zm TM aZ
def cC8:SX:= .Q 737 [bd,TM]
def d16:SX:= .Q 770 [zL ck,du7,ck,aN,aO,aT,aU,TM,cC7,du6,.Q 490 [PM],cC8]
def d17:SX:= zo d16 2
def d18:SX:= zc d17 (.O .lsub [cC7,aM,cC8])
def r7:SX:= .Q 490 [PM]
def ux(j:Int):SX:= .O .G [d18,aW,.C j]
def bX:GF:=[aN,aO,aT,aU,bD,ux 0,ux 1,ux 2,ux 3]
def cT(I:Opq)(v0:Nat)(l:U7)(n:Nat):(I.U v0 l).w n=if v0<=n then l.getD (n-v0) (.B false)else I.w n:=rfl
theorem mG(I:Opq)(v0:Nat)(l:U7):(I.U v0 l).f=I.f:=rfl
@[simp]theorem Y1(n:Int):(Val.D n).I=n:=rfl
@[simp]def c25(n:zR):(Val.vs n).toS=n:=rfl
@[simp]def a95(n:Bool):(Val.B n).Z=n:=rfl
@[simp]theorem a71(n:U7):(Val.A n).L=n:=rfl
@[simp]def a27(a b:Int):gr .lss a b=decide (a<b):=rfl
@[simp]def a59(a b:Int):gr .leq a b=decide (a<=b):=rfl
@[simp]def ab7(a b:Int):gr .gtr a b=decide (b<a):=rfl
@[simp]def d19(a b:Int):gr .geq a b=decide (b<=a):=rfl
@[simp]def am2(a b:Int):gr .eql a b=decide (a=b):=rfl
@[simp]def d20(a b:Int):gr .neq a b= !decide (a=b):=rfl
@[simp]def d21(a b:zR):nZ .eql a b=decide (a=b):=rfl
@[simp]def d22(a b:zR):nZ .neq a b= !decide (a=b):=rfl
def X2{I:Opq}{e:SX}{x:VT}{r:Option (Nat×U7)}(h:dB I e=true)(h2:W6 x I=r):W6 (.N e x) I=r:=by rw[W6.eq_3,i6 h,h2]
def Y4{I:Opq}{e:SX}{x y:VT}{r:Option (Nat×U7)}(h:dB I e=true)(h2:W6 x I=r):W6 (.J e x y) I=r:=by rw[W6.eq_2,i6 h,h2]
def Y0{I:Opq}{e:SX}{x y:VT}{r:Option (Nat×U7)}(h:dB I e=false)(h2:W6 y I=r):W6 (.J e x y) I=r:=by simp_all[W6.eq_2,b9]
def X7{I:Opq}{hd:LHd}{b:VT}{ks:abd}{r:Nat×U7}{x:Option (Nat×U7)}(h1:Y9 (λvs=>W6 b (I.U hd.v0 vs)) (X4 I hd.s0)=some r)(h2:I.f hd.id (X4 I (hd.s0++hd.fv))=cx r)(h3:kE ks r.1 I=x):W6 (.loop hd b ks) I=x:=by simp_all[W6.eq_5,i6]
theorem mQ{x:Int}(h: -9223372036854775808<=x)(h2:x<9223372036854775808):IntKind.i64.wrap x=x:=by grind[IntKind.wrap,IntKind.bits,IntKind.signed]
theorem ij{x y:Int}(h: -9223372036854775808<=x+y)(h2:x+y<9223372036854775808):cq .add .i64 x y=x+y:=mQ h h2
theorem rZ{x y:Int}(h: -9223372036854775808<=x-y)(h2:x-y<9223372036854775808):cq .sub .i64 x y=x-y:=mQ h h2
theorem iZ{i n:Nat}(h:i<n)(h2:n<=9223372036854775807):cq .add .i64 (i:Int) 1=((i+1:Nat):Int):=by grind[ij]
def ci(r:Val)(k:Nat):Int:=(X1 r k).I
def X9(k s l g:Int):Bool:=
 if k=1 then decide (1<=s)&&decide (s<=1048576)&&decide (l=0)&&decide (g=0)
 else if k=2 then decide (1<=s)&&decide (s<=1048576)&&decide (1<=l)&&decide (l<=1048576)&&decide (g=0)&&decide (s % l=0)&&decide (s/l<=16)
 else decide (k=3)&&decide (1<=g)&&decide (g<=1048576)&&decide (s=0)&&decide (l=0)
def ei(t:Int):Bool:=decide (-1099511627776<=t)&&decide (t<=1099511627776)
def X5(k:Int)(key:zR)(t v:Int):Int:=
 if k<1\/2<k then 80
 else if k=1 then(if key=[]\/32<key.length then 60 else if ei t then 0 else 61)
 else(if key=[]/\v=0 then(if ei t then 0 else 61)else 60)
def eW(g:Nat->Int):Nat->Int×Int
 |0=>(0,0)
 |k+1=>let s:=(eW g k).1;let o:=(eW g k).2;let x:=g k;let t:=cq .add .i64 s x
  if 0<=s/\0<=x/\t<0 then(t,cq .add .i64 o 1)else if s<0/\x<0/\0<=t then(t,cq .sub .i64 o 1)else(t,o)
def fI(l:U7):Int×Int:=eW (λk=>ci (cg l k) 0) l.length
def fQ(l:U7):Int:=if(fI l).2=0 then 0 else 30
def qF(l:U7):Int:=if(fI l).2=0 then(fI l).1 else 0
def BB(a b c d:Int):Bool:=decide (a=0)&&(decide (b=0)&&(decide (c=0)&&decide (d=0)))
def du8(a b c d:Int):Bool:=BB a b c d||decide (0<a)&&decide (c<=d)&&(decide (1<a)||decide (a=1)&&decide (c=b)&&decide (d=b))
def AY(a b c d:Int):Int:=if b<d then-1 else if d<b then 1 else if a<c then-1 else if c<a then 1 else 0
def Ya(r:Val):Bool:=decide (50<(X1 r 1).toS.length)
def e65(i n:Int):Int:=if n<=0 then 0 else cq .rem .i64 (cq .add .i64 (cq .rem .i64 i n) n) n
def kp(n d:Int):Int:=n-n % d
def dY(k s l:Int):Int:=if k=2 then l else s
def jU(st step size:Int)(j:Nat):U7:=[.A [.D (st+j*step),.D (st+j*step+size)]]
def gi(k s l:Int):Nat:=(s/dY k s l).toNat
def dF(k s l g:Int)(t:Val):U7:=bif X9 k s l g&&ei t.I then(if k=3 then [.A [t,.D (t.I+g)]]else cw (jU (kp t.I (dY k s l)-s+dY k s l) (dY k s l) s) (gi k s l))else []
def ui(r:Val):Bool:=BB (ci r 0) (ci r 1) (ci r 2) (ci r 3)
def jG(l:U7)(c:Nat)(k:Nat):U7:=bif ui (cg l k)then []else [.A [X1 (cg l k) c]]
def jS(l:U7):Nat->U7
 |0=>[.D 0,.D 0,.D 0,.D 0]
 |k+1=>bif ui (cg l k)then jS l k else
  (if(cw (jG l 0) k).length=0 then [X1 (cg l k) 0,X1 (cg l k) 1,.D (min (ci (cg l k) 2) (ci (cg l k) 2)),.D (max (ci (cg l k) 3) (ci (cg l k) 3))]
   else [(jS l k).getD 0 default,(jS l k).getD 1 default,.D (min ((jS l k).getD 2 default).I (ci (cg l k) 2)),.D (max ((jS l k).getD 3 default).I (ci (cg l k) 3))])
def jC(l:U7):U7:=cw (jG l 0) l.length
def jT(l:U7):U7:=cw (jG l 1) l.length
def jE(l:U7):Int:=if fQ (jC l)≠0\/fQ (jT l)≠0 then 30 else 0
def jR(l:U7):U7:=if fQ (jC l)≠0\/fQ (jT l)≠0 then [.D 0,.D 0,.D 0,.D 0]else [.D (qF (jC l)),.D (qF (jT l)),(jS l l.length).getD 2 default,(jS l l.length).getD 3 default]
def pR(a b c d v:Val):U7:=[.A [a,b,c,d],.A [.D 1,v,v,v]]
def nK(a b c d v:Val):U7:=if jE (pR a b c d v)≠0 then [a,b,c,d]else jR (pR a b c d v)
def Cs(l:U7)(key:zR)(i:Nat):U7:=bif decide ((X1 (cg l i) 0).toS=key)then [.A [X1 (cg l i) 1,X1 (cg l i) 2]]else []
def fU(l:U7)(key:zR):U7:=cw (Cs l key) l.length
def spanV(a b:Val):Int:=AY (ci a 0) (ci a 1) (ci b 0) (ci b 1)
def X3(r:Val):Int×Int:=(ci r 0,ci r 1)
def gT(l:U7)(p:Val):Nat:=l.findIdx λr=>eF [.str,.int .i64,.int .i64] r p
def jD(l:U7)(p:Val):Bool:=decide (gT l p<l.length)
def pV(l:U7)(p:Val)(j:Nat):Val:=bif jD l p then X1 (cg l (gT l p)) j else .D 0
def KJ(l:U7)(p:Val):U7:=[pV l p 3,pV l p 4,pV l p 5,pV l p 6]
def Wu(s e:Int):Bool:= !((!((decide (0<=e))==(decide (0<=s))))&&(!((decide (0<=cq .sub .i64 e s))==(decide (0<=e)))))
def mn(g:Int)(l:U7)(i:Nat):Bool:=decide (ci (cg l i) 1<=ci (cg l i) 0)||(Wu (ci (cg l i) 0) (ci (cg l i) 1)&&decide (cq .sub .i64 (ci (cg l i) 1) (ci (cg l i) 0)<g))||(decide (0<i)&&decide (ci (cg l i) 0<ci (cg l (i-1)) 1))
def pY(t o:Int)(r:Val):Bool:=decide (ci r 0<o)&&decide (t<ci r 1)
def fX(r:Val):Val:= .A [X1 r 0,X1 r 1]
def yw(l:U7)(t o:Int)(i:Nat):U7:=bif pY t o (cg l i)then [fX (cg l i)]else []
def zM(l:U7)(t o:Int)(i:Nat):U7:=bif pY t o (cg l i)then []else [fX (cg l i)]
def kz(l:U7)(t o:Val):Nat->Val×Val
 |0=>(t,o)
 |i+1=>bif pY t.I o.I (cg l i)then(.D (min (kz l t o i).1.I (ci (cg l i) 0)),.D (max (kz l t o i).2.I (ci (cg l i) 1)))else kz l t o i
def xm(l:U7)(t o:Int):U7:=cw (yw l t o) l.length
def Mg(l:U7)(t o:Int):U7:=cw (zM l t o) l.length
def ng(l:U7)(x:Int):Nat->Nat->Nat->Nat
 |0,i,_=>i
 |n+1,i,j=>if i<j then(if ci (cg l ((i+j)/2)) 0<x then ng l x n ((i+j)/2+1) j else ng l x n i ((i+j)/2))else i
def Gk(l:U7)(j:Nat)(a b:Val):U7:=(l.take j).map fX++[.A [a,b]]++(l.drop j).map fX
def iD(g t:Int)(l:U7):Bool:=decide (1<=g)&&decide (g<=1048576)&&ei t&& !(List.range l.length).any (mn g l)
def oV(g t:Int):Val:= .D (cq .add .i64 t g)
def ir(g t:Val)(l:U7):Val×Val:=kz l t (oV g.I t.I) l.length
def iy(g t:Val)(l:U7):U7:=Mg l t.I (oV g.I t.I).I
def qj(g t:Val)(l:U7):U7:=xm l t.I (oV g.I t.I).I
def nP(g t:Val)(l:U7):Nat:=ng (iy g t l) (ir g t l).1.I (iy g t l).length 0 (iy g t l).length
def cQ(m:U7)(key:Val):U7:=fD spanV (fU m key.toS)
def kC(g:Val)(m:U7)(key t:Val):U7:=bif iD g.I t.I (cQ m key)then qj g t (cQ m key)else []
def kO(g:Val)(m:U7)(key t:Val):U7:=bif iD g.I t.I (cQ m key)then [(ir g t (cQ m key)).1,(ir g t (cQ m key)).2]else [.D 0,.D 0]
def eV(key r:Val):Val:= .A [key,X1 r 0,X1 r 1]
def xd(key ns ne r:Val):Bool:=decide ((X1 r 0).toS=key.toS)&&(decide ((X1 r 1).I=ns.I)&&decide ((X1 r 2).I=ne.I))
def kh(key ns ne r:Val):U7:=bif xd key ns ne r then []else [eR r]
def iM(P:U7)(key ns ne:Val):U7:=cw (λi=>kh key ns ne (cg P i)) P.length
def kG(m:U7)(r:Val):Val:= .A (KJ m (eR r))
def kF(m P:U7)(v:Val):U7:= .A [.D 1,v,v,v]::P.map (kG m)
def iS(g:Val)(m:U7)(key t:Val):U7:=(kC g m key t).map (eV key)
def sr(g:Val)(m:U7)(key t v:Val):Int:=jE (kF m (iS g m key t) v)
def nD(g:Val)(m:U7)(key t v:Val):U7:=if sr g m key t v≠0 then []else iM (iS g m key t) key ((kO g m key t).getD 0 default) ((kO g m key t).getD 1 default)
def nq(g:Val)(m:U7)(key t v:Val):U7:=if sr g m key t v≠0 then []else [.A [key,(kO g m key t).getD 0 default,(kO g m key t).getD 1 default,(jR (kF m (iS g m key t) v)).getD 0 default,(jR (kF m (iS g m key t) v)).getD 1 default,(jR (kF m (iS g m key t) v)).getD 2 default,(jR (kF m (iS g m key t) v)).getD 3 default]]
def qv(m:U7)(key r:Val)(j:Nat):Val:=pV m (eV key r) j
def ky(m:U7)(key v r:Val):Int:=jE (pR (qv m key r 3) (qv m key r 4) (qv m key r 5) (qv m key r 6) v)
def wF(m:U7)(key v r:Val):U7:=nK (qv m key r 3) (qv m key r 4) (qv m key r 5) (qv m key r 6) v
def nY(m:U7)(key v r:Val):Val:= .A [key,X1 r 0,X1 r 1,(wF m key v r).getD 0 default,(wF m key v r).getD 1 default,(wF m key v r).getD 2 default,(wF m key v r).getD 3 default]
def gD(m S:U7)(key v:Val):Nat:=((List.range S.length).find? λi=>decide (ky m key v (cg S i)≠0)).getD S.length
def fK(m S:U7)(key v:Val)(k:Nat):U7:=cw (λi=>[nY m key v (cg S i)]) k
def kM(m S:U7)(key v e0:Val):Val:=if gD m S key v<S.length then .D (ky m key v (cg S (gD m S key v)))else if S.length=0 then e0 else .D 0
def dp(w:U7):Int:=if X5 (ce w 5).I (ce w 6).toS (ce w 7).I (ce w 8).I≠0 then X5 (ce w 5).I (ce w 6).toS (ce w 7).I (ce w 8).I else if(ce w 5).I≠1 then 2 else if(ce w 0).I=3 then sr (ce w 3) (ce w 4).L (ce w 6) (ce w 7) (ce w 8)else
 (kM (ce w 4).L (dF (ce w 0).I (ce w 1).I (ce w 2).I (ce w 3).I (ce w 7)) (ce w 6) (ce w 8) (.D 0)).I
def eA(w:U7):U7:=if X5 (ce w 5).I (ce w 6).toS (ce w 7).I (ce w 8).I≠0\/(ce w 5).I≠1 then []else if(ce w 0).I=3 then nD (ce w 3) (ce w 4).L (ce w 6) (ce w 7) (ce w 8)else []
def eo(X:Nat->U7->Val)(w:U7):Val:=if X5 (ce w 5).I (ce w 6).toS (ce w 7).I (ce w 8).I≠0\/(ce w 5).I≠1 then .A []else if(ce w 0).I=3 then .A (nq (ce w 3) (ce w 4).L (ce w 6) (ce w 7) (ce w 8))else
 if dp w≠0 then .A []else X 490 [.A (fK (ce w 4).L (dF (ce w 0).I (ce w 1).I (ce w 2).I (ce w 3).I (ce w 7)) (ce w 6) (ce w 8) (dF (ce w 0).I (ce w 1).I (ce w 2).I (ce w 3).I (ce w 7)).length)]
def QR:Val->Bool
 | .vs _=>true
 |_=>false
def fw(m:Val)(P:U7):Nat->Val
 |0=>m
 |i+1=> .A ((fw m P i).L.eraseIdx (gT (fw m P i).L (eR (cg P i))))
def eN(m:Val)(R:U7):Nat->Val
 |0=>m
 |i+1=>bif jD (eN m R i).L (eR (cg R i))then .A ((eN m R i).L.set (gT (eN m R i).L (eR (cg R i))) (X8 (cg R i)))else .A ((eN m R i).L++[X8 (cg R i)])
def dR(X:Nat->U7->Val)(w:U7):Val:=if dp w≠0 then ce w 4 else eN (fw (ce w 4) (eA w) (eA w).length) (eo X w).L (eo X w).L.length
def yQ(r:Val):Val:= .A [X1 r 0,X1 r 1,X1 r 2,X1 r 3]
def oP(a b c d m r:Val):U7:=[a,b,c,d,m,X1 r 0,X1 r 1,X1 r 2,X1 r 3]
def LI(X:Nat->U7->Val)(a b c d:Val)(U:U7):Nat->Val
 |0=> .A []
 |i+1=>dR X (oP a b c d (LI X a b c d U i) (cg U i))
def Lj(X:Nat->U7->Val)(a b c d:Val)(U:U7)(i:Nat):Int:=dp (oP a b c d (LI X a b c d U i) (cg U i))
def zA(X:Nat->U7->Val)(a b c d:Val)(U:U7):Nat:=((List.range U.length).find? λi=>decide (Lj X a b c d U i≠0)).getD U.length
def ofR(X:Nat->U7->Val)(a b c d:Val)(U:U7):Nat×U7:=if zA X a b c d U+1<U.length then(1,[.D (Lj X a b c d U (zA X a b c d U)),.D (Lj X a b c d U (zA X a b c d U)),.D (zA X a b c d U+1:Nat),LI X a b c d U (zA X a b c d U+1)])
 else(0,[.D 0,if zA X a b c d U<U.length then .D (Lj X a b c d U (zA X a b c d U))else .D 0,.D U.length,LI X a b c d U U.length])
def iu:Val->Bool
 | .D _=>true
 |_=>false
def nB:Val->Bool
 | .A [.D _,.vs _,.D _,.D v]=>decide (-9223372036854775808<=v)&&decide (v<9223372036854775808)
 |_=>false
def CB:Val->Bool
 | .A l=>l.all nB
 |_=>false
def FT(X:Nat->U7->Val):Nat->U7->Val:=λi a=>match i with
 |700=> .B (X9 (ce a 0).I (ce a 1).I (ce a 2).I (ce a 3).I)
 |701=> .D (X5 (ce a 0).I (ce a 1).toS (ce a 2).I (ce a 3).I)
 |702=> .D (qF (ce a 0).L)
 |703=> .D (fQ (ce a 0).L)
 |704=> .A (dF (ce a 0).I (ce a 1).I (ce a 2).I (ce a 3).I (ce a 4))
 |753=>cx (0,[.D (gi (ce a 3).I (ce a 4).I (ce a 5).I),.D ((ce a 1).I+gi (ce a 3).I (ce a 4).I (ce a 5).I*dY (ce a 3).I (ce a 4).I (ce a 5).I),.A (cw (jU (ce a 1).I (dY (ce a 3).I (ce a 4).I (ce a 5).I) (ce a 4).I) (gi (ce a 3).I (ce a 4).I (ce a 5).I))])
 |705=> .A [.A (jR (ce a 0).L)]
 |706=> .D (jE (ce a 0).L)
 |752=>cx (0,[.D (jC (ce a 11).L).length,.D (jT (ce a 11).L).length,.D (ce a 11).L.length]++jS (ce a 11).L (ce a 11).L.length++[.A (jC (ce a 11).L),.A (jT (ce a 11).L)])
 |707=> .A [.A (nK (ce a 0) (ce a 1) (ce a 2) (ce a 3) (ce a 4))]
 |708=> .D (jE (pR (ce a 0) (ce a 1) (ce a 2) (ce a 3) (ce a 4)))
 |715=> .A (fD spanV (ce a 0).L)
 |716=> .B (decide ((ce a 0).L.map X3).Nodup)
 |721=> .A [.A (KJ (ce a 0).L (.A [ce a 1,ce a 2,ce a 3]))]
 |722=> .B (jD (ce a 0).L (.A [ce a 1,ce a 2,ce a 3]))
 |723=> .A (fD spanV (fU (ce a 0).L (ce a 1).toS))
 |750=>cx (0,[.D (ce a 2).L.length,.A ((ce a 2).L.map X8)])
 |757=>cx (0,[.D (fU (ce a 3).L (ce a 2).toS).length,.A (fU (ce a 3).L (ce a 2).toS)])
 |711=> .B (!(List.range (ce a 1).L.length).any (mn (ce a 0).I (ce a 1).L))
 |754=>cx (il (.B false) (λk=>[.B false,.D k]) (mn (ce a 2).I (ce a 5).L) (ce a 5).L.length)
 |713=> .B (decide ((ce a 1).I=((ce a 0).L.length:Int))&&decide (0<=(ce a 2).I)&&decide ((ce a 2).I<=((ce a 0).L.length:Int))&&decide ((ce a 0).L.length<=24))
 |714=> .A (Gk (ce a 0).L (ce a 2).I.toNat (ce a 3) (ce a 4))
 |717=> .A (bif iD (ce a 0).I (ce a 1).I (ce a 2).L then qj (ce a 0) (ce a 1) (ce a 2).L else [])
 |718=> .A [.A (bif iD (ce a 0).I (ce a 1).I (ce a 2).L then [(ir (ce a 0) (ce a 1) (ce a 2).L).1,(ir (ce a 0) (ce a 1) (ce a 2).L).2]else [.D 0,.D 0])]
 |719=> .A (bif iD (ce a 0).I (ce a 1).I (ce a 2).L then Gk (iy (ce a 0) (ce a 1) (ce a 2).L) (nP (ce a 0) (ce a 1) (ce a 2).L) (ir (ce a 0) (ce a 1) (ce a 2).L).1 (ir (ce a 0) (ce a 1) (ce a 2).L).2 else [])
 |720=> .D (bif iD (ce a 0).I (ce a 1).I (ce a 2).L then 0 else 2)
 |755=>cx (0,[.D (xm (ce a 13).L (ce a 3).I (ce a 4).I).length,.D (Mg (ce a 13).L (ce a 3).I (ce a 4).I).length,.D (ce a 13).L.length,(kz (ce a 13).L (ce a 3) (ce a 4) (ce a 13).L.length).1,(kz (ce a 13).L (ce a 3) (ce a 4) (ce a 13).L.length).2,.A (xm (ce a 13).L (ce a 3).I (ce a 4).I),.A (Mg (ce a 13).L (ce a 3).I (ce a 4).I)])
 |756=>cx (0,[.D (ng (ce a 3).L (ce a 4).I (ce a 3).L.length 0 (ce a 3).L.length),.D (ng (ce a 3).L (ce a 4).I (ce a 3).L.length 0 (ce a 3).L.length)])
 |724=> .A ((kC (ce a 0) (ce a 1).L (ce a 2) (ce a 3)).map (eV (ce a 2)))
 |725=> .A [.A (ce a 2::kO (ce a 0) (ce a 1).L (ce a 2) (ce a 3))]
 |758=>cx (0,[.D (ce a 10).L.length,.D (ce a 10).L.length,.A ((ce a 10).L.map (eV (ce a 4)))])
 |727=> .A (nD (ce a 0) (ce a 1).L (ce a 2) (ce a 3) (ce a 4))
 |728=> .A (nq (ce a 0) (ce a 1).L (ce a 2) (ce a 3) (ce a 4))
 |729=> .D (sr (ce a 0) (ce a 1).L (ce a 2) (ce a 3) (ce a 4))
 |759=>cx (0,[.D (iM (ce a 14).L (ce a 10) (ce a 11) (ce a 12)).length,.D ((ce a 4).L++(ce a 14).L.map (kG (ce a 9).L)).length,.D (ce a 14).L.length,.A (iM (ce a 14).L (ce a 10) (ce a 11) (ce a 12)),.A ((ce a 4).L++(ce a 14).L.map (kG (ce a 9).L))])
 |730=> .A (eA a)
 |731=>eo X a
 |732=> .D (dp a)
 |760=>cx (0,[.D (gD (ce a 8).L (ce a 14).L (ce a 10) (ce a 12)),kM (ce a 8).L (ce a 14).L (ce a 10) (ce a 12) (ce a 1),.D (gD (ce a 8).L (ce a 14).L (ce a 10) (ce a 12)),.A (fK (ce a 8).L (ce a 14).L (ce a 10) (ce a 12) (gD (ce a 8).L (ce a 14).L (ce a 10) (ce a 12)))])
 |739=> .B ((!decide ((ce a 0).I=3)||decide ((ce a 1).L.length<=24))&&QR (ce a 2))
 |733=>dR X a
 |761=>cx (0,[.D (ce a 10).L.length,fw (ce a 1) (ce a 10).L (ce a 10).L.length])
 |762=>cx (0,[.D (ce a 8).L.length,eN (ce a 1) (ce a 8).L (ce a 8).L.length])
 |709=> .D (kp (ce a 0).I (ce a 1).I)
 |712=> .D (AY (ce a 0).I (ce a 1).I (ce a 2).I (ce a 3).I)
 |734=> .B (!(List.range (min (ce a 0).L.length 100)).any (λi=>Ya (cg (ce a 0).L i))&&decide (((ce a 0).L.length:Int)<=(ce a 1).I))
 |765=>cx (il (.B false) (λk=>[.B false,.D k]) (λi=>Ya (cg (ce a 4).L i)) (min (ce a 4).L.length 100))
 |735=> .B (du8 (ce a 0).I (ce a 1).I (ce a 2).I (ce a 3).I)
 |736=> .B (BB (ce a 0).I (ce a 1).I (ce a 2).I (ce a 3).I)
 |737=> .D (e65 (ce a 0).I (ce a 1).I)
 |738=> .B (iu (ce a 0)&&(iu (ce a 1)&&(iu (ce a 2)&&(iu (ce a 3)&&(iu (ce a 5)&&CB (ce a 4))))))
 |751=>cx (0,[.D (ce a 5).L.length,.D (fI (ce a 5).L).1,.D (fI (ce a 5).L).2])
 |_=>X i a
section
variable{X:Nat->U7->Val}{I:Opq}(hf: ∀i a,I.f i a=FT X i a)
include hf
def t_numSum(hn:(I.w 0).L.length<=1000000):W6 T_numSum I=some (0,[FT X 702 [I.w 0],FT X 703 [I.w 0]]):=by
 have e0:bZ I yF=cx (0,[.D (I.w 0).L.length,.D (fI (I.w 0).L).1,.D (fI (I.w 0).L).2]):=by show I.f 751 [.D 0,.D 0,.D 0,.D 0,.D (I.w 0).L.length,I.w 0,.D (I.w 0).L.length]=_;rw[hf];rfl
 unfold T_numSum;refine X7 (r:=(0,[.D (I.w 0).L.length,.D (fI (I.w 0).L).1,.D (fI (I.w 0).L).2])) ?_ e0 ?_;show Y9 _ [.D ((0:Nat):Int),.D 0,.D 0]=_;refine kr (st:=λk=>[.D k,.D (eW (λk=>ci (cg (I.w 0).L k) 0) k).1,.D (eW (λk=>ci (cg (I.w 0).L k) 0) k).2]) (n:=(I.w 0).L.length) (λk hk=> ?_) ?_
 have p1:(k:Int)<((I.w 0).L.length:Int):=by omega
 have p2:(0:Int)<=(k:Int):=by omega
 have p3:=iZ hk (by omega);have p4:(Y3 (I.w 0).L (k:Int) (0:Int)).I=ci (cg (I.w 0).L k) 0:=rfl;unfold Ts;simp only[eW];generalize (eW (λk=>ci (cg (I.w 0).L k) 0) k).1=s;generalize (eW (λk=>ci (cg (I.w 0).L k) 0) k).2=o;simp[W6,X4,bZ,dB,cD,cT,p1,p2,p3,p4];grind;unfold Ts;simp[W6,X4,bZ,dB,cD,cT,fI]
 show W6 (.J _ _ _) I=_;have e1: ∀k:Int,(Y3 (bZ I yF).L 1 k)=X1 (.A [.D (I.w 0).L.length,.D (fI (I.w 0).L).1,.D (fI (I.w 0).L).2]) k.toNat:=λk=>by rw[e0];rfl
 by_cases h:(fI (I.w 0).L).2=0;refine Y0 ?_ ?_;show(!decide ((Y3 (bZ I yF).L 1 2).I=0))=false;rw[e1];show(!decide ((fI (I.w 0).L).2=0))=false;grind;show some (0,[Y3 (bZ I yF).L 1 1,Val.D 0])=some (0,[Val.D (qF (I.w 0).L),.D (fQ (I.w 0).L)]);rw[e1,qF,fQ,i6 h,i6 h];rfl;refine Y4 ?_ ?_;show(!decide ((Y3 (bZ I yF).L 1 2).I=0))=true;rw[e1];show(!decide ((fI (I.w 0).L).2=0))=true;grind;show some (0,[Val.D 0,Val.D 30])=some (0,[Val.D (qF (I.w 0).L),.D (fQ (I.w 0).L)]);simp_all[qF,fQ,b9]
omit hf in
def t_spanP:W6 T_spanP I=some (0,[FT X 712 [I.w 0,I.w 1,I.w 2,I.w 3]]):=by show W6 T_spanP I=some (0,[Val.D (AY (I.w 0).I (I.w 1).I (I.w 2).I (I.w 3).I)]);unfold T_spanP My Jw AY;simp[W6,X4,bZ,dB,cD,a27,ab7,a95,Y1,decide_eq_true_eq];grind
omit hf in
def t_wRight:W6 T_wRight I=some (0,[FT X 700 [I.w 0,I.w 1,I.w 2,I.w 3]]):=by
 show W6 T_wRight I=some (0,[Val.B (X9 (I.w 0).I (I.w 1).I (I.w 2).I (I.w 3).I)]);unfold T_wRight Sp Vn UI RU OE Oj PA X9;generalize ha:(I.w 0).I=a;generalize hb:(I.w 1).I=b;generalize hc:(I.w 2).I=c;generalize hd:(I.w 3).I=d;by_cases k1:a=1;by_cases q1:b<1;simp[W6,X4,bZ,dB,cD,ha,hb,hc,hd,k1,q1,M7.2 q1];by_cases q2:1048576<b;simp[W6,X4,bZ,dB,cD,ha,hb,hc,hd,k1,q1,q2,M7.2 q2];simp[W6,X4,bZ,dB,cD,ha,hb,hc,hd,k1,q1,q2,show 1<=b by omega,show b<=1048576 by omega];by_cases k2:a=2;by_cases q1:b<1;simp[W6,X4,bZ,dB,cD,ha,hb,hc,hd,k1,k2,q1];omega;by_cases q2:1048576<b;simp[W6,X4,bZ,dB,cD,ha,hb,hc,hd,k1,k2,q1,q2];omega;by_cases q3:c<1;simp[W6,X4,bZ,dB,cD,ha,hb,hc,hd,k1,k2,q1,q2,q3];omega;by_cases q4:1048576<c;simp[W6,X4,bZ,dB,cD,ha,hb,hc,hd,k1,k2,q1,q2,q3,q4];omega
 have m1:cq .rem .i64 b c=b % c:=by exact V8 (by omega)
 have m2:cq .quo .i64 b c=b/c:=by show IntKind.i64.wrap (b.tdiv c)=b/c;have h1:0<=b/c:=Int.ediv_nonneg (by omega) (by omega);have h2:b/c<=b:=Int.ediv_le_self _ (by omega);grind[mQ]
 have c0: ¬c=0:=by omega
 have e1:1<=b:=by omega
 have e2:b<=1048576:=by omega
 have e3:1<=c:=by omega
 have e4:c<=1048576:=by omega
 by_cases q5:d=0<;>by_cases q6:b % c=0<;>simp[W6,X4,bZ,dB,cD,ha,hb,hc,hd,k2,q1,q2,q3,q4,q5,q6,m1,m2,c0,e1,e2,e3,e4];by_cases k3:a=3;by_cases q1:d<1;simp[W6,X4,bZ,dB,cD,ha,hb,hc,hd,k1,k2,k3,q1,M7.2 q1];by_cases q2:1048576<d;simp[W6,X4,bZ,dB,cD,ha,hb,hc,hd,k1,k2,k3,q1,q2,M7.2 q2];simp[W6,X4,bZ,dB,cD,ha,hb,hc,hd,k1,k2,k3,q1,q2,show 1<=d by omega,show d<=1048576 by omega];simp_all[W6,X4,bZ,dB,cD]
omit hf in
def t_evRight0(h:(I.w 0).I<1\/2<(I.w 0).I):W6 T_evRight0 I=some (0,[FT X 701 [I.w 0,I.w 1,I.w 2,I.w 3]]):=by show W6 T_evRight0 I=some (0,[Val.D (X5 (I.w 0).I (I.w 1).toS (I.w 2).I (I.w 3).I)]);unfold T_evRight0 X5;rw[i6 h];by_cases h1:(I.w 0).I<1;exact Y4 (j0 h1) rfl;exact Y0 (j9 h1) (Y4 (j0 (show(2:Int)<(I.w 0).I by omega)) rfl)
omit hf in
def t_evRight1(h:(I.w 0).I=1):W6 T_evRight1 I=some (0,[FT X 701 [I.w 0,I.w 1,I.w 2,I.w 3]]):=by
 show W6 T_evRight1 I=some (0,[Val.D (X5 (I.w 0).I (I.w 1).toS (I.w 2).I (I.w 3).I)]);rw[h];unfold T_evRight1 X5 ei;generalize hk:(I.w 1).toS=k;generalize ht:(I.w 2).I=t;by_cases k0:k=[];simp_all[W6,X4,bZ,dB,cD];by_cases k1:32<k.length
 have: ¬((k.length:Int)<=32):=by omega
 simp_all[W6,X4,bZ,dB,cD]
 have:(k.length:Int)<=32:=by omega
 by_cases t1:t< -1099511627776<;>by_cases t2:1099511627776<t<;>simp[W6,X4,bZ,dB,cD,hk,ht,k0,k1,this,t1,t2,M7.2,O6.1]<;>omega
omit hf in
def t_evRight2(h:(I.w 0).I=2):W6 T_evRight2 I=some (0,[FT X 701 [I.w 0,I.w 1,I.w 2,I.w 3]]):=by show W6 T_evRight2 I=some (0,[Val.D (X5 (I.w 0).I (I.w 1).toS (I.w 2).I (I.w 3).I)]);rw[h];unfold T_evRight2 X5 ei;generalize hk:(I.w 1).toS=k;generalize ht:(I.w 2).I=t;generalize hv:(I.w 3).I=v;by_cases k0:k=[]<;>by_cases k1:v=0<;>simp[W6,X4,bZ,dB,cD,hk,ht,hv,k0,k1];grind
omit hf in
def t_down(h1:1<=(I.w 1).I)(h2:(I.w 1).I<=1048576)(h3: -1099511627776<=(I.w 0).I)(h4:(I.w 0).I<=1099511627776):W6 T_down I=some (0,[FT X 709 [I.w 0,I.w 1],.D 0]):=by
 show W6 T_down I=some (0,[Val.D (kp (I.w 0).I (I.w 1).I),Val.D 0]);unfold T_down JI Mp SQ Fq FN kp;generalize ha:(I.w 0).I=n at h3 h4;generalize hb:(I.w 1).I=d at h1 h2;have q0:=O9 n (show d≠0 by omega);have q1:=P0 n (show 0<d by omega);have d0: ¬d<=0:=by omega
 have d1: ¬d=0:=by omega
 have hr:(cq .rem .i64 n d<0/\cq .add .i64 (cq .rem .i64 n d) d=n % d)\/(0<=cq .rem .i64 n d/\cq .rem .i64 n d=n % d):=by
  show(n.tmod d<0/\IntKind.i64.wrap (n.tmod d+d)=n % d)\/(0<=n.tmod d/\n.tmod d=n % d);have t1:n.tmod d=n-d*n.tdiv d:=Int.tmod_def n d;have t2:=Int.emod_def n d;by_cases hn:0<=n;grind
  have t3:n.tmod d= -((-n) % d):=by rw[show n= -(-n) by omega,Int.neg_tmod,V8 (by omega)];simp
  have t4:(-n) % d=if n % d=0 then 0 else d-n % d:=by grind[Int.neg_emod,Int.dvd_iff_emod_eq_zero]
  by_cases z:n % d=0;omega;left;rw[t3,t4,b9 z];grind[mQ]
 have hs:cq .sub .i64 n (n % d)=n-n % d:=rZ (by omega) (by omega);rcases hr with⟨r1,r2⟩|⟨r1,r2⟩
 by_cases z:0<=n;simp_all[W6,X4,bZ,dB,cD]
 have: ¬0<=n-n % d:=by omega
 simp[W6,X4,bZ,dB,cD,ha,hb,d0,d1,r1,r2,hs,q0,z,this];omega
 have r3: ¬cq .rem .i64 n d<0:=by omega
 rw[r2]at r3;by_cases z:0<=n;simp[W6,X4,bZ,dB,cD,ha,hb,d0,d1,r2,r3,hs,q0,z]
 have: ¬0<=n-n % d:=by omega
 simp[W6,X4,bZ,dB,cD,ha,hb,d0,d1,r2,r3,hs,q0,z,this];omega
