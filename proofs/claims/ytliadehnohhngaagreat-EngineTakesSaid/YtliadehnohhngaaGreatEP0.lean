import Derived.Test.YtliadehnohhngaaGreatEL19
set_option linter.all false
namespace Go.Ev.S9
open Go Go.Ev
def Wa:SX:= eQ aO aZ
def RZ:SX:= zb aO 1048576
def WE:SX:= ze aS 0
def WP:SX:= ze aV 0
def T_rRight:VT:= .J (ze aN 1) (.J (Wa) (.J (RZ) (.J (WE) (.W 0 [WP]) (.W 0 [.cb false])) (.W 0 [.cb false])) (.W 0 [.cb false])) (.J (ze aN 2) (.J (Wa) (.J (RZ) (.J (eQ aS aZ) (.J (zb aS 1048576) (.J (WP) (.N (cX aS aM) (.J (ze (.O (.ar .rem .i64) [aO,aS]) 0) (.W 0 [zb (.O (.ar .quo .i64) [aO,aS]) 16]) (.W 0 [.cb false]))) (.W 0 [.cb false])) (.W 0 [.cb false])) (.W 0 [.cb false])) (.W 0 [.cb false])) (.W 0 [.cb false])) (.J (ze aN 3) (.J (eQ aV aZ) (.J (zb aV 1048576) (.J (ze aO 0) (.W 0 [WE]) (.W 0 [.cb false])) (.W 0 [.cb false])) (.W 0 [.cb false])) (.W 0 [.cb false])))
def Sq:SX:= ze aN 2
def Sa:SX:= .O (.scmp .neq) [aO,.cs []]
def Si:SX:= cX aV aM
def GU:SX:= zs aS (.C (-1099511627776))
def Hm:SX:= zt aS 1099511627776
def T_rev:VT:= .J (cX aN aZ) (.J (cX aN bm) (.W 0 [.C 80]) (.J (Sq) (.J (Sa) (.W 0 [bL]) (.J (Si) (.W 0 [bL]) (.J (GU) (.W 0 [bG]) (.J (Hm) (.W 0 [bG]) (.W 0 [aM]))))) (.J (GU) (.W 0 [bG]) (.J (Hm) (.W 0 [bG]) (.W 0 [aM]))))) (.J (zs (.O .slen [aO]) aZ) (.W 0 [bL]) (.J (zt (.O .slen [aO]) 32) (.W 0 [bL]) (.J (Sq) (.J (Sa) (.W 0 [bL]) (.J (Si) (.W 0 [bL]) (.J (GU) (.W 0 [bG]) (.J (Hm) (.W 0 [bG]) (.W 0 [aM]))))) (.J (GU) (.W 0 [bG]) (.J (Hm) (.W 0 [bG]) (.W 0 [aM]))))))
def dc9:SX:= .O (.ar .and .i64) [aN,bO]
def dd0:SX:= za (.O (.ar .shr .i64) [aN,bM]) (.O (.ar .shr .i64) [dc9,bM])
def dd1:SX:= za aM (.O (.ar .shr .i64) [dd0,bM])
def T_r3of:VT:= .W 0 [.O (.ar .and .i64) [dc9,bO],.O (.ar .and .i64) [dd0,bO],.O (.ar .and .i64) [dd1,bO],za aM (.O (.ar .shr .i64) [dd1,bM])]
def c66:SX:= za aN aT
def c67:SX:= za (za aO bg) (.O (.ar .shr .i64) [c66,bM])
def c68:SX:= za (za aS bd) (.O (.ar .shr .i64) [c67,bM])
def T_r3plus:VT:= .W 0 [.O (.ar .and .i64) [c66,bO],.O (.ar .and .i64) [c67,bO],.O (.ar .and .i64) [c68,bO],za (za aV bf) (.O (.ar .shr .i64) [c68,bM])]
def lZ:SX:= .O (.ar .or .i64) [.O (.ar .shl .i64) [aO,bM],aN]
def T_r3fit:VT:= .J (dR (zn (cF (cq (.Q 810 [lZ]) aM 0) aN) (zn (cF (cq (.Q 810 [lZ]) aM 1) aO) (zn (cF (cq (.Q 810 [lZ]) aM 2) aS) (cF (cq (.Q 810 [lZ]) aM 3) aV))))) (.W 0 [aM,.cb false]) (.W 0 [lZ,.cb true])
def vg:SX:= .Q 850 [aM,aM,aM,aM,aM,aM,zl 0,aN]
def yc:SX:= zo vg 1
def xg:SX:= zo vg 2
def wX:SX:= zo vg 3
def wx:SX:= zo vg 4
def ej1:VT:= .J (zs aU (zl 0)) (.N (zp aU) (.W 0 [zi aU,cq (.Q 811 [aR,aW,bj,bq,cq (.Q 810 [zg 0 2000 0]) aM 0,cq (.Q 810 [zg 0 2000 0]) aM 1,cq (.Q 810 [zg 0 2000 0]) aM 2,cq (.Q 810 [zg 0 2000 0]) aM 3]) aM 0,cq (.Q 811 [aR,aW,bj,bq,cq (.Q 810 [zg 0 2000 0]) aM 0,cq (.Q 810 [zg 0 2000 0]) aM 1,cq (.Q 810 [zg 0 2000 0]) aM 2,cq (.Q 810 [zg 0 2000 0]) aM 3]) aM 1,cq (.Q 811 [aR,aW,bj,bq,cq (.Q 810 [zg 0 2000 0]) aM 0,cq (.Q 810 [zg 0 2000 0]) aM 1,cq (.Q 810 [zg 0 2000 0]) aM 2,cq (.Q 810 [zg 0 2000 0]) aM 3]) aM 2,cq (.Q 811 [aR,aW,bj,bq,cq (.Q 810 [zg 0 2000 0]) aM 0,cq (.Q 810 [zg 0 2000 0]) aM 1,cq (.Q 810 [zg 0 2000 0]) aM 2,cq (.Q 810 [zg 0 2000 0]) aM 3]) aM 3])) (.W 1 [aU,aR,aW,bj,bq])
def T_r3Sum:VT:= .loop ⟨850,[aM,aM,aM,aM,aM],2000,[aM,zl 0,aN]⟩ ej1 [.J (dR (.Q 813 [yc,xg,wX,wx])) (.W 0 [aM,bS]) (.W 0 [.Q 812 [yc,xg,wX,wx],aM])]
def Ku:SX:= .Q 851 [aM,aM,aM,aM,aM,aM,aM,aM,aM,aM,zl 0,aN,.Q 842 [aN]]
def IH:VT:= .J (zs aU (zl 0)) (.J (ze aU 0) (.N (zp aU) (.W 0 [zi aU,aR,aW,bj,bq,bv,bw,zg 0 2000 0,zg 0 2000 0])) (.N (zp aU) (.J (zs (zg 0 2000 0) bA) (.J (dF (zg 0 2000 0) bx) (.W 0 [zi aU,aR,aW,bj,bq,bv,bw,zg 0 2000 0,zg 0 2000 0]) (.W 0 [zi aU,aR,aW,bj,bq,bv,bw,zg 0 2000 0,bx])) (.J (dF (zg 0 2000 0) bx) (.W 0 [zi aU,aR,aW,bj,bq,bv,bw,bA,zg 0 2000 0]) (.W 0 [zi aU,aR,aW,bj,bq,bv,bw,bA,bx]))))) (.W 1 [aU,aR,aW,bj,bq,bv,bw,bA,bx])
def T_rAll:VT:= .N (zb (zl 0) 100) (.J (cX (.Q 843 [aN]) aM) (.W 0 [aM,aM,aM,aM,.Q 843 [aN]]) (.loop ⟨851,[aM,aM,aM,aM,aM,aM,aM,aM,aM],2000,[aM,zl 0,aN,.Q 842 [aN]]⟩ IH [.W 0 [zl 0,.Q 842 [aN],zo Ku 7,zo Ku 8,aM]]))
def dR1:SX:= .O (.ar .mul .i64) [zm (zm (.O (.ar .quo .i64) [aT,aS]) (.O (.ar .quo .i64) [aO,aS])) aZ,aS]
def dR2:SX:= .Q 853 [zL co,dR1,co,aT,aN,aO,aS,aV]
def dR3:SX:= zo dR2 2
def dR4:SX:= .O (.ar .mul .i64) [zm (zm (.O (.ar .quo .i64) [aT,aO]) (.O (.ar .quo .i64) [aO,aO])) aZ,aO]
def dR5:SX:= .Q 853 [zL co,dR4,co,aT,aN,aO,aS,aV]
def dR6:SX:= zo dR5 2
def Ji:VT:= .J (eE aR aT) (.J (zs aT (za aR aO)) (.N (zn (cF aU (zl 2002)) (zb (zL (zc aW (.O .row [.O .row [aR,za aR aO]]))) 1000000)) (.J (ze aN 2) (.W 0 [zL (zc aW (.O .row [.O .row [aR,za aR aO]])),za aR aS,zc aW (.O .row [.O .row [aR,za aR aO]])]) (.W 0 [zL (zc aW (.O .row [.O .row [aR,za aR aO]])),za aR aO,zc aW (.O .row [.O .row [aR,za aR aO]])]))) (.J (ze aN 2) (.W 0 [aU,za aR aS,aW]) (.W 0 [aU,za aR aO,aW]))) (.W 1 [aU,aR,aW])
def T_rOf:VT:= .J (dR (.Q 700 [aN,aO,aS,aV])) (.W 0 [co]) (.J (zs aT (.C (-1099511627776))) (.W 0 [co]) (.J (zt aT 1099511627776) (.W 0 [co]) (.J (ze aN 3) (.W 0 [.O .row [.O .row [aT,za aT aV]]]) (.J (ze aN 2) (.N (cX aS aM) (.loop ⟨853,[zL co,dR1,co],2000,[aT,aN,aO,aS,aV]⟩ Ji [.N (cF (zo dR2 0) (zL dR3)) (.W 0 [dR3])])) (.N (cX aO aM) (.loop ⟨853,[zL co,dR4,co],2000,[aT,aN,aO,aS,aV]⟩ Ji [.N (cF (zo dR5 0) (zL dR6)) (.W 0 [dR6])]))))))
def mf:SX:= .Q 860 [aM,zL co,aM,co,aN,aM,zl 1,aO]
def tN:SX:= zo mf 3
def wb:SX:= .Q 854 [zL tN,.cb true,tN]
def pY:SX:= zo wb 0
def nq:SX:= zo wb 2
def Et:SX:= .Q 855 [zL co,aM,co,pY,nq]
def Oi:SX:= zo Et 2
def X0:SX:= cF aR (zl 2003)
def X1:SX:= zc bj (.O .row [.O .row [zg 1 2002 0,za (zg 1 2002 0) aN]])
def Rl:VT:= .J (zs aW (zl 1)) (.N (zp aW) (.J (eQ (zg 1 2002 0) (.C (-1099511627776))) (.J (dR (zb (zg 1 2002 0) 1099511627776)) (.W 2 [bm,aR,aW,bj]) (.N (zn X0 (zb (zL X1) 1000000)) (.W 0 [aU,zL X1,zi aW,X1]))) (.W 2 [bm,aR,aW,bj]))) (.W 1 [aU,aR,aW,bj])
def X2:SX:= cF bH (zl 6002)
def X3:SX:= zc bD (.O .row [.O .row [zg 2002 6001 0,zg 2002 6001 1]])
def Rk:VT:= .N (zp aU) (.J (zs bz aU) (.J (cX bz bi) (.J (cX bz bE) (.N (zp bz) (.N (zs bz (zl 2002)) (.N (zn X2 (zb (zL X3) 1000000)) (.W 0 [zL X3,zi bz,X3])))) (.W 0 [bH,zi bz,bD])) (.W 0 [bH,zi bz,bD])) (.W 1 [bH,bz,bD]))
def X4:SX:= .O .row [.O .row [.O .imin [zg 2002 4001 0,zg 2002 5001 0],.O .imax [zg 2002 4001 1,zg 2002 5001 1]]]
def X5:SX:= .Q 859 [zL X4,aM,X4,aU,aW,bi,bE]
def Yz:VT:= .N (zp aU) (.J (zs bE aU) (.N (zn (zp bi) (zs bi aU)) (.N (zs bi (zl 2002)) (.N (zp bE) (.N (zs bE (zl 2002)) (.J (zs (zg 2002 4001 0) (zg 2002 5001 1)) (.J (dR (zs (zg 2002 5001 0) (zg 2002 4001 1))) (.W 0 [.V 5000,zi bE]) (.loop ⟨859,[zL X4,aM,X4],6000,[aU,aW,bi,bE]⟩ Rk [.N (cF (zo X5 0) (zL (zo X5 2))) (.W 2 [zL (zo X5 2),.cb true,bE,zo X5 2])])) (.W 0 [.V 5000,zi bE])))))) (.W 1 [.V 5000,bE]))
def X6:SX:= .Q 858 [bI,zi bi,aU,aW,bi]
def Sg:VT:= .N (zp aU) (.J (zs bi aU) (.loop ⟨858,[bI,zi bi],5000,[aU,aW,bi]⟩ Yz [.W 0 [zo X6 0,zi bi],.N (cF (zo X6 0) (zL (zo X6 3))) (.W 2 [zL (zo X6 3),zo X6 1,bi,zo X6 3])]) (.W 1 [bI,bi]))
def X7:SX:= .Q 857 [.cb false,aM,aU,aW]
def FF:VT:= .J aR (.loop ⟨857,[.cb false,aM],4000,[aU,aW]⟩ Sg [.W 0 [aU,.cb false,aW],.N (cF (zo X7 0) (zL (zo X7 3))) (.W 0 [zL (zo X7 3),zo X7 1,zo X7 3])]) (.W 1 [aU,aR,aW])
def X8:SX:= zc aW (.O .row [.O .row [cq nq aR 0,cq nq aR 1]])
def X9:SX:= cq bc (zm aY aZ) 0
def PY:SX:= .O .lset [bc,zm aY aZ,.O .row [zg 3001 3000 0,zg 3001 3000 1]]
def VG:VT:= .J (zt aY 0) (.N (zn (zp (zm aY aZ)) (zs (zm aY aZ) (zL X8))) (.N (zs (zm aY aZ) (zl 3001)) (.N (zn (zp aY) (zs aY (zL X8))) (.N (zs aY (zl 3001)) (.J (dF X9 (zg 3001 3000 0)) (.N (zs aY (zL PY)) (.W 0 [zm aY aZ,.O .lset [PY,aY,.O .row [X9,cq bc (zm aY aZ) 1]]])) (.W 1 [aY,bc])))))) (.W 1 [aY,bc])
def OM:SX:= cF aU (zl 2002)
def Eo:SX:= zo (.Q 856 [aR,X8,pY,nq,zL X8,X8,aR]) 1
def ej2:VT:= .N (zp pY) (.J (zs aR pY) (.N (zp aR) (.N (zs aR (zL nq)) (.N (zn OM (zb (zL X8) 1000000)) (.loop ⟨856,[aR,X8],3000,[pY,nq,zL X8,X8,aR]⟩ VG [.N (cF (zL X8) (zL Eo)) (.W 0 [zL Eo,zi aR,Eo])])))) (.W 1 [aU,aR,aW]))
def T_sOf:VT:= .J (eQ aN aZ) (.J (dR (zb aN 1048576)) (.W 0 [bm,co]) (.loop ⟨860,[aM,zL co,aM,co],2000,[aN,aM,zl 1,aO]⟩ Rl [.N (cF (zo mf 1) (zL tN)) (.loop ⟨854,[zL tN,.cb true,tN],2000,[]⟩ FF [.loop ⟨855,[zL co,aM,co],2000,[pY,nq]⟩ ej2 [.N (cF (zo Et 0) (zL Oi)) (.W 0 [aM,Oi])]]),.W 0 [zo mf 0,co]])) (.W 0 [bm,co])
def SV:VT:= .J (zs aR (zl 0)) (.N (zp aR) (.J (zn (.O (.scmp .eql) [zg 0 2001 0,aO]) (zn (cF (zg 0 2001 1) aS) (cF (zg 0 2001 2) aV))) (.W 2 [.cb true,aR]) (.W 0 [aU,zi aR]))) (.W 1 [aU,aR])
def T_has:VT:= .loop ⟨864,[.cb false,aM],2000,[aM,zl 0,aN,aO,aS,aV]⟩ SV [.W 0 [.cb false],.W 0 [zo (.Q 864 [.cb false,aM,aM,zl 0,aN,aO,aS,aV]) 0]]
def uM:SX:= .Q 861 [zL co,aM,co,aM,zl 4,aT,bg,aN,aO,aS,aV]
def mF:SX:= zo uM 0
def oF:SX:= zo uM 2
def yI:SX:= .O .lsub [oF,aM,mF]
def pK:SX:= .Q 824 [aV,yI]
def Mz:SX:= .Q 862 [zL co,aM,co,zL pK,pK]
def ME:SX:= zo Mz 2
def NZ:SX:= .Q 863 [zL co,aM,co,aN,aO,aS,aV,mF,oF]
def Qq:SX:= zo NZ 2
def X13:SX:= zs aR (zl 4)
def XW:SX:= zc aW (.O .row [.O .row [zg 4 2001 2]])
def eq0:VT:= .J X13 (.N (zp aR) (.J (.O (.scmp .eql) [zg 4 2001 1,bg]) (.N (zn OM (zb (zL XW) 1000000)) (.W 0 [zL XW,zi aR,XW])) (.W 0 [aU,zi aR,aW]))) (.W 1 [aU,aR,aW])
def Sz:SX:= zc aW (.O .row [.O .row [cq pK aR 0,cq pK aR 1]])
def eq1:VT:= .J (zs aR (zL pK)) (.N (zp aR) (.N (zn OM (zb (zL Sz) 1000000)) (.W 0 [zL Sz,zi aR,Sz]))) (.W 1 [aU,aR,aW])
def Cu:SX:= zc aW (.Q 704 [aN,aO,aS,aV,cq oF aR 0])
def Ur:VT:= .N (zp mF) (.J (zs aR mF) (.N (zp aR) (.N (zs aR (zL oF)) (.N (zn OM (zb (zL Cu) 1000000)) (.W 0 [zL Cu,zi aR,Cu])))) (.W 1 [aU,aR,aW]))
def T_rSpans:VT:= .loop ⟨861,[zL co,aM,co],2000,[aM,zl 4,aT,bg,aN,aO,aS,aV]⟩ eq0 [.J (ze aN 3) (.N (zn (zn (zp mF) (eE mF (zL oF))) (zb (zL yI) 100)) (.loop ⟨862,[zL co,aM,co],2000,[zL pK,pK]⟩ eq1 [.N (cF (zo Mz 0) (zL ME)) (.W 0 [ME])])) (.loop ⟨863,[zL co,aM,co],2000,[aN,aO,aS,aV,mF,oF]⟩ Ur [.N (cF (zo NZ 0) (zL Qq)) (.W 0 [Qq])])]
def uQ:SX:= .Q 865 [.cb false,zL co,aM,co,aM,zl 4,aT,aN,aO,aS,aV]
def Ii:SX:= zo uQ 1
def Nq:SX:= zo uQ 3
def zS:SX:= .O .lsub [Nq,aM,Ii]
def eh:SX:= .Q 826 [aN,aO,aS,aV,aT,zg 4 2002 1]
def zf:SX:= zc bD (.O .row [.O .row [zg 4 6001 3]])
def Qh:VT:= .J (zs bz (zl 4)) (.N (zp bz) (.J (.O (.scmp .eql) [zg 4 6001 1,zg 4 2002 1]) (.N (zn (zp bn) (zs bn (zL eh))) (.J (eQ (zg 4 6001 2) (cq eh bn 0)) (.J (zs (zg 4 6001 2) (cq eh bn 1)) (.N (zn X2 (zb (zL zf) 1000000)) (.W 0 [zL zf,zi bz,zf])) (.W 0 [bH,zi bz,bD])) (.W 0 [bH,zi bz,bD]))) (.W 0 [bH,zi bz,bD]))) (.W 1 [bH,bz,bD])
def X19:SX:= zs aW (zl 4)
def qa:SX:= .Q 867 [zL co,aM,co,aM,zl 4,aT,aN,aO,aS,aV,bi,bF,aW,zL eh,eh,bn,zg 4 2002 1,cq eh bn 0,cq eh bn 1]
def nc:SX:= .O .lsub [zo qa 2,aM,zo qa 0]
def Cs:SX:= zc bF (.O .row [.O .row [zg 4 2002 1,cq eh bn 0,cq eh bn 1,cq (.Q 820 [nc]) aM 0,cq (.Q 820 [nc]) aM 1,cq (.Q 820 [nc]) aM 2,cq (.Q 820 [nc]) aM 3]])
def Zd:VT:= .J (zs bn (zL eh)) (.N (zn (zp aW) X19) (.N (zp bn) (.N (zn (zn (zp bi) (eE bi (zl 4003))) (zb (zL (.O .lsub [bF,aM,bi])) 1000000)) (.J (.Q 827 [.O .lsub [bF,aM,bi],zg 4 2002 1,cq eh bn 0,cq eh bn 1]) (.W 0 [bI,bi,zi bn,bF]) (.loop ⟨867,[zL co,aM,co],6000,[aM,zl 4,aT,aN,aO,aS,aV,bi,bF,aW,zL eh,eh,bn,zg 4 2002 1,cq eh bn 0,cq eh bn 1]⟩ Qh [.N (zn (zn (zp (zo qa 0)) (eE (zo qa 0) (zL (zo qa 2)))) (zb (zL nc) 100)) (.J (cX (.Q 843 [nc]) aM) (.W 2 [.cb false,bi,bn,bF]) (.N (zn (cF bi (zl 4003)) (zb (zL Cs) 1000000)) (.W 0 [bI,zL Cs,zi bn,Cs])))]))))) (.W 1 [bI,bi,bn,bF])
def fK:SX:= .Q 866 [aU,zl 2003,aM,bj,aM,zl 4,aT,aN,aO,aS,aV,aW,zL eh,eh]
def X24:SX:= cF (zo fK 1) (zL (zo fK 3))
def Yj:VT:= .J X19 (.N (zp aW) (.N (zb (zl 4) 100) (.N X0 (.loop ⟨866,[aU,zl 2003,aM,bj],4000,[aM,zl 4,aT,aN,aO,aS,aV,aW,zL eh,eh]⟩ Zd [.N X24 (.W 0 [zo fK 0,zL (zo fK 3),zi aW,zo fK 3]),.N X24 (.W 2 [zo fK 0,zL (zo fK 3),aW,zo fK 3])])))) (.W 1 [aU,aR,aW,bj])
def T_rRows:VT:= .loop ⟨865,[.cb false,zL co,aM,co],2000,[aM,zl 4,aT,aN,aO,aS,aV]⟩ Yj [.N (zn (zn (zp Ii) (eE Ii (zL Nq))) (zn (zb (zL zS) 400) (.Q 431 [zS]))) (.W 0 [.cb true,.Q 490 [zS]]),.W 0 [zo uQ 0,co]]
def PJ:SX:= .Q 868 [zL co,aM,co,aM,zl 0,aN,aO]
def KV:SX:= zo PJ 2
def ej3:VT:= .J (zs aR (zl 0)) (.N (zp aR) (.J (eE (zg 0 2001 2) aO) (.N (zn (cF aU (zl 2002)) (zb (zL (zc aW (.O .row [zv 0 2001]))) 1000000)) (.W 0 [zL (zc aW (.O .row [zv 0 2001])),zi aR,zc aW (.O .row [zv 0 2001])])) (.W 0 [aU,zi aR,aW]))) (.W 1 [aU,aR,aW])
def T_rFired:VT:= .loop ⟨868,[zL co,aM,co],2000,[aM,zl 0,aN,aO]⟩ ej3 [.N (cF (zo PJ 0) (zL KV)) (.W 0 [KV])]
def Mt:SX:= .Q 870 [zL co,aM,co,aM,zl 0,aN]
def QG:SX:= zo Mt 2
def ej4:VT:= .J (zs aR (zl 0)) (.N (zp aR) (.J (ze (zg 0 2001 0) 1) (.N (zn (cF aU (zl 2002)) (zb (zL (zc aW (.O .row [.O .row [zg 0 2001 0,zg 0 2001 1,zg 0 2001 2,zg 0 2001 3]]))) 1000000)) (.W 0 [zL (zc aW (.O .row [.O .row [zg 0 2001 0,zg 0 2001 1,zg 0 2001 2,zg 0 2001 3]])),zi aR,zc aW (.O .row [.O .row [zg 0 2001 0,zg 0 2001 1,zg 0 2001 2,zg 0 2001 3]])])) (.W 0 [aU,zi aR,aW]))) (.W 1 [aU,aR,aW])
def T_rEvents:VT:= .loop ⟨870,[zL co,aM,co],2000,[aM,zl 0,aN]⟩ ej4 [.N (cF (zo Mt 0) (zL QG)) (.W 0 [QG])]
def Fs:SX:= zm (zl 0) aZ
def YS:VT:= .J (eQ aR aM) (.N (zs aR (zl 0)) (.J (ze (zg 0 2001 0) 2) (.W 2 [zg 0 2001 2,aR]) (.W 0 [aU,zm aR aZ]))) (.W 1 [aU,aR])
def T_rMark:VT:= .loop ⟨871,[aM,Fs],2000,[aM,zl 0,aN]⟩ YS [.W 0 [.C (-2199023255552)],.W 0 [zo (.Q 871 [aM,Fs,aM,zl 0,aN]) 0]]
def L852:VT:= .J (zs aR (zl 0)) (.N (zp aR) (.N (zs aR (zl 1)) (.J (dR (zn (zn (.O (.scmp .eql) [zg 0 2001 0,zg 1 2001 0]) (zn (cF (zg 0 2001 1) (zg 1 2001 1)) (cF (zg 0 2001 2) (zg 1 2001 2)))) (zn (cF (zg 0 2001 3) (zg 1 2001 3)) (zn (cF (zg 0 2001 4) (zg 1 2001 4)) (zn (cF (zg 0 2001 5) (zg 1 2001 5)) (cF (zg 0 2001 6) (zg 1 2001 6))))))) (.W 2 [.cb false,aR]) (.W 0 [aU,zi aR])))) (.W 1 [aU,aR])
def T_sameV:VT:= .J (cX (zl 0) (zl 1)) (.W 0 [.cb false]) (.loop ⟨852,[.cb false,aM],2000,[aM,zl 0,aN,aM,zl 1,aO]⟩ L852 [.W 0 [.cb true],.W 0 [zo (.Q 852 [.cb false,aM,aM,zl 0,aN,aM,zl 1,aO]) 0]])
def jt:SX:= zL (.Q 490 [aT])
def wT:SX:= zo (.Q 763 [aM,aM,jt,.Q 490 [aT],bg,jt]) 0
def HV:SX:= zi wT
def IK:SX:= .Q 764 [wT,HV,.Q 490 [aT],jt,.Q 490 [aT],bg]
def oY:SX:= zo IK 0
def Xx:SX:= zp oY
def yY:SX:= .O .isub [jt,oY]
def Md:SX:= .O .iadd [oY,yY]
def wQ:SX:= zo IK 2
def Od:SX:= zc (.O .lsub [wQ,aM,oY]) (zc (.O .lrep [yY,.O .row [.cs [],aM,aM,aM,aM,aM,aM]]) (.O .lsub [wQ,Md,zL wQ]))
def Te:VT:= .J (zs aR jt) (.N (zp aR) (.J (dF (cq (.Q 490 [aT]) aR 2) bg) (.W 2 [aR,aR]) (.W 0 [aU,zi aR]))) (.W 1 [aU,aR])
def ST:VT:= .J (zs aR jt) (.N (zp aR) (.N (zs aR (zl 2002)) (.J (dR (dF (zg 2002 2001 2) bg)) (.N (zn (zp aU) (zs aU jt)) (.N (zs aU (zl 2002)) (.W 0 [zi aU,zi aR,.O .lset [aW,aU,zv 2002 2001]]))) (.W 0 [aU,zi aR,aW])))) (.W 1 [aU,aR,aW])
def T_fired:VT:= .N (zn (zn (zb (zl 4) 400) (.Q 431 [aT])) (.Q 491 [aT])) (.loop ⟨763,[aM,aM],2000,[jt,.Q 490 [aT],bg,jt]⟩ Te [.W 0 [.Q 490 [aT]],.J (cF wT (.C (-1))) (.W 0 [.Q 490 [aT]]) (.loop ⟨764,[wT,HV,.Q 490 [aT]],2000,[jt,.Q 490 [aT],bg]⟩ ST [.N (zn Xx (eE oY jt)) (.N (zn (zn Xx (zp yY)) (zn (zb yY 1000000) (eE Md (zL wQ)))) (.N (eE oY (zL Od)) (.W 0 [.O .lsub [Od,aM,oY]])))])])
variable{I:Opq}{n v0:Nat}
def dR9(l:U0)(mark:Int)(i:Nat):U0:=bif decide (ci (cg l i) 2<=mark)then [cO (cg l i)]else []
def sA(l:U0)(mark:Int):U0:=cw (dR9 l mark) l.length
def ej5(l:U0)(i:Nat):U0:=bif decide (ci (cg l i) 0=1)then [wC (cg l i)]else []
def lO(l:U0):U0:=cw (ej5 l) l.length
def ej6(l:U0):U0:=cw (λi=>[wC (cg l i)]) l.length
def QU(l:U0)(key:qw)(i:Nat):U0:=bif decide ((Y5 (cg l i) 1).S=key)then [.A [Y5 (cg l i) 2]]else []
def md(l:U0)(key:qw):U0:=cw (QU l key) l.length
def qG(l:U0):Nat->Nat×U0
 |0=>(0,[.D 0,.D (-1)])
 |k+1=>if ci (cg l k) 0=2 then(1,[Y5 (cg l k) 2,.D k])else qG l k
def pb(l:U0):Nat->Val
 |0=> .D (-2199023255552)
 |k+1=>if ci (cg l k) 0=2 then Y5 (cg l k) 2 else pb l k
def DV(l:U0)(p:PaneM)(i:Nat):Bool:=decide (Y2 (cg l i)=p)
def TC(n:Int):Int:=cr .and .i64 n 4294967295
def LV(n:Int):Int:=cr .add .i64 (cr .shr .i64 n 32) (cr .shr .i64 (TC n) 32)
def Mi(n:Int):Int:=cr .add .i64 0 (cr .shr .i64 (LV n) 32)
def gT(n:Int):aaC:=[cr .and .i64 (TC n) 4294967295,cr .and .i64 (LV n) 4294967295,cr .and .i64 (Mi n) 4294967295,cr .add .i64 0 (cr .shr .i64 (Mi n) 32)]
def XF(x y:aaC):Int:=cr .add .i64 (x.getD 0 0) (y.getD 0 0)
def Qz(x y:aaC):Int:=cr .add .i64 (cr .add .i64 (x.getD 1 0) (y.getD 1 0)) (cr .shr .i64 (XF x y) 32)
def OV(x y:aaC):Int:=cr .add .i64 (cr .add .i64 (x.getD 2 0) (y.getD 2 0)) (cr .shr .i64 (Qz x y) 32)
def tT(x y:aaC):aaC:=[cr .and .i64 (XF x y) 4294967295,cr .and .i64 (Qz x y) 4294967295,cr .and .i64 (OV x y) 4294967295,cr .add .i64 (cr .add .i64 (x.getD 3 0) (y.getD 3 0)) (cr .shr .i64 (OV x y) 32)]
def bk(a b:Int):Int:=cr .or .i64 (cr .shl .i64 b 32) a
def pe(w:aaC):Bool:=decide (gT (bk (w.getD 0 0) (w.getD 1 0))=[w.getD 0 0,w.getD 1 0,w.getD 2 0,w.getD 3 0])
def mO(l:U0):Nat->aaC
 |0=>[0,0,0,0]
 |k+1=>tT (mO l k) (gT (ci (cg l k) 0))
def vI(l:aaC):U0:=l.map .D
def AR(a:U0)(i:Nat):aaC:=[(ce a i).I,(ce a (i+1)).I,(ce a (i+2)).I,(ce a (i+3)).I]
def fy(l:U0):Nat->Val×Val
 |0=>(.D 0,.D 0)
 |k+1=>if k=0 then(Y5 (cg l k) 0,Y5 (cg l k) 0)else(if ci (cg l k) 0<(fy l k).1.I then Y5 (cg l k) 0 else(fy l k).1,if(fy l k).2.I<ci (cg l k) 0 then Y5 (cg l k) 0 else(fy l k).2)
def CS(v0:Nat)(row:SX):SX:= zc (.V (v0+2)) (.O .row [row])
def Gp(v0:Nat)(row:SX):VT:= .N (zn (cF (.V v0) (zL (.V (v0+2)))) (zb (zL (CS v0 row)) 1000000)) (.W 0 [zL (CS v0 row),zi (.V (v0+1)),CS v0 row])
def LS(v0:Nat):VT:= .W 0 [.V v0,zi (.V (v0+1)),.V (v0+2)]
def Hq(v0:Nat)(N:SX)(b:VT):VT:= .J (zs (.V (v0+1)) N) (.N (zp (.V (v0+1))) b) (.W 1 [.V v0,.V (v0+1),.V (v0+2)])
def ua(I:Opq)(v0:Nat)(a b c:Val):(I.U v0 [a,b,c]).w v0=a:=by rw[Y8];simp
def ko(I:Opq)(v0:Nat)(a b c:Val):(I.U v0 [a,b,c]).w (v0+1)=b:=by rw[Y8];simp
def uu(I:Opq)(v0:Nat)(a b c:Val):(I.U v0 [a,b,c]).w (v0+2)=c:=by rw[Y8];simp
theorem cR(I:Opq)(v0:Nat)(l:U0)(h:n<v0):(I.U v0 l).w n=I.w n:=by simp_all[Y8,b9]
def c69{row:SX}{i:Nat}{acc:U0}{x:Val}(h0:I.w v0= .D acc.length)(h1:I.w (v0+1)= .D i)(h2:I.w (v0+2)= .A acc)(hr:bZ I row=x)(hi:i<1000000)(ha:acc.length<1000000):
 W5 (Gp v0 row) I=some (0,[.D (acc++[x]).length,.D (i+1:Nat),.A (acc++[x])]):=by
 have inc:cr .add .i64 (Val.D (i:Int)).I 1=((i+1:Nat):Int):=ft (n:=1000000) hi (by omega);have dc:bZ I (CS v0 row)= .A (acc++[x]):=by show Val.A ((I.w (v0+2)).L++[bZ I row])=_;simp_all
 refine W6 ?_ ?_;rw[dG,dY,cJ,cI,h0,cK,cK,cM,h2,cG,dc];grind[Aw];show some (0,[Val.D (bZ I (CS v0 row)).L.length,Val.D (cr .add .i64 (I.w (v0+1)).I 1),bZ I (CS v0 row)])=_;simp_all
def d32{i:Nat}{acc:U0}(h0:I.w v0= .D acc.length)(h1:I.w (v0+1)= .D i)(h2:I.w (v0+2)= .A acc)(hi:i<1000000):
 W5 (LS v0) I=some (0,[.D acc.length,.D (i+1:Nat),.A acc]):=by
 have inc:cr .add .i64 (Val.D (i:Int)).I 1=((i+1:Nat):Int):=ft (n:=1000000) hi (by omega);show some (0,[I.w v0,Val.D (cr .add .i64 (I.w (v0+1)).I 1),I.w (v0+2)])=_;grind
def dS0{N:SX}{b:VT}{g:Nat->U0}(hn:n<=100000)(hg: ∀i,(g i).length<=1)(hN: ∀vs,(bZ (I.U v0 vs) N).I=n)
 (hb: ∀i acc,i<n->acc.length<=i->W5 b (I.U v0 [.D acc.length,.D i,.A acc])=some (0,[.D (acc++g i).length,.D (i+1:Nat),.A (acc++g i)])):
 cQ (λvs=>W5 (Hq v0 N b) (I.U v0 vs)) [.D 0,.D 0,.A []]=some (0,[.D (cw g n).length,.D n,.A (cw g n)]):=by
 have hl: ∀i,(cw g i).length<=i:=λi=>by have:=jz hg i;omega
 refine fD (st:=λi=>[.D (cw g i).length,.D i,.A (cw g i)]) (n:=n) (λi hi=> ?_) ?_;refine cD ?_ (W6 ?_ (hb i (cw g i) hi (hl i)));rw[cW,cI,ko,hN];exact i6 (by show(i:Int)<(n:Int);omega);simp_all[cJ,cG,cI,ko,i6];refine Y9 ?_ ?_;simp_all[cW,cI,ko,j7];show some (1,[(I.U v0 _).w v0,(I.U v0 _).w (v0+1),(I.U v0 _).w (v0+2)])=_;rw[ua,ko,uu]
def Rf{N c row:SX}{p:Nat->Bool}{f:Nat->Val}(hn:n<=100000)(hN: ∀vs,(bZ (I.U v0 vs) N).I=n)
 (hc: ∀i a acc,i<n->dB (I.U v0 [a,.D i,acc]) c=p i) (hr: ∀i a acc,i<n->bZ (I.U v0 [a,.D i,acc]) row=f i):
 cQ (λvs=>W5 (Hq v0 N (.J c (Gp v0 row) (LS v0))) (I.U v0 vs)) [.D 0,.D 0,.A []]=some (0,[.D (cw (λi=>bif p i then [f i]else []) n).length,.D n,.A (cw (λi=>bif p i then [f i]else []) n)]):=by
 refine dS0 hn (λi=>by grind) hN λi acc hi ha=> ?_
 cases h:p i with
 |true=>exact cD ((hc i _ _ hi).trans h) (c69 (ua ..) (ko ..) (uu ..) (hr i _ _ hi) (by omega) (by omega))
 |false=>
  rw[cond_false,o9];exact Y9 ((hc i _ _ hi).trans h) (d32 (ua ..) (ko ..) (uu ..) (by omega))
def ZU{N row:SX}{f:Nat->Val}(hn:n<=100000)(hN: ∀vs,(bZ (I.U v0 vs) N).I=n)(hr: ∀i a acc,i<n->bZ (I.U v0 [a,.D i,acc]) row=f i):
 cQ (λvs=>W5 (Hq v0 N (Gp v0 row)) (I.U v0 vs)) [.D 0,.D 0,.A []]=some (0,[.D (cw (λi=>[f i]) n).length,.D n,.A (cw (λi=>[f i]) n)]):=
 dS0 hn (λi=>by simp) hN λi acc hi ha=>c69 (ua ..) (ko ..) (uu ..) (hr i _ _ hi) (by omega) (by omega)
def GC{q l:SX}{g:U0}(e:bZ I q=cC (0,[.D g.length,.D n,.A g]))(hl:bZ I l= .A g){r:Option (Nat×U0)}{T:VT}(h:W5 T I=r):
 W5 (.N (cF (zo q 0) (zL l)) T) I=r:=by
 refine W6 ?_ h;have:bZ I (zo q 0)= .D g.length:=by show ck (bZ I q).L 1 0=_;rw[e];rfl
 rw[dY,this,cK,hl];exact i6 rfl
def gU(q k j:Nat):SX:= .O .G [.V q,.V k,.C j]
def ea7(q k:Nat):SX:= .O .row [gU q k 0,gU q k 1,gU q k 2,gU q k 3]
def Uj(q k:Nat):SX:= .O .row [gU q k 0,gU q k 1,gU q k 2,gU q k 3,gU q k 4,gU q k 5,gU q k 6]
def du9:ej4=Hq 2000 (zl 0) (.J (ze (gU 0 2001 0) 1) (Gp 2000 (ea7 0 2001)) (LS 2000)):=rfl
def dv0:ej3=Hq 2000 (zl 0) (.J (eE (gU 0 2001 2) aO) (Gp 2000 (Uj 0 2001)) (LS 2000)):=rfl
def vA{I:Opq}{q k:Nat}{i:Nat}(h:I.w k= .D i)(j:Nat):bZ I (gU q k j)=Y5 (cg (I.w q).L i) j:=by show ck (I.w q).L (I.w k).I (j:Int)=_;rw[h];rfl
def d33{I:Opq}{q k:Nat}{i:Nat}(h:I.w k= .D i):bZ I (Uj q k)=cO (cg (I.w q).L i):=by show Val.A [bZ I (gU q k (0:Nat)),bZ I (gU q k (1:Nat)),bZ I (gU q k (2:Nat)),bZ I (gU q k (3:Nat)),bZ I (gU q k (4:Nat)),bZ I (gU q k (5:Nat)),bZ I (gU q k (6:Nat))]=_;rw[vA h,vA h,vA h,vA h,vA h,vA h,vA h];rfl
def lW(g:U0)(n:Nat):Val:=cC (0,[.D g.length,.D n,.A g])
def Zn(a:U0):Val:=lW (lO (ce a 5).L) (ce a 5).L.length
def Zm(a:U0):Val:=lW (sA (ce a 5).L (ce a 6).I) (ce a 5).L.length
def eq2(a:U0):Val:=lW (ej6 (ce a 5).L) (ce a 5).L.length
def ej9(a:U0):Val:=cC (qG (ce a 4).L (ce a 4).L.length)
def ek0(a:U0):Val:=cC (gg (.B false) (λk=>[.B true,.D k]) (DV (ce a 4).L ⟨(ce a 5).S,(ce a 6).I,(ce a 7).I⟩) (ce a 4).L.length)
variable{I:Opq}
def cG5(hf: ∀a,I.f 870 a=Zn a)(hn:(I.w 0).L.length<=100):W5 T_rEvents I=some (0,[.A (lO (I.w 0).L)]):=by
 have e0:bZ I Mt=cC (0,[.D (lO (I.w 0).L).length,.D (I.w 0).L.length,.A (lO (I.w 0).L)]):=by show I.f 870 [.D 0,.D 0,.A [],.D 0,.D (I.w 0).L.length,I.w 0]=_;rw[hf];rfl
 have d1:bZ I QG= .A (lO (I.w 0).L):=by show ck (bZ I Mt).L 1 2=_;rw[e0];rfl
 refine Y3 (r:=(0,[.D (lO (I.w 0).L).length,.D (I.w 0).L.length,.A (lO (I.w 0).L)])) ?_ e0 (GC e0 d1 ?_);rw[du9];refine Rf (p:=λi=>decide (ci (cg (I.w 0).L i) 0=1)) (f:=λi=>wC (cg (I.w 0).L i)) (n:=(I.w 0).L.length) (by omega) (λvs=> ?_) (λi a acc hi=> ?_) (λi a acc hi=> ?_);rw[cK,cM,cR _ _ _ (by omega)];rfl;rfl;show some (0,[bZ I QG])=_;rw[d1]
def d34(hf: ∀a,I.f 868 a=Zm a)(hn:(I.w 0).L.length<=400):W5 T_rFired I=some (0,[.A (sA (I.w 0).L (I.w 1).I)]):=by
 have e0:bZ I PJ=cC (0,[.D (sA (I.w 0).L (I.w 1).I).length,.D (I.w 0).L.length,.A (sA (I.w 0).L (I.w 1).I)]):=by show I.f 868 [.D 0,.D 0,.A [],.D 0,.D (I.w 0).L.length,I.w 0,I.w 1]=_;rw[hf];rfl
 have d1:bZ I KV= .A (sA (I.w 0).L (I.w 1).I):=by show ck (bZ I PJ).L 1 2=_;rw[e0];rfl
 refine Y3 (r:=(0,[.D (sA (I.w 0).L (I.w 1).I).length,.D (I.w 0).L.length,.A (sA (I.w 0).L (I.w 1).I)])) ?_ e0 (GC e0 d1 ?_);rw[dv0];refine Rf (p:=λi=>decide (ci (cg (I.w 0).L i) 2<=(I.w 1).I)) (f:=λi=>cO (cg (I.w 0).L i)) (n:=(I.w 0).L.length) (by omega) (λvs=> ?_) (λi a acc hi=> ?_) (λi a acc hi=> ?_);rw[cK,cM,cR _ _ _ (by omega)];rfl;rfl;show some (0,[bZ I KV])=_;rw[d1]
def ea8(hf: ∀a,I.f 864 a=ek0 a)(hn:(I.w 0).L.length<=1000000):W5 T_has I=some (0,[.B ((I.w 0).L.any λr=>decide (Y2 r=⟨(I.w 1).S,(I.w 2).I,(I.w 3).I⟩))]):=by
 have e0:I.f 864 [.B false,.D 0,.D 0,.D (I.w 0).L.length,I.w 0,I.w 1,I.w 2,I.w 3]=cC (gg (.B false) (λk=>[.B true,.D k]) (DV (I.w 0).L ⟨(I.w 1).S,(I.w 2).I,(I.w 3).I⟩) (I.w 0).L.length):=by rw[hf];rfl
 have h0:=JP (x:= .B false) (px:=λk=>[.B true,.D k]) (bad:=DV (I.w 0).L ⟨(I.w 1).S,(I.w 2).I,(I.w 3).I⟩) (n:=(I.w 0).L.length);have hany:(List.range (I.w 0).L.length).any (DV (I.w 0).L ⟨(I.w 1).S,(I.w 2).I,(I.w 3).I⟩)=(I.w 0).L.any λr=>decide (Y2 r=⟨(I.w 1).S,(I.w 2).I,(I.w 3).I⟩):=bC7 (λr=>decide (Y2 r=⟨(I.w 1).S,(I.w 2).I,(I.w 3).I⟩)) (.A []) (I.w 0).L
 refine Y3 (r:=gg (.B false) (λk=>[.B true,.D k]) (DV (I.w 0).L ⟨(I.w 1).S,(I.w 2).I,(I.w 3).I⟩) (I.w 0).L.length) ?_ e0 ?_
 show cQ _ [.B false,.D 0]=_;have hd: ∀i,dB (I.U 2000 [.B false,.D (i:Nat)]) (zn (.O (.scmp .eql) [zg 0 2001 0,aO]) (zn (cF (zg 0 2001 1) aS) (cF (zg 0 2001 2) aV)))=DV (I.w 0).L ⟨(I.w 1).S,(I.w 2).I,(I.w 3).I⟩ i:=λi=>by show(decide ((Y2 (cg (I.w 0).L i)).key=(I.w 1).S)&&(decide ((Y2 (cg (I.w 0).L i)).a=(I.w 2).I)&&decide ((Y2 (cg (I.w 0).L i)).b=(I.w 3).I)))=decide (Y2 (cg (I.w 0).L i)=⟨(I.w 1).S,(I.w 2).I,(I.w 3).I⟩);generalize Y2 (cg (I.w 0).L i)=p;cases p;grind
 have hv: ∀i,(I.U 2000 [.B false,.D (i:Nat)]).w 2001= .D i:=λi=>by rfl
 have hv0: ∀i,(I.U 2000 [.B false,.D (i:Nat)]).w 2000= .B false:=λi=>by rfl
 refine wH (λi hi hb=> ?_) (λi hi hb=> ?_) ?_;refine cD ?_ (W6 ?_ (Y9 ((hd i).trans hb) ?_));simp_all[cW,cI,cK,cM,cR,i6];rfl;show some (0,[(I.U 2000 [.B false,.D i]).w 2000,Val.D (cr .add .i64 ((I.U 2000 [.B false,.D i]).w 2001).I 1)])=_;grind[a01,ft];show W5 SV (I.U 2000 [.B false,.D i])=_;refine cD ?_ (W6 ?_ (cD ((hd i).trans hb) ?_));rw[cW,cI,hv,cK,cM,cR _ _ _ (by omega)];exact i6 (by show(i:Int)<_;omega);exact i6 (by show(0:Int)<=(i:Int);omega);rfl;show W5 SV (I.U 2000 [.B false,.D (I.w 0).L.length])=_;refine Y9 ?_ ?_;rw[cW,cI,hv,cK,cM,cR _ _ _ (by omega)];exact j7 (by show¬((I.w 0).L.length:Int)<_;omega);rfl
 rw[h0]at e0;rw[h0,hany];rw[hany]at e0;cases hb:(I.w 0).L.any λr=>decide (Y2 r=⟨(I.w 1).S,(I.w 2).I,(I.w 3).I⟩)with
 |true=>
  rw[hb]at e0;show some (0,[ck (I.f 864 [.B false,.D 0,.D 0,.D (I.w 0).L.length,I.w 0,I.w 1,I.w 2,I.w 3]).L 1 0])=_;rw[e0];rfl
 |false=>rfl
def cG6{n:Nat}{l:U0}(hl:(I.w 0).L=l)(hn:l.length<=100): ∀k,k<=l.length->cQ (λvs=>W5 YS (I.U 2000 vs)) [.D 0,.D ((k:Int)-1)]=some (qG l k)
 |0,_=>by rw[kK];refine .out ?_;rfl
 |k+1,hk=>by
  have ih:=cG6 (n:=n) hl hn k (by omega);rw[kK]at ih⊢;have e:(((k+1:Nat):Int)-1)=(k:Int):=by omega
  rw[e];have v0:(I.U 2000 [.D 0,.D (k:Int)]).w 2000= .D 0:=by rfl
  have v1:(I.U 2000 [.D 0,.D (k:Int)]).w 2001= .D k:=by rfl
  have w0:(I.U 2000 [.D 0,.D (k:Int)]).w 0=I.w 0:=cR _ _ _ (by omega);have hk0:dB (I.U 2000 [.D 0,.D (k:Int)]) (ze (zg 0 2001 0) 2)=decide (ci (cg l k) 0=2):=by show decide ((ck ((I.U 2000 [.D 0,.D (k:Int)]).w 0).L ((I.U 2000 [.D 0,.D (k:Int)]).w 2001).I 0).I=2)=_;rw[v1,w0,hl];rfl
  have step:W5 YS (I.U 2000 [.D 0,.D (k:Int)])=if ci (cg l k) 0=2 then some (2,[Y5 (cg l k) 2,.D k])else some (0,[.D 0,.D ((k:Int)-1)]):=by refine cD ?_ (W6 ?_ ?_);rfl;rw[cW,cI,v1,cK,cM,w0,hl];exact i6 (by show(k:Int)<(l.length:Int);omega);by_cases c:ci (cg l k) 0=2;rw[c9 c];refine cD (hk0.trans (i6 c)) ?_;show some (2,[ck ((I.U 2000 [.D 0,.D (k:Int)]).w 0).L ((I.U 2000 [.D 0,.D (k:Int)]).w 2001).I 2,(I.U 2000 [.D 0,.D (k:Int)]).w 2001])=_;rw[v1,w0,hl];rfl;refine Y9 (hk0.trans (j7 c)) ?_;show some (0,[(I.U 2000 [.D 0,.D (k:Int)]).w 2000,Val.D (cr .sub .i64 ((I.U 2000 [.D 0,.D (k:Int)]).w 2001).I 1)])=_;grind[a01,lN]
  unfold qG;by_cases c:ci (cg l k) 0=2;rw[c9 c]at step⊢;exact .out step;rw[b9 c]at step⊢;exact .more step ih
def cG7(l:U0): ∀k,(qG l k).1=0/\pb l k= .D (-2199023255552)\/(qG l k).1=1/\ ∃y,(qG l k).2=[pb l k,y]
 |0=> .inl ⟨rfl,rfl⟩
 |k+1=>by unfold qG pb;by_cases c:ci (cg l k) 0=2;grind;rw[b9 c,b9 c];exact cG7 l k
def dv1(hf: ∀a,I.f 871 a=ej9 a)(hn:(I.w 0).L.length<=100):W5 T_rMark I=some (0,[pb (I.w 0).L (I.w 0).L.length]):=by
 have d0:bZ I Fs= .D (((I.w 0).L.length:Int)-1):=by show Val.D (cr .sub .i64 ((I.w 0).L.length:Int) 1)=_;grind[lN]
 have e0:I.f 871 [.D 0,bZ I Fs,.D 0,.D (I.w 0).L.length,I.w 0]=cC (qG (I.w 0).L (I.w 0).L.length):=by rw[hf];rfl
 refine Y3 (r:=qG (I.w 0).L (I.w 0).L.length) ?_ e0 ?_;show cQ _ [.D 0,bZ I Fs]=_;rw[d0];exact cG6 (n:=0) rfl hn _ (j5 _)
 rcases cG7 (I.w 0).L (I.w 0).L.length with⟨h1,h2⟩|⟨h1,y,h2⟩
 rw[h1,h2];rfl;rw[h1];show some (0,[ck (I.f 871 [.D 0,bZ I Fs,.D 0,.D (I.w 0).L.length,I.w 0]).L 1 0])=_;have:qG (I.w 0).L (I.w 0).L.length=(1,[pb (I.w 0).L (I.w 0).L.length,y]):=M3 h1 h2;rw[e0,this];rfl
variable{I:Opq}
def d35:W5 T_rRight I=some (0,[Val.B (cY (I.w 0).I (I.w 1).I (I.w 2).I (I.w 3).I)]):=by
 unfold T_rRight Wa RZ WE WP cY;generalize ha:(I.w 0).I=a;generalize hb:(I.w 1).I=b;generalize hc:(I.w 2).I=c;generalize hd:(I.w 3).I=d;by_cases k1:a=1;by_cases q1:1<=b<;>by_cases q2:b<=1048576<;>by_cases q3:c=0<;>simp[W5,Y6,bZ,dB,cB,ha,hb,hc,hd,k1,q1,q2,q3];by_cases k2:a=2
 .by_cases q1:1<=b<;>by_cases q2:b<=1048576<;>by_cases q3:1<=c<;>by_cases q4:c<=1048576<;>try (simp[W5,Y6,bZ,dB,cB,ha,hb,hc,hd,k1,k2,q1,q2,q3,q4];done)
  have m1:cr .rem .i64 b c=b % c:=by exact S6 (by omega)
  have m2:cr .quo .i64 b c=b/c:=by show IntKind.i64.wrap (b.tdiv c)=b/c;have h1:0<=b/c:=S8 (by omega) (by omega);have h2:b/c<=b:=P4 _ (by omega);grind[nL]
  have c0: ¬c=0:=by omega
  by_cases q5:d=0<;>by_cases q6:b % c=0<;>simp[W5,Y6,bZ,dB,cB,ha,hb,hc,hd,k1,k2,q1,q2,q3,q4,q5,q6,m1,m2,c0]
 by_cases k3:a=3;by_cases q1:1<=d<;>by_cases q2:d<=1048576<;>by_cases q3:b=0<;>simp[W5,Y6,bZ,dB,cB,ha,hb,hc,hd,k1,k2,k3,q1,q2,q3];simp_all[W5,Y6,bZ,dB,cB]
def ea9:W5 T_rev I=some (0,[Val.D (Y4 (I.w 0).I (I.w 1).S (I.w 2).I (I.w 3).I)]):=by
 unfold T_rev Sq Sa Si GU Hm Y4 dW;generalize ha:(I.w 0).I=a;generalize hk:(I.w 1).S=k;generalize ht:(I.w 2).I=t;generalize hv:(I.w 3).I=v;have tt: ∀r:Option (Nat×U0),(r=if t< -1099511627776 then some (0,[Val.D 61])else if 1099511627776<t then some (0,[Val.D 61])else some (0,[Val.D 0]))->r=some (0,[Val.D (if(decide (-1099511627776<=t)&&decide (t<=1099511627776))=true then 0 else 61)]):=λr e=>by grind
 by_cases a1:a=1;by_cases k0:k=[];simp_all[W5,Y6,bZ,dB,cB]
 have kp: ¬((k.length:Int)<1):=by grind[List.length_pos_iff]
 by_cases k1:32<k.length
 have:(32:Int)<(k.length:Int):=by omega
 simp_all[W5,Y6,bZ,dB,cB]
 have k1': ¬(32:Int)<(k.length:Int):=by omega
 simp_all[b9,W5,Y6,bZ,dB,cB]
 .by_cases a2:a=2
  .by_cases k0:k=[]<;>by_cases v0:v=0;simp_all[c9,W5,Y6,bZ,dB,cB];all_goals simp_all[W5,Y6,bZ,dB,cB]
  rw[c9 (by omega)];simp_all[W5,Y6,bZ,dB,cB]
def sE(l:U0):Int:=if pe (mO l l.length)=true then 0 else 30
def sR(l:U0):Int:=if pe (mO l l.length)=true then bk ((mO l l.length).getD 0 0) ((mO l l.length).getD 1 0)else 0
def aA(l:U0):U0:=if sE l≠0 then [.D 0,.D 0,.D 0,.D 0]else [.D l.length,.D (sR l),(fy l l.length).1,(fy l l.length).2]
def OG(a:U0):Val:= .A [.A (vI (gT (ce a 0).I))]
def SE(a:U0):Val:= .A [.A (vI (tT (AR a 0) (AR a 4)))]
def Pu(a:U0):Val:= .D (if pe (AR a 0)=true then bk (ce a 0).I (ce a 1).I else 0)
def Qk(a:U0):Val:= .B (pe (AR a 0))
def ek1(a:U0):Val:=cC (0,.D (ce a 7).L.length::vI (mO (ce a 7).L (ce a 7).L.length))
def ek2(a:U0):Val:=cC (0,[.D (ce a 11).L.length,.D 0,.D 0,.D 0,.D 0,.D 0,.D 0,(fy (ce a 11).L (ce a 11).L.length).1,(fy (ce a 11).L (ce a 11).L.length).2])
variable{I:Opq}
def dS2:W5 T_r3of I=some (0,vI (gT (I.w 0).I)):=by rfl
def d36:W5 T_r3plus I=some (0,vI (tT [(I.w 0).I,(I.w 1).I,(I.w 2).I,(I.w 3).I] [(I.w 4).I,(I.w 5).I,(I.w 6).I,(I.w 7).I])):=by rfl
def dv2(f0: ∀a,I.f 810 a=OG a):W5 T_r3fit I=some (0,[Pu [I.w 0,I.w 1,I.w 2,I.w 3],Qk [I.w 0,I.w 1,I.w 2,I.w 3]]):=by
 have d0:bZ I lZ= .D (bk (I.w 0).I (I.w 1).I):=rfl;have dq: ∀j:Nat,bZ I (.O .G [.Q 810 [lZ],aM,.C j])=(vI (gT (bk (I.w 0).I (I.w 1).I))).getD j default:=λj=>by show ck (I.f 810 [bZ I lZ]).L 0 (j:Int)=_;rw[f0,d0];rfl
 have q0:bZ I (cq (.Q 810 [lZ]) aM 0)=_:=dq 0;have q1:bZ I (cq (.Q 810 [lZ]) aM 1)=_:=dq 1;have q2:bZ I (cq (.Q 810 [lZ]) aM 2)=_:=dq 2;have q3:bZ I (cq (.Q 810 [lZ]) aM 3)=_:=dq 3;have hc:dB I (zn (cF (cq (.Q 810 [lZ]) aM 0) aN) (zn (cF (cq (.Q 810 [lZ]) aM 1) aO) (zn (cF (cq (.Q 810 [lZ]) aM 2) aS) (cF (cq (.Q 810 [lZ]) aM 3) aV))))=pe (AR [I.w 0,I.w 1,I.w 2,I.w 3] 0):=by rw[dG,dG,dG,dY,dY,dY,dY,q0,q1,q2,q3,cI,cI,cI,cI];have e:pe (AR [I.w 0,I.w 1,I.w 2,I.w 3] 0)=decide (gT (bk (I.w 0).I (I.w 1).I)=[(I.w 0).I,(I.w 1).I,(I.w 2).I,(I.w 3).I]):=rfl;rw[e];generalize bk (I.w 0).I (I.w 1).I=n;show(decide ((gT n).getD 0 0=(I.w 0).I)&&(decide ((gT n).getD 1 0=(I.w 1).I)&&(decide ((gT n).getD 2 0=(I.w 2).I)&&decide ((gT n).getD 3 0=(I.w 3).I))))=_;have e4:gT n=[(gT n).getD 0 0,(gT n).getD 1 0,(gT n).getD 2 0,(gT n).getD 3 0]:=rfl;grind
 unfold T_r3fit Pu Qk;cases h:pe (AR [I.w 0,I.w 1,I.w 2,I.w 3] 0)with
 |true=>exact Y9 (by grind[je]) rfl
 |false=>exact cD (by grind[je]) rfl
def Wn(l:U0): ∀k,∃a b c d,mO l k=[a,b,c,d]
 |0=>⟨0,0,0,0,rfl⟩
 |k+1=>⟨_,_,_,_,rfl⟩
def dv3(f0: ∀a,I.f 810 a=OG a)(f1: ∀a,I.f 811 a=SE a)(f2: ∀a,I.f 812 a=Pu a)(f3: ∀a,I.f 813 a=Qk a)(f850: ∀a,I.f 850 a=ek1 a)(hn:(I.w 0).L.length<=100):
 W5 T_r3Sum I=some (0,[.D (sR (I.w 0).L),.D (sE (I.w 0).L)]):=by
 have e0:bZ I vg=cC (0,.D (I.w 0).L.length::vI (mO (I.w 0).L (I.w 0).L.length)):=by show I.f 850 [.D 0,.D 0,.D 0,.D 0,.D 0,.D 0,.D (I.w 0).L.length,I.w 0]=_;rw[f850];rfl
 have W0: ∀vs,(I.U 2000 vs).w 0=I.w 0:=λvs=>cR _ _ _ (by omega)
 have hfu: ∀vs i a,(I.U 2000 vs).f i a=I.f i a:=λvs i a=>by rfl
 refine Y3 (r:=(0,.D (I.w 0).L.length::vI (mO (I.w 0).L (I.w 0).L.length))) ?_ e0 ?_;refine fD (st:=λk=> .D k::vI (mO (I.w 0).L k)) (n:=(I.w 0).L.length) (λk hk=> ?_) ?_
 obtain⟨a,b,c,d,e4⟩:=Wn (I.w 0).L k;show W5 ej1 (I.U 2000 (.D k::vI (mO (I.w 0).L k)))=some (0,.D (k+1:Nat)::vI (tT (mO (I.w 0).L k) (gT (ci (cg (I.w 0).L k) 0))));rw[e4];have v0:(I.U 2000 (.D k::vI [a,b,c,d])).w 2000= .D k:=by rfl
 have v1:(I.U 2000 (.D k::vI [a,b,c,d])).w 2001= .D a:=by rfl
 have v2:(I.U 2000 (.D k::vI [a,b,c,d])).w 2002= .D b:=by rfl
 have v3:(I.U 2000 (.D k::vI [a,b,c,d])).w 2003= .D c:=by rfl
 have v4:(I.U 2000 (.D k::vI [a,b,c,d])).w 2004= .D d:=by rfl
 have w0:=W0 (.D k::vI [a,b,c,d]);have g0: ∀x,(I.U 2000 (.D k::vI [a,b,c,d])).f 810 x=OG x:=λx=>(hfu _ _ _).trans (f0 x)
 have g1: ∀x,(I.U 2000 (.D k::vI [a,b,c,d])).f 811 x=SE x:=λx=>(hfu _ _ _).trans (f1 x)
 generalize I.U 2000 (.D k::vI [a,b,c,d])=aa at*
 have inc:cr .add .i64 (Val.D (k:Int)).I 1=((k+1:Nat):Int):=ft hk (by omega);have dx:bZ aa (zg 0 2000 0)=Y5 (cg (I.w 0).L k) 0:=by show ck (aa.w 0).L (aa.w 2000).I 0=_;rw[v0,w0];rfl
 have d0:bZ aa (.Q 810 [zg 0 2000 0])= .A [.A (vI (gT (ci (cg (I.w 0).L k) 0)))]:=by show aa.f 810 [bZ aa (zg 0 2000 0)]=_;rw[g0,dx];rfl
 have d1:bZ aa (.Q 811 [aR,aW,bj,bq,cq (.Q 810 [zg 0 2000 0]) aM 0,cq (.Q 810 [zg 0 2000 0]) aM 1,cq (.Q 810 [zg 0 2000 0]) aM 2,cq (.Q 810 [zg 0 2000 0]) aM 3])= .A [.A (vI (tT [a,b,c,d] (gT (ci (cg (I.w 0).L k) 0))))]:=by show aa.f 811 [aa.w 2001,aa.w 2002,aa.w 2003,aa.w 2004,ck (bZ aa (.Q 810 [zg 0 2000 0])).L 0 0,ck (bZ aa (.Q 810 [zg 0 2000 0])).L 0 1,ck (bZ aa (.Q 810 [zg 0 2000 0])).L 0 2,ck (bZ aa (.Q 810 [zg 0 2000 0])).L 0 3]=_;rw[g1,d0,v1,v2,v3,v4];rfl
 refine cD ?_ (W6 ?_ ?_);simp_all[cW,cI,cK,cM,i6];simp_all[cJ,cG,cI,i6]
 generalize hX:SX.Q 811 [aR,aW,bj,bq,cq (.Q 810 [zg 0 2000 0]) aM 0,cq (.Q 810 [zg 0 2000 0]) aM 1,cq (.Q 810 [zg 0 2000 0]) aM 2,cq (.Q 810 [zg 0 2000 0]) aM 3]=X at*
 show some (0,[Val.D (cr .add .i64 (aa.w 2000).I 1),ck (bZ aa X).L 0 0,ck (bZ aa X).L 0 1,ck (bZ aa X).L 0 2,ck (bZ aa X).L 0 3])=_;rw[d1,v0,inc];rfl
 obtain⟨a,b,c,d,e4⟩:=Wn (I.w 0).L (I.w 0).L.length;rw[e4];have w0:=W0 (.D (I.w 0).L.length::vI [a,b,c,d]);have v0:(I.U 2000 (.D (I.w 0).L.length::vI [a,b,c,d])).w 2000= .D (I.w 0).L.length:=by rw[Y8];simp
 refine Y9 ?_ ?_;rw[cW,cI,v0,cK,cM,w0];exact j7 (by show¬((I.w 0).L.length:Int)<_;omega);rfl
 obtain⟨a,b,c,d,e4⟩:=Wn (I.w 0).L (I.w 0).L.length;unfold sR sE;rw[e4]at e0⊢;have d1:bZ I yc= .D a:=by show ck (bZ I vg).L 1 1=_;rw[e0];rfl
 have d2:bZ I xg= .D b:=by show ck (bZ I vg).L 1 2=_;rw[e0];rfl
 have d3:bZ I wX= .D c:=by show ck (bZ I vg).L 1 3=_;rw[e0];rfl
 have d4:bZ I wx= .D d:=by show ck (bZ I vg).L 1 4=_;rw[e0];rfl
 have x3:dB I (.Q 813 [yc,xg,wX,wx])=pe [a,b,c,d]:=by show(I.f 813 [bZ I yc,bZ I xg,bZ I wX,bZ I wx]).Z=_;rw[f3,d1,d2,d3,d4];rfl
 have x2:bZ I (.Q 812 [yc,xg,wX,wx])= .D (if pe [a,b,c,d]=true then bk a b else 0):=by show I.f 812 [bZ I yc,bZ I xg,bZ I wX,bZ I wx]=_;rw[f2,d1,d2,d3,d4];rfl
 cases h:pe [a,b,c,d]with
 |true=>
  refine Y9 (by rw[je,x3,h];rfl) ?_;show some (0,[bZ I (.Q 812 [yc,xg,wX,wx]),Val.D 0])=_;grind
 |false=>exact cD (by grind[je]) rfl
variable{I:Opq}
def Pw(l:U0)(k:Nat):U0:=[.D k,.D 0,.D 0,.D 0,.D 0,.D 0,.D 0,(fy l k).1,(fy l k).2]
def qn:SX:= zg 0 2000 0
def CX(a b:SX):VT:= .W 0 [zi aU,aR,aW,bj,bq,bv,bw,a,b]
def dv4:IH= .J (zs aU (zl 0)) (.J (ze aU 0) (.N (zp aU) (CX qn qn)) (.N (zp aU) (.J (zs qn bA) (.J (dF qn bx) (CX qn qn) (CX qn bx)) (.J (dF qn bx) (CX bA qn) (CX bA bx))))) (.W 1 [aU,aR,aW,bj,bq,bv,bw,bA,bx]):=rfl
def eb1{l:U0}(hl:(I.w 0).L=l)(hn:l.length<=100):cQ (λvs=>W5 IH (I.U 2000 vs)) [.D 0,.D 0,.D 0,.D 0,.D 0,.D 0,.D 0,.D 0,.D 0]=some (0,Pw l l.length):=by
 have W0: ∀vs,(I.U 2000 vs).w 0=I.w 0:=λvs=>cR _ _ _ (by omega)
 have V: ∀(k:Nat) (a b:Val),(∀j,1<=j->j<=6->(I.U 2000 [.D k,.D 0,.D 0,.D 0,.D 0,.D 0,.D 0,a,b]).w (2000+j)= .D 0)/\(I.U 2000 [.D k,.D 0,.D 0,.D 0,.D 0,.D 0,.D 0,a,b]).w 2000= .D k/\(I.U 2000 [.D k,.D 0,.D 0,.D 0,.D 0,.D 0,.D 0,a,b]).w 2007=a/\(I.U 2000 [.D k,.D 0,.D 0,.D 0,.D 0,.D 0,.D 0,a,b]).w 2008=b:=λk a b=>by refine⟨λj h1 h2=> ?_,by rw[Y8];simp,by rw[Y8];simp,by rw[Y8];simp⟩;rw[Y8,c9 (by omega),show 2000+j-2000=j by omega];grind
 refine fD (st:=Pw l) (n:=l.length) (λk hk=> ?_) ?_
 show W5 IH (I.U 2000 [.D k,.D 0,.D 0,.D 0,.D 0,.D 0,.D 0,(fy l k).1,(fy l k).2])=some (0,[.D (k+1:Nat),.D 0,.D 0,.D 0,.D 0,.D 0,.D 0,(fy l (k+1)).1,(fy l (k+1)).2]);have hm:fy l (k+1)=if k=0 then(Y5 (cg l k) 0,Y5 (cg l k) 0)else(if ci (cg l k) 0<(fy l k).1.I then Y5 (cg l k) 0 else(fy l k).1,if(fy l k).2.I<ci (cg l k) 0 then Y5 (cg l k) 0 else(fy l k).2):=rfl
 rw[hm];generalize (fy l k).1=a;generalize (fy l k).2=b;obtain⟨vz,v0,v7,v8⟩:=V k a b;have w0:=W0 [.D k,.D 0,.D 0,.D 0,.D 0,.D 0,.D 0,a,b];generalize I.U 2000 [.D k,.D 0,.D 0,.D 0,.D 0,.D 0,.D 0,a,b]=aa at*
 have inc:cr .add .i64 (Val.D (k:Int)).I 1=((k+1:Nat):Int):=ft hk (by omega);have dx:bZ aa qn=Y5 (cg l k) 0:=by show ck (aa.w 0).L (aa.w 2000).I 0=_;rw[v0,w0,hl];rfl
 have hr: ∀(p q:SX) (x y:Val),bZ aa p=x->bZ aa q=y->W5 (CX p q) aa=some (0,[.D (k+1:Nat),.D 0,.D 0,.D 0,.D 0,.D 0,.D 0,x,y]):=λp q x y h1 h2=>by show some (0,[Val.D (cr .add .i64 (aa.w 2000).I 1),aa.w (2000+1),aa.w (2000+2),aa.w (2000+3),aa.w (2000+4),aa.w (2000+5),aa.w (2000+6),bZ aa p,bZ aa q])=_;grind
 have hk0:dB aa (zp aU)=true:=by simp_all[cJ,cG,cI,i6]
 rw[dv4];refine cD ?_ ?_;simp_all[cW,cI,cK,cM,i6];by_cases k0:k=0;simp_all[c9,cD,W6,dY,cI,cG,i6];rw[b9 k0];refine Y9 ?_ (W6 hk0 ?_);simp_all[dY,cI,cG,j7]
 have c1:dB aa (zs qn bA)=decide (ci (cg l k) 0<a.I):=by rw[cW,dx,cI,v7];rfl
 have c2:dB aa (dF qn bx)=decide (b.I<ci (cg l k) 0):=by rw[tD,dx,cI,v8];rfl
 by_cases q1:ci (cg l k) 0<a.I;rw[c9 q1];refine cD (c1.trans (i6 q1)) ?_;by_cases q2:b.I<ci (cg l k) 0;simp_all[c9,cD,i6];rw[b9 q2];exact Y9 (c2.trans (j7 q2)) (hr _ _ _ _ dx v8);rw[b9 q1];refine Y9 (c1.trans (j7 q1)) ?_;by_cases q2:b.I<ci (cg l k) 0;rw[c9 q2];exact cD (c2.trans (i6 q2)) (hr _ _ _ _ v7 dx);rw[b9 q2];exact Y9 (c2.trans (j7 q2)) (hr _ _ _ _ v7 v8)
 show W5 IH (I.U 2000 [.D l.length,.D 0,.D 0,.D 0,.D 0,.D 0,.D 0,(fy l l.length).1,(fy l l.length).2])=some (1,[.D l.length,.D 0,.D 0,.D 0,.D 0,.D 0,.D 0,(fy l l.length).1,(fy l l.length).2]);obtain⟨vz,v0,v7,v8⟩:=V l.length (fy l l.length).1 (fy l l.length).2;have w0:=W0 [.D l.length,.D 0,.D 0,.D 0,.D 0,.D 0,.D 0,(fy l l.length).1,(fy l l.length).2];generalize I.U 2000 [.D l.length,.D 0,.D 0,.D 0,.D 0,.D 0,.D 0,(fy l l.length).1,(fy l l.length).2]=aa at*
 refine Y9 ?_ ?_;simp_all[cW,cI,cK,cM,j7];show some (1,[aa.w 2000,aa.w (2000+1),aa.w (2000+2),aa.w (2000+3),aa.w (2000+4),aa.w (2000+5),aa.w (2000+6),aa.w 2007,aa.w 2008])=_;grind
def dS3(f2: ∀a,I.f 842 a= .D (sR (ce a 0).L))(f3: ∀a,I.f 843 a= .D (sE (ce a 0).L))(f851: ∀a,I.f 851 a=ek2 a)(hn:(I.w 0).L.length<=100):
 W5 T_rAll I=some (0,[(aA (I.w 0).L).getD 0 default,(aA (I.w 0).L).getD 1 default,(aA (I.w 0).L).getD 2 default,(aA (I.w 0).L).getD 3 default,.D (sE (I.w 0).L)]):=by
 have d3:bZ I (.Q 843 [aN])= .D (sE (I.w 0).L):=f3 _;have d2:bZ I (.Q 842 [aN])= .D (sR (I.w 0).L):=f2 _;have c3:dB I (cX (.Q 843 [aN]) aM)= !decide (sE (I.w 0).L=0):=by rw[jU,cG,d3];rfl
 unfold T_rAll aA;refine W6 ?_ ?_;grind[cJ,cK,cG,cM,decide_eq_true];by_cases h:sE (I.w 0).L=0
 have e0:bZ I Ku=cC (0,Pw (I.w 0).L (I.w 0).L.length):=by show I.f 851 [.D 0,.D 0,.D 0,.D 0,.D 0,.D 0,.D 0,.D 0,.D 0,.D 0,.D (I.w 0).L.length,I.w 0,bZ I (.Q 842 [aN])]=_;rw[f851];rfl
 refine Y9 (by grind) (Y3 (r:=(0,Pw (I.w 0).L (I.w 0).L.length)) (eb1 rfl hn) e0 ?_);show some (0,[Val.D (I.w 0).L.length,bZ I (.Q 842 [aN]),ck (bZ I Ku).L 1 7,ck (bZ I Ku).L 1 8,Val.D 0])=_;rw[e0,d2,h];rfl;refine cD (by rw[c3,j7 h];rfl) ?_;show some (0,[Val.D 0,Val.D 0,Val.D 0,Val.D 0,bZ I (.Q 843 [aN])])=_;grind
theorem HE(x:Int):cr .and .i64 x 4294967295=x % 4294967296:=by
 show IntKind.i64.wrap (((BitVec.ofInt 64 x&&&BitVec.ofInt 64 4294967295).toNat:Nat):Int)=_;have h:(BitVec.ofInt 64 x&&&BitVec.ofInt 64 4294967295).toNat=(x % 18446744073709551616).toNat % 4294967296:=by rw[BitVec.toNat_and];have h2:(BitVec.ofInt 64 4294967295).toNat=2^32-1:=rfl;rw[h2,Nat.and_two_pow_sub_one_eq_mod,BitVec.toNat_ofInt];rfl
 grind[nL]
theorem zX(x:Int):cr .shr .i64 x 32=x/4294967296:=by show x.fdiv (2^(min (32:Int).toNat 64))=_;grind
def eb2{a b n:Int}(h:inI n)(h0:a=n % 4294967296)(h1:b=n/4294967296 % 4294967296):bk a b=n:=by
 unfold bk;have e1:cr .shl .i64 b 32=n/4294967296*4294967296:=by show IntKind.i64.wrap (b*2^(min (32:Int).toNat 64))=_;unfold inI at h;simp only[IntKind.wrap,IntKind.bits,IntKind.signed];simp;omega
 rw[e1];show IntKind.i64.wrap (((BitVec.ofInt 64 (n/4294967296*4294967296)|||BitVec.ofInt 64 a).toNat:Nat):Int)=_;have h2:(BitVec.ofInt 64 (n/4294967296*4294967296)|||BitVec.ofInt 64 a).toNat=(n % 18446744073709551616).toNat:=by
  rw[BitVec.toNat_or,BitVec.toNat_ofInt,BitVec.toNat_ofInt];have e2:(n/4294967296*4294967296 % (2^64:Nat)).toNat=2^32*((n % 18446744073709551616).toNat/4294967296):=by omega
  have e3:(a % (2^64:Nat)).toNat=(n % 18446744073709551616).toNat % 4294967296:=by omega
  have hlt:(n % 18446744073709551616).toNat % 4294967296<2^32:=O0 _ (by decide);rw[e2,e3,<-Nat.two_pow_add_eq_or_of_lt hlt];omega
 grind[inI,IntKind.wrap,IntKind.bits,IntKind.signed]
def te(w:aaC):Int:=w.getD 0 0+w.getD 1 0*4294967296+w.getD 2 0*18446744073709551616+w.getD 3 0*79228162514264337593543950336
def Du(w:aaC)(k:Int):Prop:= ∃a b c d,w=[a,b,c,d]/\0<=a/\a<4294967296/\0<=b/\b<4294967296/\0<=c/\c<4294967296/\ -k<=d/\d<=k
def dd3{n:Int}(h:inI n):gT n=[n % 4294967296,n/4294967296 % 4294967296,(if 0<=n then 0 else 4294967295),(if 0<=n then 0 else-1)]:=by
 unfold inI at h;have e0:TC n=n % 4294967296:=HE n;have e1:LV n=n/4294967296:=by unfold LV;rw[zX,zX,e0,gN (by omega) (by omega)];omega
 have e2:Mi n=if 0<=n then 0 else-1:=by unfold Mi;rw[zX,e1,gN (by omega) (by omega)];split<;>omega
 unfold gT;rw[HE,HE,HE,zX,e0,e1,e2];by_cases c:0<=n;rw[c9 c,c9 c,gN (by omega) (by omega)];congr 1;omega;simp_all[b9,gN]
def dd4{n:Int}(h:inI n):Du (gT n) 1/\te (gT n)=n:=by rw[dd3 h];refine⟨⟨_,_,_,_,rfl,by omega,by omega,by omega,by omega,by split<;>omega,by split<;>omega,by split<;>omega,by split<;>omega⟩,?_⟩;show n % 4294967296+n/4294967296 % 4294967296*4294967296+(if 0<=n then 0 else 4294967295)*18446744073709551616+(if 0<=n then 0 else-1)*79228162514264337593543950336=n;grind[inI]
def dS4{x y:aaC}{k:Int}(hk:0<=k)(hk2:k<=1000000)(hx:Du x k)(hy:Du y 1):Du (tT x y) (k+2)/\te (tT x y)=te x+te y:=by
 obtain⟨a,b,c,d,rfl,a1,a2,b1,b2,c1,c2,d1,d2⟩:=hx;obtain⟨a',b',c',d',rfl,a1',a2',b1',b2',c1',c2',d1',d2'⟩:=hy;have e0:XF [a,b,c,d] [a',b',c',d']=a+a':=by show cr .add .i64 a a'=_;grind[gN]
 have e1:Qz [a,b,c,d] [a',b',c',d']=b+b'+(a+a')/4294967296:=by grind[Qz,zX,cr,gN]
 have e2:OV [a,b,c,d] [a',b',c',d']=c+c'+(b+b'+(a+a')/4294967296)/4294967296:=by grind[OV,zX,cr,gN]
 have e3:tT [a,b,c,d] [a',b',c',d']=[(a+a') % 4294967296,(b+b'+(a+a')/4294967296) % 4294967296,(c+c'+(b+b'+(a+a')/4294967296)/4294967296) % 4294967296,d+d'+(c+c'+(b+b'+(a+a')/4294967296)/4294967296)/4294967296]:=by unfold tT;grind[HE,zX,cr,gN]
 rw[e3];refine⟨⟨_,_,_,_,rfl,by omega,by omega,by omega,by omega,by omega,by omega,by omega,by omega⟩,?_⟩;show(a+a') % 4294967296+(b+b'+(a+a')/4294967296) % 4294967296*4294967296+(c+c'+(b+b'+(a+a')/4294967296)/4294967296) % 4294967296*18446744073709551616+(d+d'+(c+c'+(b+b'+(a+a')/4294967296)/4294967296)/4294967296)*79228162514264337593543950336=(a+b*4294967296+c*18446744073709551616+d*79228162514264337593543950336)+(a'+b'*4294967296+c'*18446744073709551616+d'*79228162514264337593543950336);omega
def d38{w:aaC}{k:Int}(h:Du w k):(pe w=true↔inI (te w))/\(pe w=true->bk (w.getD 0 0) (w.getD 1 0)=te w):=by
 obtain⟨a,b,c,d,rfl,a1,a2,b1,b2,c1,c2,d1,d2⟩:=h;have hb:inI (bk a b):=by have:=c58 (x:=((BitVec.ofInt 64 (cr .shl .i64 b 32)|||BitVec.ofInt 64 a).toNat:Nat)) (by omega) (by omega);exact this.1
 have key:pe [a,b,c,d]=true->inI (te [a,b,c,d])/\bk a b=te [a,b,c,d]:=λhf=>by have hf:gT (bk a b)=[a,b,c,d]:=j6 hf;have:=(dd4 hb).2;rw[hf]at this;rw[this];exact⟨hb,rfl⟩
 refine⟨⟨λhf=>(key hf).1,λhi=> ?_⟩,λhf=>(key hf).2⟩;have hv:te [a,b,c,d]=a+b*4294967296+c*18446744073709551616+d*79228162514264337593543950336:=rfl;have hn:inI (a+b*4294967296+c*18446744073709551616+d*79228162514264337593543950336):=by exact hi
 have hbk:bk a b=a+b*4294967296+c*18446744073709551616+d*79228162514264337593543950336:=eb2 hn (by omega) (by omega);show decide (gT (bk a b)=[a,b,c,d])=true;rw[hbk,dd3 hn];unfold inI at hn;grind
def cH0{l:U0}(hl: ∀k,inI (ci (cg l k) 0)): ∀k,k<=400000->Du (mO l k) (2*k)/\te (mO l k)=sk (λk=>ci (cg l k) 0) k
 |0,_=>⟨⟨0,0,0,0,rfl,by omega,by omega,by omega,by omega,by omega,by omega,by omega,by omega⟩,rfl⟩
 |k+1,h=>by obtain⟨h1,h2⟩:=cH0 hl k (by omega);obtain⟨h3,h4⟩:=dd4 (hl k);obtain⟨h5,h6⟩:=dS4 (by omega) (by omega) h1 h3;refine⟨?_,?_⟩;obtain⟨a,b,c,d,e,r⟩:=h5;refine⟨a,b,c,d,e,?_⟩;obtain⟨r1,r2,r3,r4,r5,r6,r7,r8⟩:=r;exact⟨r1,r2,r3,r4,r5,r6,by omega,by omega⟩;grind[te,tT,mO,gT,ci,cg,sk]
def eb3{l:U0}(hl: ∀r∈l,inI (ci r 0))(hn:l.length<=400000):(sE l=0↔inI (sk (λk=>ci (cg l k) 0) l.length))/\(sE l=0->sR l=sk (λk=>ci (cg l k) 0) l.length):=by
 have hg: ∀k,inI (ci (cg l k) 0):=λk=>by
  by_cases c:k<l.length;exact hl _ (oR c)
  have e:cg l k= .A []:=by simp[cg,k5,x5 (E4.1 c)]
  rw[e];exact We
 obtain⟨h1,h2⟩:=cH0 hg l.length hn;obtain⟨h3,h4⟩:=d38 h1;unfold sE sR;grind
def dS5{x y:Int}(h: -9223372036854775808<=x*y)(h2:x*y<9223372036854775808):cr .mul .i64 x y=x*y:=nL h h2
def lu(b d s t:Int)(i:Nat):U0:=bif decide (t<b+i*d+s)then [.A [.D (b+i*d),.D (b+i*d+s)]]else []
def jd(b d t:Int):Nat:=((t-b)/d+1).toNat
def Dk(b d s t:Int):U0:=[.D (cw (lu b d s t) (jd b d t)).length,.D (b+jd b d t*d),.A (cw (lu b d s t) (jd b d t))]
def ek3(a:U0):Val:=cC (0,Dk (ce a 1).I (dJ (ce a 4).I (ce a 5).I (ce a 6).I) (ce a 5).I (ce a 3).I)
def eb4{t d:Int}(hd:0<d)(h1: -1099511627776<=t)(h2:t<=1099511627776):cr .quo .i64 t d=t/d\/cr .quo .i64 t d=t/d+1:=by
 have e:cr .quo .i64 t d=IntKind.i64.wrap (t.tdiv d):=rfl;have lo: -1099511627776<=t/d:=by refine(V6 hd).2 ?_;omega
 have hi:t/d<=1099511627776:=by by_cases c:0<=t;exact Int.le_trans (P4 d c) h2;have:t/d<0:=V7 (by omega) hd;omega
 grind[nL]
def bG7{G:Nat->U0}{H:Nat->U0}{e:Nat}(h0: ∀i,i<e->G i=[]): ∀n,(∀j,j<n->G (e+j)=H j)->cw G (e+n)=cw H n
 |0,_=>by
  have: ∀k,k<=e->cw G k=[]:=λk=>by
   induction k with
   |zero=>intro _;rfl
   |succ k ih=>grind[cw]
  exact this e (j5 _)
 |n+1,h=>by show cw G (e+n)++G (e+n)=cw H n++H n;rw[bG7 h0 n λj hj=>h j (by omega),h n (by omega)]
def eb5{b d s t D:Int}{n e:Nat}(hd:0<d)(hs:n*d=s)(hD:D=t-t % d)(hb:b=D-s+d-e*d)(he:1<=e):cw (lu b d s t) (jd b d t)=cw (jc (D-s+d) d s) n/\jd b d t=e+n:=by
 have q0:=I3 t (show d≠0 by omega);have q1:=I4 t hd;have hN:jd b d t=e+n:=by
  unfold jd;have:(t-b)/d=(e:Int)+n-1:=by
   have e1:t-b=t % d+((e:Int)+n-1)*d:=by
    have:((e:Int)+n-1)*d=e*d+n*d-d:=by rw[I7,E9,Int.one_mul]
    omega
   rw[e1,Int.add_mul_ediv_right _ _ (by omega),Int.ediv_eq_zero_of_lt q0 q1];omega
  omega
 refine⟨?_,hN⟩;rw[hN];refine bG7 (λi hi=> ?_) n λj hj=> ?_
 unfold lu;have:(i:Int)*d+d<=e*d:=by have:((i:Int)+1)*d<=e*d:=G5 (by omega) (by omega);rw[E9]at this;omega
 grind;unfold lu jc;have e2:0<=(j:Int)*d:=I5 (by omega) (by omega);grind
variable{I:Opq}
def eb6{k s l t b d:Int}(hk:(I.w 0).I=k)(hs:(I.w 1).I=s)(hl:(I.w 2).I=l)(ht:(I.w 4).I=t)(hd:dJ k s l=d)(d0:0<d)(d1:d<=1048576)(s0:1<=s)(s1:s<=1048576)(t1: -1099511627776<=t)(t2:t<=1099511627776)(b0: -1099651627776<=b)(hn:jd b d t<=100):
 cQ (λvs=>W5 Ji (I.U 2000 vs)) [.D 0,.D b,.A []]=some (0,Dk b d s t):=by
 have lim: ∀i,i<jd b d t->b+i*d<=t:=λi hi=>by unfold jd at hi;have h1:=Int.ediv_mul_le (t-b) (show d≠0 by omega);have h2:(i:Int)*d<=(t-b)/d*d:=G5 (by omega) (by omega);omega
 have ep1:t<b+jd b d t*d:=by unfold jd;have h1:=Int.lt_ediv_add_one_mul_self (t-b) d0;by_cases c:0<=(t-b)/d+1;grind;have:((t-b)/d+1)*d<=0*d:=G5 (by omega) (by omega);grind
 have h:=qj (step:=λvs=>W5 Ji (I.U 2000 vs)) (n:=jd b d t) (a0:=[]) (g:=lu b d s t) (λi acc=>[.D acc.length,.D (b+i*d),.A acc]) (s0:=[.D 0,.D b,.A []]) (p:=Dk b d s t) ?_ (λi hi=> ?_) ?_;exact h;simp
 rw[List.nil_append];have hlen:(cw (lu b d s t) i).length<=i:=by have:=jz (g:=lu b d s t) (m:=1) (λi=>by grind[lu,decide]) i;omega
 generalize cw (lu b d s t) i=acc at hlen;have w0:(I.U 2000 [.D acc.length,.D (b+i*d),.A acc]).w 0=I.w 0:=cR _ _ _ (by omega);have w1:(I.U 2000 [.D acc.length,.D (b+i*d),.A acc]).w 1=I.w 1:=cR _ _ _ (by omega);have w2:(I.U 2000 [.D acc.length,.D (b+i*d),.A acc]).w 2=I.w 2:=cR _ _ _ (by omega);have w4:(I.U 2000 [.D acc.length,.D (b+i*d),.A acc]).w 4=I.w 4:=cR _ _ _ (by omega);have v0:=ua I 2000 (.D acc.length) (.D (b+i*d)) (.A acc);have v1:=ko I 2000 (.D acc.length) (.D (b+i*d)) (.A acc);have v2:=uu I 2000 (.D acc.length) (.D (b+i*d)) (.A acc);generalize I.U 2000 [.D acc.length,.D (b+i*d),.A acc]=aa at*
 have hi1:=lim i hi;have ge:0<=(i:Int)*d:=I5 (by omega) (by omega);have a1:cr .add .i64 (b+i*d) s=b+i*d+s:=gN (by omega) (by omega);have a2:cr .add .i64 (b+i*d) d=b+(i+1:Nat)*d:=by grind[gN,Int.natCast_add,Int.add_mul]
 have dn:bZ aa (.O .row [aR,za aR aO])= .A [.D (b+i*d),.D (b+i*d+s)]:=by show Val.A [aa.w 2001,.D (cr .add .i64 (aa.w 2001).I (aa.w 1).I)]=_;simp_all
 have dc:bZ aa (zc aW (.O .row [.O .row [aR,za aR aO]]))= .A (acc++[.A [.D (b+i*d),.D (b+i*d+s)]]):=by show Val.A ((aa.w 2002).L++[bZ aa (.O .row [aR,za aR aO])])=_;simp_all
 refine cD ?_ ?_;simp_all[cJ,cI,i6];unfold lu;by_cases c:t<b+i*d+s;refine cD ?_ (W6 ?_ ?_);show decide ((aa.w 4).I<cr .add .i64 (aa.w 2001).I (aa.w 1).I)=true;simp_all;rw[dG,dY,cJ,cI,v0,cK,cK,cM,v2,cG,dc];grind[Aw];by_cases k2:k=2;refine cD (by rw[dY,cI,w0,hk];exact i6 k2) ?_;show some (0,[Val.D (bZ aa _).L.length,Val.D (cr .add .i64 (aa.w 2001).I (aa.w 2).I),bZ aa (.O .lcat _)])=_;simp_all[a01,dJ,c9];refine Y9 (by rw[dY,cI,w0,hk];exact j7 k2) ?_;show some (0,[Val.D (bZ aa _).L.length,Val.D (cr .add .i64 (aa.w 2001).I (aa.w 1).I),bZ aa (.O .lcat _)])=_;simp_all[a01,dJ,b9];rw[j7 c,cond_false,o9];refine Y9 ?_ ?_;show decide ((aa.w 4).I<cr .add .i64 (aa.w 2001).I (aa.w 1).I)=false;simp_all;by_cases k2:k=2;refine cD (by rw[dY,cI,w0,hk];exact i6 k2) ?_;show some (0,[aa.w 2000,Val.D (cr .add .i64 (aa.w 2001).I (aa.w 2).I),aa.w 2002])=_;simp_all[a01,dJ,c9];refine Y9 (by rw[dY,cI,w0,hk];exact j7 k2) ?_;show some (0,[aa.w 2000,Val.D (cr .add .i64 (aa.w 2001).I (aa.w 1).I),aa.w 2002])=_;simp_all[a01,dJ,b9];rw[List.nil_append];have v1:=ko I 2000 (.D (cw (lu b d s t) (jd b d t)).length) (.D (b+jd b d t*d)) (.A (cw (lu b d s t) (jd b d t)));have w4:(I.U 2000 [.D (cw (lu b d s t) (jd b d t)).length,.D (b+jd b d t*d),.A (cw (lu b d s t) (jd b d t))]).w 4=I.w 4:=cR _ _ _ (by omega);refine Y9 ?_ ?_;rw[cJ,cI,cI,v1,w4,ht];exact j7 (by show¬b+jd b d t*d<=t;omega);rfl
def d39{t s d:Int}{n:Nat}(hd:0<d)(d1:d<=1048576)(hs:n*d=s)(n0:1<=n)(n1:n<=16)(h1: -1099511627776<=t)(h2:t<=1099511627776):
 ∃e:Nat,1<=e/\e<=2/\cr .mul .i64 (cr .sub .i64 (cr .sub .i64 (cr .quo .i64 t d) (cr .quo .i64 s d)) 1) d=fI t d-s+d-e*d/\ -1099651627776<=fI t d-s+d-e*d:=by
 have q0:=I3 t (show d≠0 by omega);have q1:=I4 t hd;have hs1:s<=16777216:=by have:(n:Int)*d<=16*d:=G5 (by omega) (by omega);omega
 have hs0:0<=s:=by rw[<-hs];exact I5 (by omega) (by omega)
 have qs:cr .quo .i64 s d=n:=by have e:cr .quo .i64 s d=IntKind.i64.wrap (s.tdiv d):=rfl;grind[Int.tdiv_eq_ediv_of_nonneg,Int.mul_ediv_cancel,nL]
 have hD:fI t d=t/d*d:=by grind[Int.emod_def,Int.mul_comm,fI]
 have fb: -1099511627776-1048576<=t/d*d/\t/d*d<=t:=by grind[Int.emod_def,Int.mul_comm]
 have fq: -1099511627777<=t/d/\t/d<=1099511627776:=by
  refine⟨?_,?_⟩
  have:(-1099511627777)*d<=t:=by omega
  simp_all[V6];by_cases c:0<=t;exact Int.le_trans (P4 d c) h2;have:t/d<0:=V7 (by omega) hd;omega
 rcases eb4 hd h1 h2 with q|q
 refine⟨2,by omega,by omega,?_,?_⟩
 rw[q,qs,lN (x:=t/d) (by omega) (by omega),lN (by omega) (by omega)];have e:(t/d-n-1)*d=t/d*d-s-d:=by rw[I7,I7,hs,Int.one_mul]
 rw[dS5 (by omega) (by omega),e,hD];omega;omega;refine⟨1,by omega,by omega,?_,?_⟩
 rw[q,qs,lN (x:=t/d+1) (by omega) (by omega),lN (by omega) (by omega)];have e:(t/d+1-n-1)*d=t/d*d-s:=by
  have:t/d+1-n-1=t/d-n:=by omega
  rw[this,I7,hs]
 rw[dS5 (by omega) (by omega),e,hD];omega;omega
variable{I:Opq}
def eb7(f700: ∀a,I.f 700 a= .B (cY (ce a 0).I (ce a 1).I (ce a 2).I (ce a 3).I))(f853: ∀a,I.f 853 a=ek3 a):
 W5 T_rOf I=some (0,[.A (dy (I.w 0).I (I.w 1).I (I.w 2).I (I.w 3).I (I.w 4))]):=by
 generalize hk:(I.w 0).I=k;generalize hs:(I.w 1).I=s;generalize hl:(I.w 2).I=l;generalize hg:(I.w 3).I=g;unfold T_rOf dy;generalize ht:(I.w 4).I=t;have r0:dB I (.Q 700 [aN,aO,aS,aV])=cY k s l g:=by show(I.f 700 [I.w 0,I.w 1,I.w 2,I.w 3]).Z=_;rw[f700,<-hk,<-hs,<-hl,<-hg];rfl
 cases hR:cY k s l g with
 |false=>exact cD (by rw[je,r0,hR];rfl) rfl
 |true=>
 refine Y9 (by rw[je,r0,hR];rfl) ?_;by_cases t1:t< -1099511627776
 have e:dW t=false:=by unfold dW;rw[decide_eq_false (by omega)];rfl
 rw[e];exact cD (by rw[cW,cG,cI,ht];exact i6 t1) rfl;refine Y9 (by rw[cW,cG,cI,ht];exact j7 t1) ?_;by_cases t2:1099511627776<t
 have e:dW t=false:=by unfold dW;rw[decide_eq_false (p:=t<=1099511627776) (by omega),Bool.and_false]
 rw[e];exact cD (by show decide ((1099511627776:Int)<(I.w 4).I)=true;rw[ht];exact i6 t2) rfl
 refine Y9 (by show decide ((1099511627776:Int)<(I.w 4).I)=false;rw[ht];exact j7 t2) ?_;have e:dW t=true:=by unfold dW;rw[decide_eq_true (by omega),decide_eq_true (by omega)];rfl
 rw[e];show W5 _ I=some (0,[Val.A (if k=3 then [.A [I.w 4,.D (t+g)]]else cw (jc (fI t (dJ k s l)-s+dJ k s l) (dJ k s l) s) (fC k s l))]);by_cases k3:k=3
 rw[c9 k3];refine cD (by rw[dY,cI,hk];exact i6 k3) ?_;have:cr .add .i64 t g=t+g:=by unfold cY at hR;simp[k3]at hR;exact gN (by omega) (by omega)
 show some (0,[Val.A [Val.A [I.w 4,Val.D (cr .add .i64 (I.w 4).I (I.w 3).I)]]])=_;rw[ht,hg,this]
 rw[b9 k3];refine Y9 (by rw[dY,cI,hk];exact j7 k3) ?_;have main: ∀{d:Int} {n:Nat} {X:SX},dJ k s l=d->fC k s l=n->0<d->d<=1048576->n*d=s->1<=n->n<=16->1<=s->s<=1048576->bZ I X= .D (cr .mul .i64 (cr .sub .i64 (cr .sub .i64 (cr .quo .i64 t d) (cr .quo .i64 s d)) 1) d)->
  W5 (.loop ⟨853,[zL co,X,co],2000,[aT,aN,aO,aS,aV]⟩ Ji [.N (cF (zo (.Q 853 [zL co,X,co,aT,aN,aO,aS,aV]) 0) (zL (zo (.Q 853 [zL co,X,co,aT,aN,aO,aS,aV]) 2))) (.W 0 [zo (.Q 853 [zL co,X,co,aT,aN,aO,aS,aV]) 2])]) I=some (0,[Val.A (cw (jc (fI t (dJ k s l)-s+dJ k s l) (dJ k s l) s) (fC k s l))]):=by
  intro d n X hst hN d0 d1 hn n0 n1 s0 s1 hX;obtain⟨e,e1,e2,e3,e4⟩:=d39 d0 d1 hn n0 n1 (E8.1 t1) (E8.1 t2);rw[e3]at hX;obtain⟨h1,h2⟩:=eb5 (b:=fI t d-s+d-e*d) (t:=t) (D:=fI t d) d0 hn rfl rfl e1;rw[hst,hN,<-h1];have hv:bZ I (.Q 853 [zL co,X,co,aT,aN,aO,aS,aV])=cC (0,Dk (fI t d-s+d-e*d) d s t):=by show I.f 853 [.D 0,bZ I X,.A [],I.w 4,I.w 0,I.w 1,I.w 2,I.w 3]=_;rw[f853,hX];show cC (0,Dk _ (dJ (I.w 0).I (I.w 1).I (I.w 2).I) (I.w 1).I (I.w 4).I)=_;rw[hk,hs,hl,ht,hst];rfl
  have hv2:bZ I (zo (.Q 853 [zL co,X,co,aT,aN,aO,aS,aV]) 2)= .A (cw (lu (fI t d-s+d-e*d) d s t) (jd (fI t d-s+d-e*d) d t)):=by show ck (bZ I (.Q 853 [zL co,X,co,aT,aN,aO,aS,aV])).L 1 2=_;rw[hv];rfl
  have hv0:bZ I (zo (.Q 853 [zL co,X,co,aT,aN,aO,aS,aV]) 0)= .D (cw (lu (fI t d-s+d-e*d) d s t) (jd (fI t d-s+d-e*d) d t)).length:=by show ck (bZ I (.Q 853 [zL co,X,co,aT,aN,aO,aS,aV])).L 1 0=_;rw[hv];rfl
  refine Y3 (r:=(0,Dk (fI t d-s+d-e*d) d s t)) ?_ hv (W6 ?_ ?_);show cQ _ [.D 0,bZ I X,.A []]=_;rw[hX];exact eb6 hk hs hl ht hst d0 d1 s0 s1 (E8.1 t1) (E8.1 t2) e4 (by omega);rw[dY,hv0,cK,hv2];exact i6 rfl;show some (0,[bZ I _])=_;rw[hv2]
 by_cases k2:k=2
 refine cD (by rw[dY,cI,hk];exact i6 k2) ?_;have hR':(1<=s/\s<=1048576)/\(1<=l/\l<=1048576)/\s % l=0/\s/l<=16:=by unfold cY at hR;simp[k2]at hR;omega
 obtain⟨⟨s1,s2⟩,⟨l1,l2⟩,sl,sq⟩:=hR';obtain⟨n1,n2⟩:=Kq sl l1 s1;have hst:dJ k s l=l:=c9 k2;have hN:fC k s l=(s/l).toNat:=by unfold fC;rw[hst]
 refine W6 (by show(!decide ((I.w 2).I=0))=true;rw[hl,j7 (by omega)];rfl) (main hst hN (by omega) l2 n1 n2 (by omega) s1 s2 ?_);show Val.D (cr .mul .i64 (cr .sub .i64 (cr .sub .i64 (cr .quo .i64 (I.w 4).I (I.w 2).I) (cr .quo .i64 (I.w 1).I (I.w 2).I)) 1) (I.w 2).I)=_;rw[ht,hl,hs]
 refine Y9 (by rw[dY,cI,hk];exact j7 k2) ?_;have hR':1<=s/\s<=1048576:=by unfold cY at hR;by_cases k1:k=1;simp[k1]at hR;omega;simp[k1,k2,k3]at hR
 have hst:dJ k s l=s:=b9 k2;have hN:fC k s l=1:=by unfold fC;rw[hst,Int.ediv_self (by omega)];rfl
 refine W6 (by show(!decide ((I.w 1).I=0))=true;rw[hs,j7 (by omega)];rfl) (main hst hN (by omega) hR'.2 (by simp) (by omega) (by omega) hR'.1 hR'.2 ?_);show Val.D (cr .mul .i64 (cr .sub .i64 (cr .sub .i64 (cr .quo .i64 (I.w 4).I (I.w 1).I) (cr .quo .i64 (I.w 1).I (I.w 1).I)) 1) (I.w 1).I)=_;rw[ht,hs]
def oJ(g:Int)(l:U0)(i:Nat):U0:=[.A [Y5 (cg l i) 0,.D (cr .add .i64 (ci (cg l i) 0) g)]]
def uP(l:U0)(i:Nat):Bool:= !dW (ci (cg l i) 0)
def Jr(g:Int)(l:U0):Nat×U0:=match(List.range l.length).find? (uP l)with
 |some i=>(1,[.D 2,.D (cw (oJ g l) i).length,.D i,.A (cw (oJ g l) i)])
 |none=>(0,[.D 0,.D (cw (oJ g l) l.length).length,.D l.length,.A (cw (oJ g l) l.length)])
def ek4(a:U0):Val:=cC (Jr (ce a 4).I (ce a 7).L)
def jp(l:U0)(i j k:Nat):U0:=if k=i\/k=j then []else [ep (cg l k)]
def mL(l:U0)(i j:Nat):Val:= .A [.D (min (ci (cg l i) 0) (ci (cg l j) 0)),.D (max (ci (cg l i) 1) (ci (cg l j) 1))]
def eM(l:U0)(i j:Nat):U0:=[mL l i j]++cw (jp l i j) l.length
def pQ(a:U0):Val:=cC (0,[.D (eM (ce a 4).L (ce a 5).I.toNat (ce a 6).I.toNat).length,.D (ce a 4).L.length,.A (eM (ce a 4).L (ce a 5).I.toNat (ce a 6).I.toNat)])
def uE(l:U0)(i j:Nat):Bool:=decide (ci (cg l i) 0<ci (cg l j) 1)&&decide (ci (cg l j) 0<ci (cg l i) 1)
def ij(l:U0)(i:Nat):Bj:=(List.range l.length).find? λj=>decide (i<j)&&uE l i j
def zC(x:Val)(l:U0)(i:Nat):Nat×U0:=match ij l i with
 |some j=>(1,[.D (eM l i j).length,.B true,.D j,.A (eM l i j)])
 |none=>(0,[x,.D l.length])
def uK(a:U0):Val:=cC (zC (ce a 0) (ce a 3).L (ce a 4).I.toNat)
def dv6(l:U0)(i j k:Nat):(jp l i j k).length<=1:=by grind[jp]
variable{I:Opq}
def OB{q l c:SX}{acc:U0}{x:Val}(hq:bZ I q= .D acc.length)(hl:bZ I l= .A acc)(hc:bZ I c= .A (acc++[x]))(h:acc.length<1000000):
 dB I (zn (cF q (zL l)) (zb (zL c) 1000000))=true:=by
 rw[dG,dY,cJ,hq,cK,cK,hl,hc,cG];exact Aw h
def eb8{g:Int}{l:U0}(h0:(I.w 0).I=g)(h1:(I.w 1).L=l)(hn:l.length<=1000):cQ (λvs=>W5 Rl (I.U 2000 vs)) [.D 0,.D 0,.D 0,.A []]=some (Jr g l):=by
 have run: ∀i acc,i<=l.length->acc.length<=i->W5 Rl (I.U 2000 [.D 0,.D acc.length,.D i,.A acc])=if i<l.length then(if uP l i then some (2,[.D 2,.D acc.length,.D i,.A acc])else some (0,[.D 0,.D (acc++oJ g l i).length,.D (i+1:Nat),.A (acc++oJ g l i)]))else some (1,[.D 0,.D acc.length,.D i,.A acc]):=by
  intro i acc hi ha;have w0:(I.U 2000 [.D 0,.D acc.length,.D i,.A acc]).w 0=I.w 0:=cR _ _ _ (by omega);have w1:(I.U 2000 [.D 0,.D acc.length,.D i,.A acc]).w 1=I.w 1:=cR _ _ _ (by omega);have v0:(I.U 2000 [.D 0,.D acc.length,.D i,.A acc]).w 2000= .D 0:=by rfl
  have v1:(I.U 2000 [.D 0,.D acc.length,.D i,.A acc]).w 2001= .D acc.length:=by rfl
  have v2:(I.U 2000 [.D 0,.D acc.length,.D i,.A acc]).w 2002= .D i:=by rfl
  have v3:(I.U 2000 [.D 0,.D acc.length,.D i,.A acc]).w 2003= .A acc:=by rfl
  generalize I.U 2000 [.D 0,.D acc.length,.D i,.A acc]=aa at*
  have dl:bZ aa (zg 1 2002 0)=Y5 (cg l i) 0:=by show ck (aa.w 1).L (aa.w 2002).I 0=_;rw[w1,v2,h1];rfl
  have dc:bZ aa X1= .A (acc++oJ g l i):=by show Val.A ((aa.w 2003).L++[Val.A [bZ aa (zg 1 2002 0),.D (cr .add .i64 (bZ aa (zg 1 2002 0)).I (aa.w 0).I)]])=_;rw[v3,dl,w0,h0];rfl
  by_cases c:i<l.length
  rw[c9 c];refine cD (by simp_all[cW,cI,cK,cM,i6]) (W6 (by simp_all[cJ,cG,cI,i6]) ?_);have lt:uP l i= !(decide (-1099511627776<=ci (cg l i) 0)&&decide (ci (cg l i) 0<=1099511627776)):=rfl;have out:W5 (.W 2 [bm,aR,aW,bj]) aa=some (2,[.D 2,.D acc.length,.D i,.A acc]):=by show some (2,[Val.D 2,aa.w 2001,aa.w 2002,aa.w 2003])=_;grind
  by_cases t1: -1099511627776<=ci (cg l i) 0;refine cD (by rw[Eb,dl,cG];exact i6 t1) ?_;by_cases t2:ci (cg l i) 0<=1099511627776;rw[lt,i6 t1,i6 t2];refine Y9 (by grind[je,cJ,cG,decide,ci,cg,decide_eq_true]) (W6 ?_ ?_);show(decide ((aa.w 2001).I=((aa.w 2003).L.length:Int))&&decide (((bZ aa X1).L.length:Int)<=1000000))=true;rw[v1,v3,dc];exact Aw (A:=acc) (by omega);show some (0,[aa.w 2000,Val.D (bZ aa X1).L.length,Val.D (cr .add .i64 (aa.w 2002).I 1),bZ aa X1])=_;rw[dc,v0,v2,a01,ft (n:=1000000) (by omega) (by omega)];rfl;rw[lt,i6 t1,j7 t2];exact cD (by grind[je,cJ,cG,decide,ci,cg,decide_eq_false]) out;rw[lt,j7 t1];exact Y9 (by rw[Eb,dl,cG];exact j7 t1) out;refine Y9 (by rw[cW,cI,v2,cK,cM,w1,h1];exact j7 (by show¬(i:Int)<(l.length:Int);omega)) ?_;show some (1,[aa.w 2000,aa.w 2001,aa.w 2002,aa.w 2003])=_;grind
 have hl: ∀i,(cw (oJ g l) i).length<=i:=λi=>by have:=jz (g:=oJ g l) (m:=1) (λi=>j5 _) i;omega
 cases hf:(List.range l.length).find? (uP l)with
 |none=>
  have hno: ∀i,i<l.length->uP l i=false:=λi hi=>by have:=B9.1 hf i (p7.2 hi);simpa using this
  refine fD (st:=λi=>[.D 0,.D (cw (oJ g l) i).length,.D i,.A (cw (oJ g l) i)]) (n:=l.length) (λi hi=> ?_) ?_;rw[run i _ (by omega) (hl i),c9 hi,hno i hi];rfl;grind
 |some i=>
  obtain⟨a,b,c⟩:=pg hf;refine fD (st:=λi=>[.D 0,.D (cw (oJ g l) i).length,.D i,.A (cw (oJ g l) i)]) (n:=i) (λk hk=> ?_) ?_;rw[run k _ (by omega) (hl k),c9 (by omega),c k hk];rfl;grind
def eb9{l:U0}{i j:Nat}(h0:I.w 2000= .D l.length)(h2:(I.w 2002).L=l)(hi:I.w 4001= .D i)(hj:I.w 5001= .D j)(hn:l.length<=1000):
 cQ (λvs=>W5 Rk (I.U 6000 vs)) [.D 1,.D 0,.A [mL l i j]]=some (0,[.D (eM l i j).length,.D l.length,.A (eM l i j)]):=by
 have hl: ∀k,(cw (jp l i j) k).length<=k:=λk=>by have:=jz (dv6 l i j) k;omega
 refine qj (λk acc=>[.D acc.length,.D k,.A acc]) (a0:=[mL l i j]) (g:=jp l i j) (n:=l.length) rfl (λk hk=> ?_) ?_
 have ha:([mL l i j]++cw (jp l i j) k).length<=k+1:=by have:=hl k;simp;omega
 generalize [mL l i j]++cw (jp l i j) k=acc at ha;have v0:(I.U 6000 [.D acc.length,.D k,.A acc]).w 6000= .D acc.length:=by rw[Y8];simp
 have v1:(I.U 6000 [.D acc.length,.D k,.A acc]).w 6001= .D k:=by rw[Y8];simp
 have v2:(I.U 6000 [.D acc.length,.D k,.A acc]).w 6002= .A acc:=by rw[Y8];simp
 have w0:(I.U 6000 [.D acc.length,.D k,.A acc]).w 2000=I.w 2000:=cR _ _ _ (by omega);have w2:(I.U 6000 [.D acc.length,.D k,.A acc]).w 2002=I.w 2002:=cR _ _ _ (by omega);have w4:(I.U 6000 [.D acc.length,.D k,.A acc]).w 4001=I.w 4001:=cR _ _ _ (by omega);have w5:(I.U 6000 [.D acc.length,.D k,.A acc]).w 5001=I.w 5001:=cR _ _ _ (by omega);generalize I.U 6000 [.D acc.length,.D k,.A acc]=aa at*
 have dc:bZ aa X3= .A (acc++[ep (cg l k)]):=by show Val.A ((aa.w 6002).L++[Val.A [ck (aa.w 2002).L (aa.w 6001).I 0,ck (aa.w 2002).L (aa.w 6001).I 1]])=_;rw[v2,w2,v1,h2];rfl
 have inc:cr .add .i64 (k:Int) 1=((k+1:Nat):Int):=ft (n:=1000000) (by omega) (by omega);have skip:W5 (.W 0 [bH,zi bz,bD]) aa=some (0,[.D acc.length,.D (k+1:Nat),.A acc]):=by show some (0,[aa.w 6000,Val.D (cr .add .i64 (aa.w 6001).I 1),aa.w 6002])=_;rw[v0,v1,v2,a01,inc]
 refine W6 (by rw[cJ,cG,cI,w0,h0];exact i6 (by show(0:Int)<=(l.length:Int);omega)) (cD (by rw[cW,cI,cI,v1,w0,h0];exact i6 (by show(k:Int)<(l.length:Int);omega)) ?_);unfold jp;by_cases ci1:k=i;rw[c9 (Or.inl ci1),o9];exact Y9 (by rw[jU,cI,cI,v1,w4,hi,ci1,i6 rfl];rfl) skip;refine cD (by rw[jU,cI,cI,v1,w4,hi,j7 (by show¬(k:Int)=(i:Int);omega)];rfl) ?_;by_cases ci2:k=j;rw[c9 (Or.inr ci2),o9];exact Y9 (by rw[jU,cI,cI,v1,w5,hj,ci2,i6 rfl];rfl) skip;rw[b9 (λh=>h.elim ci1 ci2)];refine cD (by rw[jU,cI,cI,v1,w5,hj,j7 (by show¬(k:Int)=(j:Int);omega)];rfl) (W6 ?_ (W6 ?_ (W6 ?_ ?_)));rw[cJ,cG,cI,v1];exact i6 (by show(0:Int)<=(k:Int);omega);rw[cW,cI,v1,cK,cM,w2,h2];exact i6 (by show(k:Int)<(l.length:Int);omega);exact OB (q:= bH) (l:= bD) (c:=X3) v0 v2 dc (by omega);show some (0,[Val.D (bZ aa X3).L.length,Val.D (cr .add .i64 (aa.w 6001).I 1),bZ aa X3])=_;rw[dc,v1,a01,inc];rfl
 show W5 Rk (I.U 6000 [.D ([mL l i j]++cw (jp l i j) l.length).length,.D l.length,.A ([mL l i j]++cw (jp l i j) l.length)])=some (1,[.D ([mL l i j]++cw (jp l i j) l.length).length,.D l.length,.A ([mL l i j]++cw (jp l i j) l.length)]);generalize [mL l i j]++cw (jp l i j) l.length=acc;have v0:(I.U 6000 [.D acc.length,.D l.length,.A acc]).w 6000= .D acc.length:=by rw[Y8];simp
 have v1:(I.U 6000 [.D acc.length,.D l.length,.A acc]).w 6001= .D l.length:=by rw[Y8];simp
 have v2:(I.U 6000 [.D acc.length,.D l.length,.A acc]).w 6002= .A acc:=by rw[Y8];simp
 have w0:(I.U 6000 [.D acc.length,.D l.length,.A acc]).w 2000=I.w 2000:=cR _ _ _ (by omega);generalize I.U 6000 [.D acc.length,.D l.length,.A acc]=aa at*
 refine W6 (by rw[cJ,cG,cI,w0,h0];exact i6 (by show(0:Int)<=(l.length:Int);omega)) (Y9 (by rw[cW,cI,cI,v1,w0,h0];exact j7 (by omega)) ?_);show some (1,[aa.w 6000,aa.w 6001,aa.w 6002])=_;rw[v0,v1,v2]
variable{l:U0}
variable{I:Opq}
def d5{x:Val}{j:Nat}:(I.U 5000 [x,.D j]).w 5000=x/\(I.U 5000 [x,.D j]).w 5001= .D j:=⟨by rfl,by rfl⟩
def ya{n k:Nat}{i:Nat}(hl:(I.w n).L=l)(hk:I.w k= .D i)(j:Nat):(bZ I (.O .G [.V n,.V k,.C j])).I=ci (cg l i) j:=by show(ck (I.w n).L (I.w k).I (j:Int)).I=_;rw[hl,hk];rfl
def dS7(f859: ∀a,I.f 859 a=pQ a){i:Nat}{x:Val}(h0:I.w 2000= .D l.length)(h2:(I.w 2002).L=l)(hw:I.w 4001= .D i)(hi:i<l.length)(hn:l.length<=1000)(j:Nat)(hj:j<=l.length):
 W5 Yz (I.U 5000 [x,.D j])=if j<l.length then(if uE l i j then some (2,[.D (eM l i j).length,.B true,.D j,.A (eM l i j)])else some (0,[x,.D (j+1:Nat)]))else some (1,[x,.D j]):=by
 obtain⟨v0,v1⟩:=d5 (I:=I) (x:=x) (j:=j);have w0:(I.U 5000 [x,.D j]).w 2000= .D l.length:=by grind[cR]
 have w2:((I.U 5000 [x,.D j]).w 2002).L=l:=by grind[cR]
 have w4:(I.U 5000 [x,.D j]).w 4001= .D i:=by grind[cR]
 have wf: ∀a,(I.U 5000 [x,.D j]).f 859 a=pQ a:=λa=>by grind[fh]
 generalize I.U 5000 [x,.D j]=aa at*
 have inc:j<l.length->cr .add .i64 (j:Int) 1=((j+1:Nat):Int):=λh=>ft (n:=1000000) (by omega) (by omega)
 have skip:j<l.length->W5 (.W 0 [.V 5000,zi bE]) aa=some (0,[x,.D (j+1:Nat)]):=λh=>by show some (0,[aa.w 5000,Val.D (cr .add .i64 (aa.w 5001).I 1)])=_;simp_all
 refine W6 (by simp_all[cJ,cG,cI,i6]) ?_;by_cases c:j<l.length
 rw[c9 c];refine cD (by rw[cW,cI,cI,v1,w0];exact i6 (by show(j:Int)<(l.length:Int);omega)) ?_;refine W6 (by rw[dG,cJ,cW,cG,cI,cI,w4,w0,i6 (show(0:Int)<=(Val.D (i:Int)).I by show(0:Int)<=(i:Int);omega),i6 (show(Val.D (i:Int)).I<(Val.D (l.length:Int)).I by show(i:Int)<(l.length:Int);omega)];rfl) ?_;refine W6 (by rw[cW,cI,cK,cM,w4,w2];exact i6 (by show(i:Int)<(l.length:Int);omega)) ?_;refine W6 (by rw[cJ,cG,cI,v1];exact i6 (by show(0:Int)<=(j:Int);omega)) ?_;refine W6 (by rw[cW,cI,cK,cM,v1,w2];exact i6 (by show(j:Int)<(l.length:Int);omega)) ?_;have q1:dB aa (zs (zg 2002 4001 0) (zg 2002 5001 1))=decide (ci (cg l i) 0<ci (cg l j) 1):=by have e1:=ya w2 w4 0;have e2:=ya w2 v1 1;exact congr (congrArg (λa b:Int=>decide (a<b)) e1) e2
 have q2:dB aa (zs (zg 2002 5001 0) (zg 2002 4001 1))=decide (ci (cg l j) 0<ci (cg l i) 1):=by have e1:=ya w2 v1 0;have e2:=ya w2 w4 1;exact congr (congrArg (λa b:Int=>decide (a<b)) e1) e2
 unfold uE;by_cases c1:ci (cg l i) 0<ci (cg l j) 1;rw[i6 c1,B0];refine cD (q1.trans (i6 c1)) ?_;by_cases c2:ci (cg l j) 0<ci (cg l i) 1
 rw[i6 c2,c9 rfl];have dh:bZ aa X4= .A [mL l i j]:=by have e1:=ya w2 w4 0;have e2:=ya w2 v1 0;have e3:=ya w2 w4 1;have e4:=ya w2 v1 1;show Val.A [Val.A [.D (min (bZ aa (.O .G [aW,bi,.C (0:Nat)])).I (bZ aa (.O .G [aW,bE,.C (0:Nat)])).I),.D (max (bZ aa (.O .G [aW,bi,.C (1:Nat)])).I (bZ aa (.O .G [aW,bE,.C (1:Nat)])).I)]]=_;rw[e1,e2,e3,e4];rfl
 have d5e:bZ aa X5=cC (0,[.D (eM l i j).length,.D l.length,.A (eM l i j)]):=by show aa.f 859 [.D (bZ aa X4).L.length,.D 0,bZ aa X4,aa.w 2000,aa.w 2002,aa.w 4001,aa.w 5001]=_;rw[wf];show cC (0,[.D (eM (aa.w 2002).L (aa.w 4001).I.toNat (aa.w 5001).I.toNat).length,.D (aa.w 2002).L.length,.A (eM (aa.w 2002).L (aa.w 4001).I.toNat (aa.w 5001).I.toNat)])=_;rw[w2,w4,v1];rfl
 have d52:bZ aa (zo X5 2)= .A (eM l i j):=by show ck (bZ aa X5).L 1 2=_;rw[d5e];rfl
 have d50:bZ aa (zo X5 0)= .D (eM l i j).length:=by show ck (bZ aa X5).L 1 0=_;rw[d5e];rfl
 refine Y9 (by rw[je,q2,i6 c2];rfl) (Y3 (r:=(0,[.D (eM l i j).length,.D l.length,.A (eM l i j)])) ?_ d5e (W6 ?_ ?_));show cQ _ [Val.D (bZ aa X4).L.length,.D 0,bZ aa X4]=_;rw[dh];exact eb9 w0 w2 w4 v1 hn;rw[dY,cK,d50,d52];exact i6 rfl;show some (2,[Val.D (bZ aa (zo X5 2)).L.length,Val.B true,aa.w 5001,bZ aa (zo X5 2)])=_;rw[d52,v1];rfl;rw[j7 c2,b9 Bool.false_ne_true];exact cD (by rw[je,q2,j7 c2];rfl) (skip c);simp_all[j7,F8,b9,Bool.false_ne_true,Y9];refine Y9 (by rw[cW,cI,cI,v1,w0];exact j7 (by show¬(j:Int)<(l.length:Int);omega)) ?_;show some (1,[aa.w 5000,aa.w 5001])=_;grind
theorem ec0(f859: ∀a,I.f 859 a=pQ a){i:Nat}{x:Val}(h0:I.w 2000= .D l.length)(h2:(I.w 2002).L=l)(hw:I.w 4001= .D i)(hi:i<l.length)(hn:l.length<=1000):
 cQ (λvs=>W5 Yz (I.U 5000 vs)) [x,.D (i+1:Nat)]=some (zC x l i):=by
 have run:=dS7 f859 (x:=x) h0 h2 hw hi hn;unfold zC;cases hf:ij l i with
 |none=>
  have hno: ∀j,i<j->j<l.length->uE l i j=false:=λj h1 h2=>by have:=B9.1 hf j (p7.2 h2);simpa[h1]using this
  refine fD (st:=λm=>[x,.D (i+1+m:Nat)]) (n:=l.length-(i+1)) (λm hm=> ?_) ?_;rw[run _ (by omega),c9 (by omega),hno _ (by omega) (by omega)];rfl;grind
 |some j=>
  obtain⟨a,b,c⟩:=pg hf;refine fD (st:=λm=>[x,.D (i+1+m:Nat)]) (n:=j-(i+1)) (λm hm=> ?_) ?_;have h:=c (i+1+m) (by omega);rw[i6 (by omega),B0]at h;rw[run _ (by omega),c9 (by omega),h];rfl;grind
