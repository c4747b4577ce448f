import Derived.Test.YtpmabjilbokleaaGreatEL19
set_option linter.unusedSimpArgs false
set_option linter.unusedVariables false
namespace Go.Ev.S9
open Go Go.Ev
def ME:SX:= .op (.cmp .geq) [.va 1,.ci 1]
def Qg:SX:= zb (.va 1) 1048576
def Kf:SX:= ze (.va 2) 0
def OI:SX:= ze (.va 3) 0
def T_rRight:VT:= .ite (ze (.va 0) 1) (.ite (ME) (.ite (Qg) (.ite (Kf) (.ret 0 [OI]) (.ret 0 [.cb false])) (.ret 0 [.cb false])) (.ret 0 [.cb false])) (.ite (ze (.va 0) 2) (.ite (ME) (.ite (Qg) (.ite (.op (.cmp .geq) [.va 2,.ci 1]) (.ite (zb (.va 2) 1048576) (.ite (OI) (.need (.op (.cmp .neq) [.va 2,.ci 0]) (.ite (ze (.op (.ar .rem .i64) [.va 1,.va 2]) 0) (.ret 0 [zb (.op (.ar .quo .i64) [.va 1,.va 2]) 16]) (.ret 0 [.cb false]))) (.ret 0 [.cb false])) (.ret 0 [.cb false])) (.ret 0 [.cb false])) (.ret 0 [.cb false])) (.ret 0 [.cb false])) (.ite (ze (.va 0) 3) (.ite (.op (.cmp .geq) [.va 3,.ci 1]) (.ite (zb (.va 3) 1048576) (.ite (ze (.va 1) 0) (.ret 0 [Kf]) (.ret 0 [.cb false])) (.ret 0 [.cb false])) (.ret 0 [.cb false])) (.ret 0 [.cb false])))
def OQ:SX:= ze (.va 0) 2
def Nu:SX:= .op (.scmp .neq) [.va 1,.cs []]
def PR:SX:= .op (.cmp .neq) [.va 3,.ci 0]
def zW:SX:= zs (.va 2) (.ci (-1099511627776))
def zO:SX:= zt (.va 2) 1099511627776
def T_rev:VT:= .ite (.op (.cmp .neq) [.va 0,.ci 1]) (.ite (.op (.cmp .neq) [.va 0,.ci 2]) (.ret 0 [.ci 80]) (.ite (OQ) (.ite (Nu) (.ret 0 [.ci 60]) (.ite (PR) (.ret 0 [.ci 60]) (.ite (zW) (.ret 0 [.ci 61]) (.ite (zO) (.ret 0 [.ci 61]) (.ret 0 [.ci 0]))))) (.ite (zW) (.ret 0 [.ci 61]) (.ite (zO) (.ret 0 [.ci 61]) (.ret 0 [.ci 0]))))) (.ite (zs (.op .slen [.va 1]) (.ci 1)) (.ret 0 [.ci 60]) (.ite (zt (.op .slen [.va 1]) 32) (.ret 0 [.ci 60]) (.ite (OQ) (.ite (Nu) (.ret 0 [.ci 60]) (.ite (PR) (.ret 0 [.ci 60]) (.ite (zW) (.ret 0 [.ci 61]) (.ite (zO) (.ret 0 [.ci 61]) (.ret 0 [.ci 0]))))) (.ite (zW) (.ret 0 [.ci 61]) (.ite (zO) (.ret 0 [.ci 61]) (.ret 0 [.ci 0]))))))
def XO:SX:= .op (.ar .and .i64) [.va 0,.ci 4294967295]
def RA:SX:= za (.op (.ar .shr .i64) [.va 0,.ci 32]) (.op (.ar .shr .i64) [XO,.ci 32])
def TE:SX:= za (.ci 0) (.op (.ar .shr .i64) [RA,.ci 32])
def T_r3of:VT:= .ret 0 [.op (.ar .and .i64) [XO,.ci 4294967295],.op (.ar .and .i64) [RA,.ci 4294967295],.op (.ar .and .i64) [TE,.ci 4294967295],za (.ci 0) (.op (.ar .shr .i64) [TE,.ci 32])]
def XZ:SX:= za (.va 0) (.va 4)
def Yv:SX:= za (za (.va 1) (.va 5)) (.op (.ar .shr .i64) [XZ,.ci 32])
def Zo:SX:= za (za (.va 2) (.va 6)) (.op (.ar .shr .i64) [Yv,.ci 32])
def T_r3plus:VT:= .ret 0 [.op (.ar .and .i64) [XZ,.ci 4294967295],.op (.ar .and .i64) [Yv,.ci 4294967295],.op (.ar .and .i64) [Zo,.ci 4294967295],za (za (.va 3) (.va 7)) (.op (.ar .shr .i64) [Zo,.ci 32])]
def gT:SX:= .op (.ar .or .i64) [.op (.ar .shl .i64) [.va 1,.ci 32],.va 0]
def T_r3fit:VT:= .ite (.op .not [zn (.op (.cmp .eql) [.op .lget [.app 810 [gT],.ci 0,.ci 0],.va 0]) (zn (.op (.cmp .eql) [.op .lget [.app 810 [gT],.ci 0,.ci 1],.va 1]) (zn (.op (.cmp .eql) [.op .lget [.app 810 [gT],.ci 0,.ci 2],.va 2]) (.op (.cmp .eql) [.op .lget [.app 810 [gT],.ci 0,.ci 3],.va 3])))]) (.ret 0 [.ci 0,.cb false]) (.ret 0 [gT,.cb true])
def pD:SX:= .app 850 [.ci 0,.ci 0,.ci 0,.ci 0,.ci 0,.ci 0,zl 0,.va 0]
def qm:SX:= zo pD 1
def qr:SX:= zo pD 2
def qy:SX:= zo pD 3
def qY:SX:= zo pD 4
def Ue:VT:= .ite (zs (.va 2000) (zl 0)) (.need (zp (.va 2000)) (.ret 0 [zi (.va 2000),.op .lget [.app 811 [.va 2001,.va 2002,.va 2003,.va 2004,.op .lget [.app 810 [zg 0 2000 0],.ci 0,.ci 0],.op .lget [.app 810 [zg 0 2000 0],.ci 0,.ci 1],.op .lget [.app 810 [zg 0 2000 0],.ci 0,.ci 2],.op .lget [.app 810 [zg 0 2000 0],.ci 0,.ci 3]],.ci 0,.ci 0],.op .lget [.app 811 [.va 2001,.va 2002,.va 2003,.va 2004,.op .lget [.app 810 [zg 0 2000 0],.ci 0,.ci 0],.op .lget [.app 810 [zg 0 2000 0],.ci 0,.ci 1],.op .lget [.app 810 [zg 0 2000 0],.ci 0,.ci 2],.op .lget [.app 810 [zg 0 2000 0],.ci 0,.ci 3]],.ci 0,.ci 1],.op .lget [.app 811 [.va 2001,.va 2002,.va 2003,.va 2004,.op .lget [.app 810 [zg 0 2000 0],.ci 0,.ci 0],.op .lget [.app 810 [zg 0 2000 0],.ci 0,.ci 1],.op .lget [.app 810 [zg 0 2000 0],.ci 0,.ci 2],.op .lget [.app 810 [zg 0 2000 0],.ci 0,.ci 3]],.ci 0,.ci 2],.op .lget [.app 811 [.va 2001,.va 2002,.va 2003,.va 2004,.op .lget [.app 810 [zg 0 2000 0],.ci 0,.ci 0],.op .lget [.app 810 [zg 0 2000 0],.ci 0,.ci 1],.op .lget [.app 810 [zg 0 2000 0],.ci 0,.ci 2],.op .lget [.app 810 [zg 0 2000 0],.ci 0,.ci 3]],.ci 0,.ci 3]])) (.ret 1 [.va 2000,.va 2001,.va 2002,.va 2003,.va 2004])
def T_r3Sum:VT:= .loop ⟨850,[.ci 0,.ci 0,.ci 0,.ci 0,.ci 0],2000,[.ci 0,zl 0,.va 0]⟩ Ue [.ite (.op .not [.app 813 [qm,qr,qy,qY]]) (.ret 0 [.ci 0,.ci 30]) (.ret 0 [.app 812 [qm,qr,qy,qY],.ci 0])]
def zj:SX:= .app 851 [.ci 0,.ci 0,.ci 0,.ci 0,.ci 0,.ci 0,.ci 0,.ci 0,.ci 0,.ci 0,zl 0,.va 0,.app 842 [.va 0]]
def BE:VT:= .ite (zs (.va 2000) (zl 0)) (.ite (ze (.va 2000) 0) (.need (zp (.va 2000)) (.ret 0 [zi (.va 2000),.va 2001,.va 2002,.va 2003,.va 2004,.va 2005,.va 2006,zg 0 2000 0,zg 0 2000 0])) (.need (zp (.va 2000)) (.ite (zs (zg 0 2000 0) (.va 2007)) (.ite (.op (.cmp .gtr) [zg 0 2000 0,.va 2008]) (.ret 0 [zi (.va 2000),.va 2001,.va 2002,.va 2003,.va 2004,.va 2005,.va 2006,zg 0 2000 0,zg 0 2000 0]) (.ret 0 [zi (.va 2000),.va 2001,.va 2002,.va 2003,.va 2004,.va 2005,.va 2006,zg 0 2000 0,.va 2008])) (.ite (.op (.cmp .gtr) [zg 0 2000 0,.va 2008]) (.ret 0 [zi (.va 2000),.va 2001,.va 2002,.va 2003,.va 2004,.va 2005,.va 2006,.va 2007,zg 0 2000 0]) (.ret 0 [zi (.va 2000),.va 2001,.va 2002,.va 2003,.va 2004,.va 2005,.va 2006,.va 2007,.va 2008]))))) (.ret 1 [.va 2000,.va 2001,.va 2002,.va 2003,.va 2004,.va 2005,.va 2006,.va 2007,.va 2008])
def T_rAll:VT:= .need (zb (zl 0) 100) (.ite (.op (.cmp .neq) [.app 843 [.va 0],.ci 0]) (.ret 0 [.ci 0,.ci 0,.ci 0,.ci 0,.app 843 [.va 0]]) (.loop ⟨851,[.ci 0,.ci 0,.ci 0,.ci 0,.ci 0,.ci 0,.ci 0,.ci 0,.ci 0],2000,[.ci 0,zl 0,.va 0,.app 842 [.va 0]]⟩ BE [.ret 0 [zl 0,.app 842 [.va 0],zo zj 7,zo zj 8,.ci 0]]))
def Wu:SX:= .op (.ar .mul .i64) [zm (zm (.op (.ar .quo .i64) [.va 4,.va 2]) (.op (.ar .quo .i64) [.va 1,.va 2])) (.ci 1),.va 2]
def UW:SX:= .app 853 [.op .llen [.op .row []],Wu,.op .row [],.va 4,.va 0,.va 1,.va 2,.va 3]
def YK:SX:= zo UW 2
def dv5:SX:= .op (.ar .mul .i64) [zm (zm (.op (.ar .quo .i64) [.va 4,.va 1]) (.op (.ar .quo .i64) [.va 1,.va 1])) (.ci 1),.va 1]
def ZY:SX:= .app 853 [.op .llen [.op .row []],dv5,.op .row [],.va 4,.va 0,.va 1,.va 2,.va 3]
def XG:SX:= zo ZY 2
def Bz:VT:= .ite (.op (.cmp .leq) [.va 2001,.va 4]) (.ite (zs (.va 4) (za (.va 2001) (.va 1))) (.need (zn (.op (.cmp .eql) [.va 2000,zl 2002]) (zb (zL (zc (.va 2002) (.op .row [.op .row [.va 2001,za (.va 2001) (.va 1)]]))) 1000000)) (.ite (ze (.va 0) 2) (.ret 0 [zL (zc (.va 2002) (.op .row [.op .row [.va 2001,za (.va 2001) (.va 1)]])),za (.va 2001) (.va 2),zc (.va 2002) (.op .row [.op .row [.va 2001,za (.va 2001) (.va 1)]])]) (.ret 0 [zL (zc (.va 2002) (.op .row [.op .row [.va 2001,za (.va 2001) (.va 1)]])),za (.va 2001) (.va 1),zc (.va 2002) (.op .row [.op .row [.va 2001,za (.va 2001) (.va 1)]])]))) (.ite (ze (.va 0) 2) (.ret 0 [.va 2000,za (.va 2001) (.va 2),.va 2002]) (.ret 0 [.va 2000,za (.va 2001) (.va 1),.va 2002]))) (.ret 1 [.va 2000,.va 2001,.va 2002])
def T_rOf:VT:= .ite (.op .not [.app 700 [.va 0,.va 1,.va 2,.va 3]]) (.ret 0 [.op .row []]) (.ite (zs (.va 4) (.ci (-1099511627776))) (.ret 0 [.op .row []]) (.ite (zt (.va 4) 1099511627776) (.ret 0 [.op .row []]) (.ite (ze (.va 0) 3) (.ret 0 [.op .row [.op .row [.va 4,za (.va 4) (.va 3)]]]) (.ite (ze (.va 0) 2) (.need (.op (.cmp .neq) [.va 2,.ci 0]) (.loop ⟨853,[.op .llen [.op .row []],Wu,.op .row []],2000,[.va 4,.va 0,.va 1,.va 2,.va 3]⟩ Bz [.need (.op (.cmp .eql) [zo UW 0,zL YK]) (.ret 0 [YK])])) (.need (.op (.cmp .neq) [.va 1,.ci 0]) (.loop ⟨853,[.op .llen [.op .row []],dv5,.op .row []],2000,[.va 4,.va 0,.va 1,.va 2,.va 3]⟩ Bz [.need (.op (.cmp .eql) [zo ZY 0,zL XG]) (.ret 0 [XG])]))))))
def gF:SX:= .app 860 [.ci 0,.op .llen [.op .row []],.ci 0,.op .row [],.va 0,.ci 0,zl 1,.va 1]
def ow:SX:= zo gF 3
def pG:SX:= .app 854 [zL ow,.cb true,ow]
def kM:SX:= zo pG 0
def iq:SX:= zo pG 2
def wJ:SX:= .app 855 [.op .llen [.op .row []],.ci 0,.op .row [],kM,iq]
def Iq:SX:= zo wJ 2
def X0:SX:= .op (.cmp .eql) [.va 2001,zl 2003]
def X1:SX:= zc (.va 2003) (.op .row [.op .row [zg 1 2002 0,za (zg 1 2002 0) (.va 0)]])
def QV:VT:= .ite (zs (.va 2002) (zl 1)) (.need (zp (.va 2002)) (.ite (.op (.cmp .geq) [zg 1 2002 0,.ci (-1099511627776)]) (.ite (.op .not [zb (zg 1 2002 0) 1099511627776]) (.ret 2 [.ci 2,.va 2001,.va 2002,.va 2003]) (.need (zn X0 (zb (zL X1) 1000000)) (.ret 0 [.va 2000,zL X1,zi (.va 2002),X1]))) (.ret 2 [.ci 2,.va 2001,.va 2002,.va 2003]))) (.ret 1 [.va 2000,.va 2001,.va 2002,.va 2003])
def X2:SX:= .op (.cmp .eql) [.va 6000,zl 6002]
def X3:SX:= zc (.va 6002) (.op .row [.op .row [zg 2002 6001 0,zg 2002 6001 1]])
def KU:VT:= .need (zp (.va 2000)) (.ite (zs (.va 6001) (.va 2000)) (.ite (.op (.cmp .neq) [.va 6001,.va 4001]) (.ite (.op (.cmp .neq) [.va 6001,.va 5001]) (.need (zp (.va 6001)) (.need (zs (.va 6001) (zl 2002)) (.need (zn X2 (zb (zL X3) 1000000)) (.ret 0 [zL X3,zi (.va 6001),X3])))) (.ret 0 [.va 6000,zi (.va 6001),.va 6002])) (.ret 0 [.va 6000,zi (.va 6001),.va 6002])) (.ret 1 [.va 6000,.va 6001,.va 6002]))
def X4:SX:= .op .row [.op .row [.op .imin [zg 2002 4001 0,zg 2002 5001 0],.op .imax [zg 2002 4001 1,zg 2002 5001 1]]]
def X5:SX:= .app 859 [zL X4,.ci 0,X4,.va 2000,.va 2002,.va 4001,.va 5001]
def Np:VT:= .need (zp (.va 2000)) (.ite (zs (.va 5001) (.va 2000)) (.need (zn (zp (.va 4001)) (zs (.va 4001) (.va 2000))) (.need (zs (.va 4001) (zl 2002)) (.need (zp (.va 5001)) (.need (zs (.va 5001) (zl 2002)) (.ite (zs (zg 2002 4001 0) (zg 2002 5001 1)) (.ite (.op .not [zs (zg 2002 5001 0) (zg 2002 4001 1)]) (.ret 0 [.va 5000,zi (.va 5001)]) (.loop ⟨859,[zL X4,.ci 0,X4],6000,[.va 2000,.va 2002,.va 4001,.va 5001]⟩ KU [.need (.op (.cmp .eql) [zo X5 0,zL (zo X5 2)]) (.ret 2 [zL (zo X5 2),.cb true,.va 5001,zo X5 2])])) (.ret 0 [.va 5000,zi (.va 5001)])))))) (.ret 1 [.va 5000,.va 5001]))
def X6:SX:= .app 858 [.va 4000,zi (.va 4001),.va 2000,.va 2002,.va 4001]
def MP:VT:= .need (zp (.va 2000)) (.ite (zs (.va 4001) (.va 2000)) (.loop ⟨858,[.va 4000,zi (.va 4001)],5000,[.va 2000,.va 2002,.va 4001]⟩ Np [.ret 0 [zo X6 0,zi (.va 4001)],.need (.op (.cmp .eql) [zo X6 0,zL (zo X6 3)]) (.ret 2 [zL (zo X6 3),zo X6 1,.va 4001,zo X6 3])]) (.ret 1 [.va 4000,.va 4001]))
def X7:SX:= .app 857 [.cb false,.ci 0,.va 2000,.va 2002]
def Cw:VT:= .ite (.va 2001) (.loop ⟨857,[.cb false,.ci 0],4000,[.va 2000,.va 2002]⟩ MP [.ret 0 [.va 2000,.cb false,.va 2002],.need (.op (.cmp .eql) [zo X7 0,zL (zo X7 3)]) (.ret 0 [zL (zo X7 3),zo X7 1,zo X7 3])]) (.ret 1 [.va 2000,.va 2001,.va 2002])
def X8:SX:= zc (.va 2002) (.op .row [.op .row [.op .lget [iq,.va 2001,.ci 0],.op .lget [iq,.va 2001,.ci 1]]])
def X9:SX:= .op .lget [.va 3001,zm (.va 3000) (.ci 1),.ci 0]
def Fo:SX:= .op .lset [.va 3001,zm (.va 3000) (.ci 1),.op .row [zg 3001 3000 0,zg 3001 3000 1]]
def OO:VT:= .ite (zt (.va 3000) 0) (.need (zn (zp (zm (.va 3000) (.ci 1))) (zs (zm (.va 3000) (.ci 1)) (zL X8))) (.need (zs (zm (.va 3000) (.ci 1)) (zl 3001)) (.need (zn (zp (.va 3000)) (zs (.va 3000) (zL X8))) (.need (zs (.va 3000) (zl 3001)) (.ite (.op (.cmp .gtr) [X9,zg 3001 3000 0]) (.need (zs (.va 3000) (zL Fo)) (.ret 0 [zm (.va 3000) (.ci 1),.op .lset [Fo,.va 3000,.op .row [X9,.op .lget [.va 3001,zm (.va 3000) (.ci 1),.ci 1]]]])) (.ret 1 [.va 3000,.va 3001])))))) (.ret 1 [.va 3000,.va 3001])
def Hp:SX:= .op (.cmp .eql) [.va 2000,zl 2002]
def xC:SX:= zo (.app 856 [.va 2001,X8,kM,iq,zL X8,X8,.va 2001]) 1
def TG:VT:= .need (zp kM) (.ite (zs (.va 2001) kM) (.need (zp (.va 2001)) (.need (zs (.va 2001) (zL iq)) (.need (zn Hp (zb (zL X8) 1000000)) (.loop ⟨856,[.va 2001,X8],3000,[kM,iq,zL X8,X8,.va 2001]⟩ OO [.need (.op (.cmp .eql) [zL X8,zL xC]) (.ret 0 [zL xC,zi (.va 2001),xC])])))) (.ret 1 [.va 2000,.va 2001,.va 2002]))
def T_sOf:VT:= .ite (.op (.cmp .geq) [.va 0,.ci 1]) (.ite (.op .not [zb (.va 0) 1048576]) (.ret 0 [.ci 2,.op .row []]) (.loop ⟨860,[.ci 0,.op .llen [.op .row []],.ci 0,.op .row []],2000,[.va 0,.ci 0,zl 1,.va 1]⟩ QV [.need (.op (.cmp .eql) [zo gF 1,zL ow]) (.loop ⟨854,[zL ow,.cb true,ow],2000,[]⟩ Cw [.loop ⟨855,[.op .llen [.op .row []],.ci 0,.op .row []],2000,[kM,iq]⟩ TG [.need (.op (.cmp .eql) [zo wJ 0,zL Iq]) (.ret 0 [.ci 0,Iq])]]),.ret 0 [zo gF 0,.op .row []]])) (.ret 0 [.ci 2,.op .row []])
def KP:VT:= .ite (zs (.va 2001) (zl 0)) (.need (zp (.va 2001)) (.ite (zn (.op (.scmp .eql) [zg 0 2001 0,.va 1]) (zn (.op (.cmp .eql) [zg 0 2001 1,.va 2]) (.op (.cmp .eql) [zg 0 2001 2,.va 3]))) (.ret 2 [.cb true,.va 2001]) (.ret 0 [.va 2000,zi (.va 2001)]))) (.ret 1 [.va 2000,.va 2001])
def T_has:VT:= .loop ⟨864,[.cb false,.ci 0],2000,[.ci 0,zl 0,.va 0,.va 1,.va 2,.va 3]⟩ KP [.ret 0 [.cb false],.ret 0 [zo (.app 864 [.cb false,.ci 0,.ci 0,zl 0,.va 0,.va 1,.va 2,.va 3]) 0]]
def pF:SX:= .app 861 [.op .llen [.op .row []],.ci 0,.op .row [],.ci 0,zl 4,.va 4,.va 5,.va 0,.va 1,.va 2,.va 3]
def iy:SX:= zo pF 0
def jI:SX:= zo pF 2
def vd:SX:= .op .lsub [jI,.ci 0,iy]
def jY:SX:= .app 824 [.va 3,vd]
def Ix:SX:= .app 862 [.op .llen [.op .row []],.ci 0,.op .row [],zL jY,jY]
def GV:SX:= zo Ix 2
def GE:SX:= .app 863 [.op .llen [.op .row []],.ci 0,.op .row [],.va 0,.va 1,.va 2,.va 3,iy,jI]
def HK:SX:= zo GE 2
def Lh:SX:= zs (.va 2001) (zl 4)
def KA:SX:= zc (.va 2002) (.op .row [.op .row [zg 4 2001 2]])
def e10:VT:= .ite Lh (.need (zp (.va 2001)) (.ite (.op (.scmp .eql) [zg 4 2001 1,.va 5]) (.need (zn Hp (zb (zL KA) 1000000)) (.ret 0 [zL KA,zi (.va 2001),KA])) (.ret 0 [.va 2000,zi (.va 2001),.va 2002]))) (.ret 1 [.va 2000,.va 2001,.va 2002])
def Rg:SX:= zc (.va 2002) (.op .row [.op .row [.op .lget [jY,.va 2001,.ci 0],.op .lget [jY,.va 2001,.ci 1]]])
def e11:VT:= .ite (zs (.va 2001) (zL jY)) (.need (zp (.va 2001)) (.need (zn Hp (zb (zL Rg) 1000000)) (.ret 0 [zL Rg,zi (.va 2001),Rg]))) (.ret 1 [.va 2000,.va 2001,.va 2002])
def uB:SX:= zc (.va 2002) (.app 704 [.va 0,.va 1,.va 2,.va 3,.op .lget [jI,.va 2001,.ci 0]])
def MJ:VT:= .need (zp iy) (.ite (zs (.va 2001) iy) (.need (zp (.va 2001)) (.need (zs (.va 2001) (zL jI)) (.need (zn Hp (zb (zL uB) 1000000)) (.ret 0 [zL uB,zi (.va 2001),uB])))) (.ret 1 [.va 2000,.va 2001,.va 2002]))
def T_rSpans:VT:= .loop ⟨861,[.op .llen [.op .row []],.ci 0,.op .row []],2000,[.ci 0,zl 4,.va 4,.va 5,.va 0,.va 1,.va 2,.va 3]⟩ e10 [.ite (ze (.va 0) 3) (.need (zn (zn (zp iy) (.op (.cmp .leq) [iy,zL jI])) (zb (zL vd) 100)) (.loop ⟨862,[.op .llen [.op .row []],.ci 0,.op .row []],2000,[zL jY,jY]⟩ e11 [.need (.op (.cmp .eql) [zo Ix 0,zL GV]) (.ret 0 [GV])])) (.loop ⟨863,[.op .llen [.op .row []],.ci 0,.op .row []],2000,[.va 0,.va 1,.va 2,.va 3,iy,jI]⟩ MJ [.need (.op (.cmp .eql) [zo GE 0,zL HK]) (.ret 0 [HK])])]
def pI:SX:= .app 865 [.cb false,.op .llen [.op .row []],.ci 0,.op .row [],.ci 0,zl 4,.va 4,.va 0,.va 1,.va 2,.va 3]
def Ai:SX:= zo pI 1
def Eb:SX:= zo pI 3
def wl:SX:= .op .lsub [Eb,.ci 0,Ai]
def bC:SX:= .app 826 [.va 0,.va 1,.va 2,.va 3,.va 4,zg 4 2002 1]
def vu:SX:= zc (.va 6002) (.op .row [.op .row [zg 4 6001 3]])
def GI:VT:= .ite (zs (.va 6001) (zl 4)) (.need (zp (.va 6001)) (.ite (.op (.scmp .eql) [zg 4 6001 1,zg 4 2002 1]) (.need (zn (zp (.va 4002)) (zs (.va 4002) (zL bC))) (.ite (.op (.cmp .geq) [zg 4 6001 2,.op .lget [bC,.va 4002,.ci 0]]) (.ite (zs (zg 4 6001 2) (.op .lget [bC,.va 4002,.ci 1])) (.need (zn X2 (zb (zL vu) 1000000)) (.ret 0 [zL vu,zi (.va 6001),vu])) (.ret 0 [.va 6000,zi (.va 6001),.va 6002])) (.ret 0 [.va 6000,zi (.va 6001),.va 6002]))) (.ret 0 [.va 6000,zi (.va 6001),.va 6002]))) (.ret 1 [.va 6000,.va 6001,.va 6002])
def Kh:SX:= zs (.va 2002) (zl 4)
def kG:SX:= .app 867 [.op .llen [.op .row []],.ci 0,.op .row [],.ci 0,zl 4,.va 4,.va 0,.va 1,.va 2,.va 3,.va 4001,.va 4003,.va 2002,zL bC,bC,.va 4002,zg 4 2002 1,.op .lget [bC,.va 4002,.ci 0],.op .lget [bC,.va 4002,.ci 1]]
def iB:SX:= .op .lsub [zo kG 2,.ci 0,zo kG 0]
def ti:SX:= zc (.va 4003) (.op .row [.op .row [zg 4 2002 1,.op .lget [bC,.va 4002,.ci 0],.op .lget [bC,.va 4002,.ci 1],.op .lget [.app 820 [iB],.ci 0,.ci 0],.op .lget [.app 820 [iB],.ci 0,.ci 1],.op .lget [.app 820 [iB],.ci 0,.ci 2],.op .lget [.app 820 [iB],.ci 0,.ci 3]]])
def Qz:VT:= .ite (zs (.va 4002) (zL bC)) (.need (zn (zp (.va 2002)) Kh) (.need (zp (.va 4002)) (.need (zn (zn (zp (.va 4001)) (.op (.cmp .leq) [.va 4001,zl 4003])) (zb (zL (.op .lsub [.va 4003,.ci 0,.va 4001])) 1000000)) (.ite (.app 827 [.op .lsub [.va 4003,.ci 0,.va 4001],zg 4 2002 1,.op .lget [bC,.va 4002,.ci 0],.op .lget [bC,.va 4002,.ci 1]]) (.ret 0 [.va 4000,.va 4001,zi (.va 4002),.va 4003]) (.loop ⟨867,[.op .llen [.op .row []],.ci 0,.op .row []],6000,[.ci 0,zl 4,.va 4,.va 0,.va 1,.va 2,.va 3,.va 4001,.va 4003,.va 2002,zL bC,bC,.va 4002,zg 4 2002 1,.op .lget [bC,.va 4002,.ci 0],.op .lget [bC,.va 4002,.ci 1]]⟩ GI [.need (zn (zn (zp (zo kG 0)) (.op (.cmp .leq) [zo kG 0,zL (zo kG 2)])) (zb (zL iB) 100)) (.ite (.op (.cmp .neq) [.app 843 [iB],.ci 0]) (.ret 2 [.cb false,.va 4001,.va 4002,.va 4003]) (.need (zn (.op (.cmp .eql) [.va 4001,zl 4003]) (zb (zL ti) 1000000)) (.ret 0 [.va 4000,zL ti,zi (.va 4002),ti])))]))))) (.ret 1 [.va 4000,.va 4001,.va 4002,.va 4003])
def co:SX:= .app 866 [.va 2000,zl 2003,.ci 0,.va 2003,.ci 0,zl 4,.va 4,.va 0,.va 1,.va 2,.va 3,.va 2002,zL bC,bC]
def X24:SX:= .op (.cmp .eql) [zo co 1,zL (zo co 3)]
def KJ:VT:= .ite Kh (.need (zp (.va 2002)) (.need (zb (zl 4) 100) (.need X0 (.loop ⟨866,[.va 2000,zl 2003,.ci 0,.va 2003],4000,[.ci 0,zl 4,.va 4,.va 0,.va 1,.va 2,.va 3,.va 2002,zL bC,bC]⟩ Qz [.need X24 (.ret 0 [zo co 0,zL (zo co 3),zi (.va 2002),zo co 3]),.need X24 (.ret 2 [zo co 0,zL (zo co 3),.va 2002,zo co 3])])))) (.ret 1 [.va 2000,.va 2001,.va 2002,.va 2003])
def T_rRows:VT:= .loop ⟨865,[.cb false,.op .llen [.op .row []],.ci 0,.op .row []],2000,[.ci 0,zl 4,.va 4,.va 0,.va 1,.va 2,.va 3]⟩ KJ [.need (zn (zn (zp Ai) (.op (.cmp .leq) [Ai,zL Eb])) (zn (zb (zL wl) 400) (.app 431 [wl]))) (.ret 0 [.cb true,.app 490 [wl]]),.ret 0 [zo pI 0,.op .row []]]
def Ho:SX:= .app 868 [.op .llen [.op .row []],.ci 0,.op .row [],.ci 0,zl 0,.va 0,.va 1]
def DX:SX:= zo Ho 2
def dV6:VT:= .ite (zs (.va 2001) (zl 0)) (.need (zp (.va 2001)) (.ite (.op (.cmp .leq) [zg 0 2001 2,.va 1]) (.need (zn (.op (.cmp .eql) [.va 2000,zl 2002]) (zb (zL (zc (.va 2002) (.op .row [zv 0 2001]))) 1000000)) (.ret 0 [zL (zc (.va 2002) (.op .row [zv 0 2001])),zi (.va 2001),zc (.va 2002) (.op .row [zv 0 2001])])) (.ret 0 [.va 2000,zi (.va 2001),.va 2002]))) (.ret 1 [.va 2000,.va 2001,.va 2002])
def T_rFired:VT:= .loop ⟨868,[.op .llen [.op .row []],.ci 0,.op .row []],2000,[.ci 0,zl 0,.va 0,.va 1]⟩ dV6 [.need (.op (.cmp .eql) [zo Ho 0,zL DX]) (.ret 0 [DX])]
def Fj:SX:= .app 870 [.op .llen [.op .row []],.ci 0,.op .row [],.ci 0,zl 0,.va 0]
def JA:SX:= zo Fj 2
def Xt:VT:= .ite (zs (.va 2001) (zl 0)) (.need (zp (.va 2001)) (.ite (ze (zg 0 2001 0) 1) (.need (zn (.op (.cmp .eql) [.va 2000,zl 2002]) (zb (zL (zc (.va 2002) (.op .row [.op .row [zg 0 2001 0,zg 0 2001 1,zg 0 2001 2,zg 0 2001 3]]))) 1000000)) (.ret 0 [zL (zc (.va 2002) (.op .row [.op .row [zg 0 2001 0,zg 0 2001 1,zg 0 2001 2,zg 0 2001 3]])),zi (.va 2001),zc (.va 2002) (.op .row [.op .row [zg 0 2001 0,zg 0 2001 1,zg 0 2001 2,zg 0 2001 3]])])) (.ret 0 [.va 2000,zi (.va 2001),.va 2002]))) (.ret 1 [.va 2000,.va 2001,.va 2002])
def T_rEvents:VT:= .loop ⟨870,[.op .llen [.op .row []],.ci 0,.op .row []],2000,[.ci 0,zl 0,.va 0]⟩ Xt [.need (.op (.cmp .eql) [zo Fj 0,zL JA]) (.ret 0 [JA])]
def xU:SX:= zm (zl 0) (.ci 1)
def OD:VT:= .ite (.op (.cmp .geq) [.va 2001,.ci 0]) (.need (zs (.va 2001) (zl 0)) (.ite (ze (zg 0 2001 0) 2) (.ret 2 [zg 0 2001 2,.va 2001]) (.ret 0 [.va 2000,zm (.va 2001) (.ci 1)]))) (.ret 1 [.va 2000,.va 2001])
def T_rMark:VT:= .loop ⟨871,[.ci 0,xU],2000,[.ci 0,zl 0,.va 0]⟩ OD [.ret 0 [.ci (-2199023255552)],.ret 0 [zo (.app 871 [.ci 0,xU,.ci 0,zl 0,.va 0]) 0]]
def Ge:SX:= .app 873 [.op .llen [.op .row []],.ci 0,.op .row [],.ci 0,zl 0,.va 0]
def Ew:SX:= zo Ge 2
def e12:VT:= .ite (zs (.va 2001) (zl 0)) (.need (zp (.va 2001)) (.need (zn (.op (.cmp .eql) [.va 2000,zl 2002]) (zb (zL (zc (.va 2002) (.op .row [.op .row [zg 0 2001 0,zg 0 2001 1,zg 0 2001 2,zg 0 2001 3]]))) 1000000)) (.ret 0 [zL (zc (.va 2002) (.op .row [.op .row [zg 0 2001 0,zg 0 2001 1,zg 0 2001 2,zg 0 2001 3]])),zi (.va 2001),zc (.va 2002) (.op .row [.op .row [zg 0 2001 0,zg 0 2001 1,zg 0 2001 2,zg 0 2001 3]])]))) (.ret 1 [.va 2000,.va 2001,.va 2002])
def T_opsN:VT:= .loop ⟨873,[.op .llen [.op .row []],.ci 0,.op .row []],2000,[.ci 0,zl 0,.va 0]⟩ e12 [.need (.op (.cmp .eql) [zo Ge 0,zL Ew]) (.ret 0 [Ew])]
def L852:VT:= .ite (zs (.va 2001) (zl 0)) (.need (zp (.va 2001)) (.need (zs (.va 2001) (zl 1)) (.ite (.op .not [zn (zn (.op (.scmp .eql) [zg 0 2001 0,zg 1 2001 0]) (zn (.op (.cmp .eql) [zg 0 2001 1,zg 1 2001 1]) (.op (.cmp .eql) [zg 0 2001 2,zg 1 2001 2]))) (zn (.op (.cmp .eql) [zg 0 2001 3,zg 1 2001 3]) (zn (.op (.cmp .eql) [zg 0 2001 4,zg 1 2001 4]) (zn (.op (.cmp .eql) [zg 0 2001 5,zg 1 2001 5]) (.op (.cmp .eql) [zg 0 2001 6,zg 1 2001 6]))))]) (.ret 2 [.cb false,.va 2001]) (.ret 0 [.va 2000,zi (.va 2001)])))) (.ret 1 [.va 2000,.va 2001])
def T_sameV:VT:= .ite (.op (.cmp .neq) [zl 0,zl 1]) (.ret 0 [.cb false]) (.loop ⟨852,[.cb false,.ci 0],2000,[.ci 0,zl 0,.va 0,.ci 0,zl 1,.va 1]⟩ L852 [.ret 0 [.cb true],.ret 0 [zo (.app 852 [.cb false,.ci 0,.ci 0,zl 0,.va 0,.ci 0,zl 1,.va 1]) 0]])
def fa:SX:= zL (.app 490 [.va 4])
def qM:SX:= zo (.app 763 [.ci 0,.ci 0,fa,.app 490 [.va 4],.va 5,fa]) 0
def AH:SX:= zi qM
def Cf:SX:= .app 764 [qM,AH,.app 490 [.va 4],fa,.app 490 [.va 4],.va 5]
def ke:SX:= zo Cf 0
def Kj:SX:= zp ke
def tD:SX:= .op .isub [fa,ke]
def GA:SX:= .op .iadd [ke,tD]
def rQ:SX:= zo Cf 2
def IC:SX:= zc (.op .lsub [rQ,.ci 0,ke]) (zc (.op .lrep [tD,.op .row [.cs [],.ci 0,.ci 0,.ci 0,.ci 0,.ci 0,.ci 0]]) (.op .lsub [rQ,GA,zL rQ]))
def JR:VT:= .ite (zs (.va 2001) fa) (.need (zp (.va 2001)) (.ite (.op (.cmp .gtr) [.op .lget [.app 490 [.va 4],.va 2001,.ci 2],.va 5]) (.ret 2 [.va 2001,.va 2001]) (.ret 0 [.va 2000,zi (.va 2001)]))) (.ret 1 [.va 2000,.va 2001])
def Mu:VT:= .ite (zs (.va 2001) fa) (.need (zp (.va 2001)) (.need (zs (.va 2001) (zl 2002)) (.ite (.op .not [.op (.cmp .gtr) [zg 2002 2001 2,.va 5]]) (.need (zn (zp (.va 2000)) (zs (.va 2000) fa)) (.need (zs (.va 2000) (zl 2002)) (.ret 0 [zi (.va 2000),zi (.va 2001),.op .lset [.va 2002,.va 2000,zv 2002 2001]]))) (.ret 0 [.va 2000,zi (.va 2001),.va 2002])))) (.ret 1 [.va 2000,.va 2001,.va 2002])
def T_fired:VT:= .need (zn (zn (zb (zl 4) 400) (.app 431 [.va 4])) (.app 491 [.va 4])) (.loop ⟨763,[.ci 0,.ci 0],2000,[fa,.app 490 [.va 4],.va 5,fa]⟩ JR [.ret 0 [.app 490 [.va 4]],.ite (.op (.cmp .eql) [qM,.ci (-1)]) (.ret 0 [.app 490 [.va 4]]) (.loop ⟨764,[qM,AH,.app 490 [.va 4]],2000,[fa,.app 490 [.va 4],.va 5]⟩ Mu [.need (zn Kj (.op (.cmp .leq) [ke,fa])) (.need (zn (zn Kj (zp tD)) (zn (zb tD 1000000) (.op (.cmp .leq) [GA,zL rQ]))) (.need (.op (.cmp .leq) [ke,zL IC]) (.ret 0 [.op .lsub [IC,.ci 0,ke]])))])])
def xX:SX:= .app 828 [.va 0,.va 1,.va 2,.va 3,.app 830 [.va 4]]
def FH:SX:= .app 701 [zg 4 2001 0,zg 4 2001 1,zg 4 2001 2,zg 4 2001 3]
def PX:SX:= zp (zi (.va 2001))
def kf:SX:= .op .iadd [.ci 0,zi (.va 2001)]
def NH:VT:= .ite Lh (.need (zp (.va 2001)) (.ite (.op (.cmp .neq) [FH,.ci 0]) (.ret 2 [FH,.va 2001]) (.need (zn PX (.op (.cmp .leq) [zi (.va 2001),zl 4])) (.need (zn (zn (zp (.ci 0)) (zn PX (.op (.cmp .leq) [kf,zl 4]))) (zb (zL (.op .lsub [.va 4,.ci 0,kf])) 100)) (.need (zn (zb (zL (.app 830 [.op .lsub [.va 4,.ci 0,kf]])) 100) (.app 840 [.va 0,.va 1,.va 2,.va 3,.app 830 [.op .lsub [.va 4,.ci 0,kf]]])) (.ite (.op .not [.app 829 [.va 0,.va 1,.va 2,.va 3,.app 830 [.op .lsub [.va 4,.ci 0,kf]]]]) (.ret 2 [.ci 30,.va 2001]) (.ret 0 [.va 2000,zi (.va 2001)]))))))) (.ret 1 [.va 2000,.va 2001])
def Gs:SX:= .op .not [.app 700 [.va 0,.va 1,.va 2,.va 3]]
def T_rT:VT:= .ite Gs (.ret 0 [.ci 2,.op .row []]) (.loop ⟨869,[.ci 0,.ci 0],2000,[.ci 0,zl 4,.va 4,.va 0,.va 1,.va 2,.va 3]⟩ NH [.need (zb (zl 4) 100) (.need (zn (zb (zL (.app 830 [.va 4])) 100) (.app 840 [.va 0,.va 1,.va 2,.va 3,.app 830 [.va 4]])) (.need (zn (zb (zL xX) 400) (.app 431 [xX])) (.ret 0 [.ci 0,.app 832 [xX,.app 831 [.va 4]]]))),.ret 0 [zo (.app 869 [.ci 0,.ci 0,.ci 0,zl 4,.va 4,.va 0,.va 1,.va 2,.va 3]) 0,.op .row []]])
def oY:SX:= .app 872 [.ci 0,.ci (-2199023255552),.ci 0,.op .row [],.va 0,.va 1,.va 2,.va 3,.op .row [],.ci 0,zl 4,.va 4,zl 4]
def uk:SX:= zo oY 3
def Jv:SX:= .app 701 [zg 4 2002 0,zg 4 2002 1,zg 4 2002 2,zg 4 2002 3]
def GS:SX:= .app 732 [.va 0,.va 1,.va 2,.va 3,.va 2003,zg 4 2002 0,zg 4 2002 1,zg 4 2002 2,zg 4 2002 3]
def Dr:SX:= .app 733 [.va 0,.va 1,.va 2,.va 3,.va 2003,zg 4 2002 0,zg 4 2002 1,zg 4 2002 2,zg 4 2002 3]
def OE:VT:= .ite Kh (.need (zp (.va 2002)) (.ite (.op (.cmp .neq) [Jv,.ci 0]) (.ret 2 [Jv,.va 2001,.va 2002,.va 2003]) (.ite (ze (zg 4 2002 0) 2) (.ret 0 [.va 2000,zg 4 2002 2,zi (.va 2002),.va 2003]) (.need (zn (zn (zn (zb (zl 2003) 400) (.app 431 [.va 2003])) (.app 491 [.va 2003])) (.app 739 [.va 0,.va 2003,zg 4 2002 1])) (.ite (.op (.cmp .neq) [GS,.ci 0]) (.ret 2 [GS,.va 2001,.va 2002,Dr]) (.ret 0 [.va 2000,.va 2001,zi (.va 2002),Dr])))))) (.ret 1 [.va 2000,.va 2001,.va 2002,.va 2003])
def T_engT:VT:= .ite Gs (.ret 0 [.ci 2,.op .row []]) (.loop ⟨872,[.ci 0,.ci (-2199023255552),.ci 0,.op .row []],2000,[.va 0,.va 1,.va 2,.va 3,.op .row [],.ci 0,zl 4,.va 4,zl 4]⟩ OE [.need (zn (zn (zb (zL uk) 400) (.app 431 [uk])) (.app 491 [uk])) (.ret 0 [.ci 0,.app 726 [uk,zo oY 1]]),.ret 0 [zo oY 0,.op .row []]])
def uE:SX:= .app 836 [.va 0,.va 1,.va 2,.va 3,.va 4]
def Bi:SX:= .app 3 [uE,.app 833 [.va 0,.va 1,.va 2,.va 3,.app 835 [.va 4]]]
def QN:VT:= .ite Lh (.need (zp (.va 2001)) (.ite (zt (.op .slen [zg 4 2001 1]) 50) (.ret 2 [.cb true,.va 2001]) (.ret 0 [.va 2000,zi (.va 2001)]))) (.ret 1 [.va 2000,.va 2001])
def T_engineT:VT:= .ite (zt (zl 4) 20) (.ret 0 [.cb true]) (.loop ⟨875,[.cb false,.ci 0],2000,[.ci 0,zl 4,.va 4,.va 0,.va 1,.va 2,.va 3]⟩ QN [.need (zn (zb (zl 4) 100) (.app 838 [.va 0,.va 1,.va 2,.va 3,.va 4])) (.need (zn (zb (zL (.app 835 [.va 4])) 100) (.app 838 [.va 0,.va 1,.va 2,.va 3,.app 835 [.va 4]])) (.ite (.op (.cmp .eql) [.app 837 [.va 0,.va 1,.va 2,.va 3,.va 4],.app 834 [.va 0,.va 1,.va 2,.va 3,.app 835 [.va 4]]]) (.need (zn (zb (zL uE) 400) (.app 431 [uE])) (.need (zb (zL uE) 1000000) (.ite Bi (.ret 0 [Bi]) (.ret 0 [.cb false])))) (.ret 0 [.cb false]))),.ret 0 [zo (.app 875 [.cb false,.ci 0,.ci 0,zl 4,.va 4,.va 0,.va 1,.va 2,.va 3]) 0]])
end Go.Ev.S9
namespace Go.Ev.S9
open Go Go.Ev
def Yg(l:List Val)(mark:Int)(i:Nat):List Val:=bif decide (ci (aO l i) 2<=mark)then [W3 (aO l i)]else []
def kI(l:List Val)(mark:Int):List Val:=U4 (Yg l mark) l.length
def lO(l:List Val)(i:Nat):List Val:=bif decide (ci (aO l i) 0=1)then [qB (aO l i)]else []
def cU(l:List Val):List Val:=U4 (lO l) l.length
def mu(l:List Val):List Val:=U4 (λi=>[qB (aO l i)]) l.length
def Gi(l:List Val)(key:List UInt8)(i:Nat):List Val:=bif decide ((S1 (aO l i) 1).toS=key)then [.vl [S1 (aO l i) 2]]else []
def gE(l:List Val)(key:List UInt8):List Val:=U4 (Gi l key) l.length
def mS(l:List Val):Nat->Nat×List Val
 |0=>(0,[.vi 0,.vi (-1)])
 |k+1=>if ci (aO l k) 0=2 then(1,[S1 (aO l k) 2,.vi k])else mS l k
def cR(l:List Val):Nat->Val
 |0=> .vi (-2199023255552)
 |k+1=>if ci (aO l k) 0=2 then S1 (aO l k) 2 else cR l k
def wP(l:List Val)(p:PaneM)(i:Nat):Bool:=decide (R8 (aO l i)=p)
def KF(n:Int):Int:=aS .and .i64 n 4294967295
def IP(n:Int):Int:=aS .add .i64 (aS .shr .i64 n 32) (aS .shr .i64 (KF n) 32)
def Ht(n:Int):Int:=aS .add .i64 0 (aS .shr .i64 (IP n) 32)
def du(n:Int):List Int:=[aS .and .i64 (KF n) 4294967295,aS .and .i64 (IP n) 4294967295,aS .and .i64 (Ht n) 4294967295,aS .add .i64 0 (aS .shr .i64 (Ht n) 32)]
def Rc(x y:List Int):Int:=aS .add .i64 (x.getD 0 0) (y.getD 0 0)
def Jw(x y:List Int):Int:=aS .add .i64 (aS .add .i64 (x.getD 1 0) (y.getD 1 0)) (aS .shr .i64 (Rc x y) 32)
def Jf(x y:List Int):Int:=aS .add .i64 (aS .add .i64 (x.getD 2 0) (y.getD 2 0)) (aS .shr .i64 (Jw x y) 32)
def oA(x y:List Int):List Int:=[aS .and .i64 (Rc x y) 4294967295,aS .and .i64 (Jw x y) 4294967295,aS .and .i64 (Jf x y) 4294967295,aS .add .i64 (aS .add .i64 (x.getD 3 0) (y.getD 3 0)) (aS .shr .i64 (Jf x y) 32)]
def bk(a b:Int):Int:=aS .or .i64 (aS .shl .i64 b 32) a
def jU(w:List Int):Bool:=decide (du (bk (w.getD 0 0) (w.getD 1 0))=[w.getD 0 0,w.getD 1 0,w.getD 2 0,w.getD 3 0])
def ij(l:List Val):Nat->List Int
 |0=>[0,0,0,0]
 |k+1=>oA (ij l k) (du (ci (aO l k) 0))
def vI(l:List Int):List Val:=l.map .vi
def vQ(a:List Val)(i:Nat):List Int:=[(aN a i).toI,(aN a (i+1)).toI,(aN a (i+2)).toI,(aN a (i+3)).toI]
def bX(l:List Val):Nat->Val×Val
 |0=>(.vi 0,.vi 0)
 |k+1=>if k=0 then(S1 (aO l k) 0,S1 (aO l k) 0)else(if ci (aO l k) 0<(bX l k).1.toI then S1 (aO l k) 0 else(bX l k).1,if(bX l k).2.toI<ci (aO l k) 0 then S1 (aO l k) 0 else(bX l k).2)
def xL(v0:Nat)(row:SX):SX:= zc (.va (v0+2)) (.op .row [row])
def Dv(v0:Nat)(row:SX):VT:= .need (zn (.op (.cmp .eql) [.va v0,zL (.va (v0+2))]) (zb (zL (xL v0 row)) 1000000)) (.ret 0 [zL (xL v0 row),zi (.va (v0+1)),xL v0 row])
def Jz(v0:Nat):VT:= .ret 0 [.va v0,zi (.va (v0+1)),.va (v0+2)]
def Dy(v0:Nat)(N:SX)(b:VT):VT:= .ite (zs (.va (v0+1)) N) (.need (zp (.va (v0+1))) b) (.ret 1 [.va v0,.va (v0+1),.va (v0+2)])
theorem oD(I:Opq)(v0:Nat)(a b c:Val):(I.upd v0 [a,b,c]).w v0=a:=by rw[T1];simp
theorem fT(I:Opq)(v0:Nat)(a b c:Val):(I.upd v0 [a,b,c]).w (v0+1)=b:=by rw[T1];simp
theorem oK(I:Opq)(v0:Nat)(a b c:Val):(I.upd v0 [a,b,c]).w (v0+2)=c:=by rw[T1];simp
theorem bc(I:Opq)(v0:Nat)(l:List Val){n:Nat}(h:n<v0):(I.upd v0 l).w n=I.w n:=by simp_all[T1,b9]
theorem Vm{I:Opq}{v0:Nat}{row:SX}{i:Nat}{acc:List Val}{x:Val}(h0:I.w v0= .vi acc.length)(h1:I.w (v0+1)= .vi i)(h2:I.w (v0+2)= .vl acc)(hr:aM I row=x)(hi:i<1000000)(ha:acc.length<1000000):
 R0 (Dv v0 row) I=some (0,[.vi (acc++[x]).length,.vi (i+1:Nat),.vl (acc++[x])]):=by
 have inc:aS .add .i64 (Val.vi (i:Int)).toI 1=((i+1:Nat):Int):=V8 (n:=1000000) hi (by omega);have dc:aM I (xL v0 row)= .vl (acc++[x]):=by
  show Val.vl ((I.w (v0+2)).toL++[aM I row])=_;simp_all
 refine R3 ?_ ?_
 .rw[Y4,bK,T5,V6,h0,S2,S2,bx,h2,W4,dc];grind[uU]
 .show some (0,[Val.vi (aM I (xL v0 row)).toL.length,Val.vi (aS .add .i64 (I.w (v0+1)).toI 1),aM I (xL v0 row)])=_;simp_all
theorem cK2{I:Opq}{v0:Nat}{i:Nat}{acc:List Val}(h0:I.w v0= .vi acc.length)(h1:I.w (v0+1)= .vi i)(h2:I.w (v0+2)= .vl acc)(hi:i<1000000):
 R0 (Jz v0) I=some (0,[.vi acc.length,.vi (i+1:Nat),.vl acc]):=by
 have inc:aS .add .i64 (Val.vi (i:Int)).toI 1=((i+1:Nat):Int):=V8 (n:=1000000) hi (by omega);show some (0,[I.w v0,Val.vi (aS .add .i64 (I.w (v0+1)).toI 1),I.w (v0+2)])=_;grind
theorem XU{I:Opq}{v0 n:Nat}{N:SX}{b:VT}{g:Nat->List Val}(hn:n<=100000)(hg: ∀i,(g i).length<=1)(hN: ∀vs,(aM (I.upd v0 vs) N).toI=n)
 (hb: ∀i acc,i<n->acc.length<=i->R0 b (I.upd v0 [.vi acc.length,.vi i,.vl acc])=some (0,[.vi (acc++g i).length,.vi (i+1:Nat),.vl (acc++g i)])):
 S5 (λvs=>R0 (Dy v0 N b) (I.upd v0 vs)) [.vi 0,.vi 0,.vl []]=some (0,[.vi (U4 g n).length,.vi n,.vl (U4 g n)]):=by
 have hl: ∀i,(U4 g i).length<=i:=λi=>by have:=Y7 hg i;omega
 refine V9 (st:=λi=>[.vi (U4 g i).length,.vi i,.vl (U4 g i)]) (n:=n) (λi hi=> ?_) ?_
 .refine S3 ?_ (R3 ?_ (hb i (U4 g i) hi (hl i)))
  .rw[W5,V6,fT,hN];exact e9 (by show(i:Int)<(n:Int);omega)
  simp_all[T5,W4,V6,fT,e9]
 .refine S4 ?_ ?_
  .simp_all[W5,V6,fT,j5]
  .show some (1,[(I.upd v0 _).w v0,(I.upd v0 _).w (v0+1),(I.upd v0 _).w (v0+2)])=_;rw[oD,fT,oK]
theorem Ni{I:Opq}{v0 n:Nat}{N c row:SX}{p:Nat->Bool}{f:Nat->Val}(hn:n<=100000)(hN: ∀vs,(aM (I.upd v0 vs) N).toI=n)
 (hc: ∀i a acc,i<n->dB (I.upd v0 [a,.vi i,acc]) c=p i) (hr: ∀i a acc,i<n->aM (I.upd v0 [a,.vi i,acc]) row=f i):
 S5 (λvs=>R0 (Dy v0 N (.ite c (Dv v0 row) (Jz v0))) (I.upd v0 vs)) [.vi 0,.vi 0,.vl []]=some (0,[.vi (U4 (λi=>bif p i then [f i]else []) n).length,.vi n,.vl (U4 (λi=>bif p i then [f i]else []) n)]):=by
 refine XU hn (λi=>by grind) hN λi acc hi ha=> ?_
 cases h:p i with
 |true=>exact S3 ((hc i _ _ hi).trans h) (Vm (oD ..) (fT ..) (oK ..) (hr i _ _ hi) (by omega) (by omega))
 |false=>
  rw[cond_false,p9];exact S4 ((hc i _ _ hi).trans h) (cK2 (oD ..) (fT ..) (oK ..) (by omega))
theorem Nx{I:Opq}{v0 n:Nat}{N row:SX}{f:Nat->Val}(hn:n<=100000)(hN: ∀vs,(aM (I.upd v0 vs) N).toI=n)(hr: ∀i a acc,i<n->aM (I.upd v0 [a,.vi i,acc]) row=f i):
 S5 (λvs=>R0 (Dy v0 N (Dv v0 row)) (I.upd v0 vs)) [.vi 0,.vi 0,.vl []]=some (0,[.vi (U4 (λi=>[f i]) n).length,.vi n,.vl (U4 (λi=>[f i]) n)]):=
 XU hn (λi=>by simp) hN λi acc hi ha=>Vm (oD ..) (fT ..) (oK ..) (hr i _ _ hi) (by omega) (by omega)
theorem xT{I:Opq}{q l:SX}{g:List Val}{n:Nat}(e:aM I q=V0 (0,[.vi g.length,.vi n,.vl g]))(hl:aM I l= .vl g){r:Option (Nat×List Val)}{T:VT}(h:R0 T I=r):
 R0 (.need (.op (.cmp .eql) [zo q 0,zL l]) T) I=r:=by
 refine R3 ?_ h;have:aM I (zo q 0)= .vi g.length:=by
  show S0 (aM I q).toL 1 0=_;rw[e];rfl
 rw[bK,this,S2,hl];exact e9 rfl
end Go.Ev.S9
namespace Go.Ev.S9
open Go Go.Ev
def dp(q k j:Nat):SX:= .op .lget [.va q,.va k,.ci j]
def dN6(q k:Nat):SX:= .op .row [dp q k 0,dp q k 1,dp q k 2,dp q k 3]
def Lw(q k:Nat):SX:= .op .row [dp q k 0,dp q k 1,dp q k 2,dp q k 3,dp q k 4,dp q k 5,dp q k 6]
theorem da3:Xt=Dy 2000 (zl 0) (.ite (ze (dp 0 2001 0) 1) (Dv 2000 (dN6 0 2001)) (Jz 2000)):=rfl
theorem da4:dV6=Dy 2000 (zl 0) (.ite (.op (.cmp .leq) [dp 0 2001 2,.va 1]) (Dv 2000 (Lw 0 2001)) (Jz 2000)):=rfl
theorem qf{I:Opq}{q k:Nat}{i:Nat}(h:I.w k= .vi i)(j:Nat):aM I (dp q k j)=S1 (aO (I.w q).toL i) j:=by
 show S0 (I.w q).toL (I.w k).toI (j:Int)=_;rw[h];rfl
theorem cK3{I:Opq}{q k:Nat}{i:Nat}(h:I.w k= .vi i):aM I (Lw q k)=W3 (aO (I.w q).toL i):=by
 show Val.vl [aM I (dp q k (0:Nat)),aM I (dp q k (1:Nat)),aM I (dp q k (2:Nat)),aM I (dp q k (3:Nat)),aM I (dp q k (4:Nat)),aM I (dp q k (5:Nat)),aM I (dp q k (6:Nat))]=_;rw[qf h,qf h,qf h,qf h,qf h,qf h,qf h];rfl
def ku(g:List Val)(n:Nat):Val:=V0 (0,[.vi g.length,.vi n,.vl g])
def dV8(a:List Val):Val:=ku (cU (aN a 5).toL) (aN a 5).toL.length
def UP(a:List Val):Val:=ku (kI (aN a 5).toL (aN a 6).toI) (aN a 5).toL.length
def ZI(a:List Val):Val:=ku (mu (aN a 5).toL) (aN a 5).toL.length
def VF(a:List Val):Val:=V0 (mS (aN a 4).toL (aN a 4).toL.length)
def YM(a:List Val):Val:=V0 (fA (.vb false) (λk=>[.vb true,.vi k]) (wP (aN a 4).toL ⟨(aN a 5).toS,(aN a 6).toI,(aN a 7).toI⟩) (aN a 4).toL.length)
variable{I:Opq}
theorem cr5(hf: ∀a,I.f 870 a=dV8 a)(hn:(I.w 0).toL.length<=100):R0 T_rEvents I=some (0,[.vl (cU (I.w 0).toL)]):=by
 have e0:aM I Fj=V0 (0,[.vi (cU (I.w 0).toL).length,.vi (I.w 0).toL.length,.vl (cU (I.w 0).toL)]):=by
  show I.f 870 [.vi 0,.vi 0,.vl [],.vi 0,.vi (I.w 0).toL.length,I.w 0]=_;rw[hf];rfl
 have d1:aM I JA= .vl (cU (I.w 0).toL):=by
  show S0 (aM I Fj).toL 1 2=_;rw[e0];rfl
 refine R4 (r:=(0,[.vi (cU (I.w 0).toL).length,.vi (I.w 0).toL.length,.vl (cU (I.w 0).toL)])) ?_ e0 (xT e0 d1 ?_)
 .rw[da3];refine Ni (p:=λi=>decide (ci (aO (I.w 0).toL i) 0=1)) (f:=λi=>qB (aO (I.w 0).toL i)) (n:=(I.w 0).toL.length) (by omega) (λvs=> ?_) (λi a acc hi=> ?_) (λi a acc hi=> ?_)
  .rw[S2,bx,bc _ _ _ (by omega)]
  .rfl
  rfl
 .show some (0,[aM I JA])=_;rw[d1]
theorem cK4(hf: ∀a,I.f 868 a=UP a)(hn:(I.w 0).toL.length<=400):R0 T_rFired I=some (0,[.vl (kI (I.w 0).toL (I.w 1).toI)]):=by
 have e0:aM I Ho=V0 (0,[.vi (kI (I.w 0).toL (I.w 1).toI).length,.vi (I.w 0).toL.length,.vl (kI (I.w 0).toL (I.w 1).toI)]):=by
  show I.f 868 [.vi 0,.vi 0,.vl [],.vi 0,.vi (I.w 0).toL.length,I.w 0,I.w 1]=_;rw[hf];rfl
 have d1:aM I DX= .vl (kI (I.w 0).toL (I.w 1).toI):=by
  show S0 (aM I Ho).toL 1 2=_;rw[e0];rfl
 refine R4 (r:=(0,[.vi (kI (I.w 0).toL (I.w 1).toI).length,.vi (I.w 0).toL.length,.vl (kI (I.w 0).toL (I.w 1).toI)])) ?_ e0 (xT e0 d1 ?_)
 .rw[da4];refine Ni (p:=λi=>decide (ci (aO (I.w 0).toL i) 2<=(I.w 1).toI)) (f:=λi=>W3 (aO (I.w 0).toL i)) (n:=(I.w 0).toL.length) (by omega) (λvs=> ?_) (λi a acc hi=> ?_) (λi a acc hi=> ?_)
  .rw[S2,bx,bc _ _ _ (by omega)]
  .rfl
  rfl
 .show some (0,[aM I DX])=_;rw[d1]
theorem dw2(hf: ∀a,I.f 873 a=ZI a)(hn:(I.w 0).toL.length<=100):R0 T_opsN I=some (0,[.vl (mu (I.w 0).toL)]):=by
 have e0:aM I Ge=V0 (0,[.vi (mu (I.w 0).toL).length,.vi (I.w 0).toL.length,.vl (mu (I.w 0).toL)]):=by
  show I.f 873 [.vi 0,.vi 0,.vl [],.vi 0,.vi (I.w 0).toL.length,I.w 0]=_;rw[hf];rfl
 have d1:aM I Ew= .vl (mu (I.w 0).toL):=by
  show S0 (aM I Ge).toL 1 2=_;rw[e0];rfl
 refine R4 (r:=(0,[.vi (mu (I.w 0).toL).length,.vi (I.w 0).toL.length,.vl (mu (I.w 0).toL)])) ?_ e0 (xT e0 d1 ?_)
 .refine Nx (f:=λi=>qB (aO (I.w 0).toL i)) (n:=(I.w 0).toL.length) (by omega) (λvs=> ?_) (λi a acc hi=> ?_)
  .rw[S2,bx,bc _ _ _ (by omega)]
  rfl
 .show some (0,[aM I Ew])=_;rw[d1]
theorem dN7(hf: ∀a,I.f 864 a=YM a)(hn:(I.w 0).toL.length<=1000000):R0 T_has I=some (0,[.vb ((I.w 0).toL.any λr=>decide (R8 r=⟨(I.w 1).toS,(I.w 2).toI,(I.w 3).toI⟩))]):=by
 have e0:I.f 864 [.vb false,.vi 0,.vi 0,.vi (I.w 0).toL.length,I.w 0,I.w 1,I.w 2,I.w 3]=V0 (fA (.vb false) (λk=>[.vb true,.vi k]) (wP (I.w 0).toL ⟨(I.w 1).toS,(I.w 2).toI,(I.w 3).toI⟩) (I.w 0).toL.length):=by rw[hf];rfl
 have h0:=GU (x:= .vb false) (px:=λk=>[.vb true,.vi k]) (bad:=wP (I.w 0).toL ⟨(I.w 1).toS,(I.w 2).toI,(I.w 3).toI⟩) (n:=(I.w 0).toL.length);have hany:(List.range (I.w 0).toL.length).any (wP (I.w 0).toL ⟨(I.w 1).toS,(I.w 2).toI,(I.w 3).toI⟩)=(I.w 0).toL.any λr=>decide (R8 r=⟨(I.w 1).toS,(I.w 2).toI,(I.w 3).toI⟩):=Yk (λr=>decide (R8 r=⟨(I.w 1).toS,(I.w 2).toI,(I.w 3).toI⟩)) (.vl []) (I.w 0).toL
 refine R4 (r:=fA (.vb false) (λk=>[.vb true,.vi k]) (wP (I.w 0).toL ⟨(I.w 1).toS,(I.w 2).toI,(I.w 3).toI⟩) (I.w 0).toL.length) ?_ e0 ?_
 .show S5 _ [.vb false,.vi 0]=_;have hd: ∀i,dB (I.upd 2000 [.vb false,.vi (i:Nat)]) (zn (.op (.scmp .eql) [zg 0 2001 0,.va 1]) (zn (.op (.cmp .eql) [zg 0 2001 1,.va 2]) (.op (.cmp .eql) [zg 0 2001 2,.va 3])))=wP (I.w 0).toL ⟨(I.w 1).toS,(I.w 2).toI,(I.w 3).toI⟩ i:=λi=>by
   show(decide ((R8 (aO (I.w 0).toL i)).key=(I.w 1).toS)&&(decide ((R8 (aO (I.w 0).toL i)).a=(I.w 2).toI)&&decide ((R8 (aO (I.w 0).toL i)).b=(I.w 3).toI)))=decide (R8 (aO (I.w 0).toL i)=⟨(I.w 1).toS,(I.w 2).toI,(I.w 3).toI⟩);generalize R8 (aO (I.w 0).toL i)=p;cases p;grind
  have hv: ∀i,(I.upd 2000 [.vb false,.vi (i:Nat)]).w 2001= .vi i:=λi=>by rfl
  have hv0: ∀i,(I.upd 2000 [.vb false,.vi (i:Nat)]).w 2000= .vb false:=λi=>by rfl
  refine Ak (λi hi hb=> ?_) (λi hi hb=> ?_) ?_
  .refine S3 ?_ (R3 ?_ (S4 ((hd i).trans hb) ?_))
   .simp_all[W5,V6,S2,bx,bc,e9]
   .rfl
   .show some (0,[(I.upd 2000 [.vb false,.vi i]).w 2000,Val.vi (aS .add .i64 ((I.upd 2000 [.vb false,.vi i]).w 2001).toI 1)])=_;grind[S6,V8]
  .show R0 KP (I.upd 2000 [.vb false,.vi i])=_;refine S3 ?_ (R3 ?_ (S3 ((hd i).trans hb) ?_))
   .rw[W5,V6,hv,S2,bx,bc _ _ _ (by omega)];exact e9 (by show(i:Int)<_;omega)
   .exact e9 (by show(0:Int)<=(i:Int);omega)
   rfl
  .show R0 KP (I.upd 2000 [.vb false,.vi (I.w 0).toL.length])=_;refine S4 ?_ ?_
   .rw[W5,V6,hv,S2,bx,bc _ _ _ (by omega)];exact j5 (by show¬((I.w 0).toL.length:Int)<_;omega)
   rfl
 .rw[h0]at e0;rw[h0,hany];rw[hany]at e0;cases hb:(I.w 0).toL.any λr=>decide (R8 r=⟨(I.w 1).toS,(I.w 2).toI,(I.w 3).toI⟩)with
  |true=>
   rw[hb]at e0;show some (0,[S0 (I.f 864 [.vb false,.vi 0,.vi 0,.vi (I.w 0).toL.length,I.w 0,I.w 1,I.w 2,I.w 3]).toL 1 0])=_;rw[e0];rfl
  |false=>rfl
theorem VD{n:Nat}{l:List Val}(hl:(I.w 0).toL=l)(hn:l.length<=100): ∀k,k<=l.length->S5 (λvs=>R0 OD (I.upd 2000 vs)) [.vi 0,.vi ((k:Int)-1)]=some (mS l k)
 |0,_=>by
  rw[W2];refine .out ?_;rfl
 |k+1,hk=>by
  have ih:=VD (n:=n) hl hn k (by omega);rw[W2]at ih⊢;have e:(((k+1:Nat):Int)-1)=(k:Int):=by omega
  rw[e];have v0:(I.upd 2000 [.vi 0,.vi (k:Int)]).w 2000= .vi 0:=by rfl
  have v1:(I.upd 2000 [.vi 0,.vi (k:Int)]).w 2001= .vi k:=by rfl
  have w0:(I.upd 2000 [.vi 0,.vi (k:Int)]).w 0=I.w 0:=bc _ _ _ (by omega);have hk0:dB (I.upd 2000 [.vi 0,.vi (k:Int)]) (ze (zg 0 2001 0) 2)=decide (ci (aO l k) 0=2):=by
   show decide ((S0 ((I.upd 2000 [.vi 0,.vi (k:Int)]).w 0).toL ((I.upd 2000 [.vi 0,.vi (k:Int)]).w 2001).toI 0).toI=2)=_;rw[v1,w0,hl];rfl
  have step:R0 OD (I.upd 2000 [.vi 0,.vi (k:Int)])=if ci (aO l k) 0=2 then some (2,[S1 (aO l k) 2,.vi k])else some (0,[.vi 0,.vi ((k:Int)-1)]):=by
   refine S3 ?_ (R3 ?_ ?_)
   .rfl
   .rw[W5,V6,v1,S2,bx,w0,hl];exact e9 (by show(k:Int)<(l.length:Int);omega)
   .by_cases c:ci (aO l k) 0=2
    .rw[e8 c];refine S3 (hk0.trans (e9 c)) ?_;show some (2,[S0 ((I.upd 2000 [.vi 0,.vi (k:Int)]).w 0).toL ((I.upd 2000 [.vi 0,.vi (k:Int)]).w 2001).toI 2,(I.upd 2000 [.vi 0,.vi (k:Int)]).w 2001])=_;rw[v1,w0,hl];rfl
    .refine S4 (hk0.trans (j5 c)) ?_;show some (0,[(I.upd 2000 [.vi 0,.vi (k:Int)]).w 2000,Val.vi (aS .sub .i64 ((I.upd 2000 [.vi 0,.vi (k:Int)]).w 2001).toI 1)])=_;grind[S6,gv]
  unfold mS;by_cases c:ci (aO l k) 0=2
  .rw[e8 c]at step⊢;exact .out step
  .rw[b9 c]at step⊢;exact .more step ih
theorem Wl(l:List Val): ∀k,(mS l k).1=0/\cR l k= .vi (-2199023255552)\/(mS l k).1=1/\ ∃y,(mS l k).2=[cR l k,y]
 |0=> .inl ⟨rfl,rfl⟩
 |k+1=>by
  unfold mS cR;by_cases c:ci (aO l k) 0=2
  .grind
  .rw[b9 c,b9 c];exact Wl l k
theorem da5(hf: ∀a,I.f 871 a=VF a)(hn:(I.w 0).toL.length<=100):R0 T_rMark I=some (0,[cR (I.w 0).toL (I.w 0).toL.length]):=by
 have d0:aM I xU= .vi (((I.w 0).toL.length:Int)-1):=by
  show Val.vi (aS .sub .i64 ((I.w 0).toL.length:Int) 1)=_;grind[gv]
 have e0:I.f 871 [.vi 0,aM I xU,.vi 0,.vi (I.w 0).toL.length,I.w 0]=V0 (mS (I.w 0).toL (I.w 0).toL.length):=by rw[hf];rfl
 refine R4 (r:=mS (I.w 0).toL (I.w 0).toL.length) ?_ e0 ?_
 .show S5 _ [.vi 0,aM I xU]=_;rw[d0];exact VD (n:=0) rfl hn _ (i6 _)
 .rcases Wl (I.w 0).toL (I.w 0).toL.length with⟨h1,h2⟩|⟨h1,y,h2⟩
  .rw[h1,h2];rfl
  .rw[h1];show some (0,[S0 (I.f 871 [.vi 0,aM I xU,.vi 0,.vi (I.w 0).toL.length,I.w 0]).toL 1 0])=_;have:mS (I.w 0).toL (I.w 0).toL.length=(1,[cR (I.w 0).toL (I.w 0).toL.length,y]):=Prod.ext h1 h2;rw[e0,this];rfl
end Go.Ev.S9
namespace Go.Ev.S9
open Go Go.Ev
variable{I:Opq}
theorem cK5:R0 T_rRight I=some (0,[Val.vb (R9 (I.w 0).toI (I.w 1).toI (I.w 2).toI (I.w 3).toI)]):=by
 unfold T_rRight ME Qg Kf OI R9;generalize ha:(I.w 0).toI=a;generalize hb:(I.w 1).toI=b;generalize hc:(I.w 2).toI=c;generalize hd:(I.w 3).toI=d;by_cases k1:a=1
 .by_cases q1:1<=b<;>by_cases q2:b<=1048576<;>by_cases q3:c=0<;>simp[R0,R7,aM,dB,W7,ha,hb,hc,hd,k1,q1,q2,q3]
 by_cases k2:a=2
 .by_cases q1:1<=b<;>by_cases q2:b<=1048576<;>by_cases q3:1<=c<;>by_cases q4:c<=1048576<;>try (simp[R0,R7,aM,dB,W7,ha,hb,hc,hd,k1,k2,q1,q2,q3,q4];done)
  have m1:aS .rem .i64 b c=b % c:=by
   exact Q0 (by omega)
  have m2:aS .quo .i64 b c=b/c:=by
   show IntKind.i64.wrap (b.tdiv c)=b/c;have h1:0<=b/c:=Q1 (by omega) (by omega);have h2:b/c<=b:=M6 _ (by omega);grind[iF]
  have c0: ¬c=0:=by omega
  by_cases q5:d=0<;>by_cases q6:b % c=0<;>simp[R0,R7,aM,dB,W7,ha,hb,hc,hd,k1,k2,q1,q2,q3,q4,q5,q6,m1,m2,c0]
 .by_cases k3:a=3
  .by_cases q1:1<=d<;>by_cases q2:d<=1048576<;>by_cases q3:b=0<;>simp[R0,R7,aM,dB,W7,ha,hb,hc,hd,k1,k2,k3,q1,q2,q3]
  simp_all[R0,R7,aM,dB,W7]
theorem dN8:R0 T_rev I=some (0,[Val.vi (S8 (I.w 0).toI (I.w 1).toS (I.w 2).toI (I.w 3).toI)]):=by
 unfold T_rev OQ Nu PR zW zO S8 U8;generalize ha:(I.w 0).toI=a;generalize hk:(I.w 1).toS=k;generalize ht:(I.w 2).toI=t;generalize hv:(I.w 3).toI=v;have tt: ∀r:Option (Nat×List Val),(r=if t< -1099511627776 then some (0,[Val.vi 61])else if 1099511627776<t then some (0,[Val.vi 61])else some (0,[Val.vi 0]))->r=some (0,[Val.vi (if(decide (-1099511627776<=t)&&decide (t<=1099511627776))=true then 0 else 61)]):=λr e=>by
  grind
 by_cases a1:a=1
 .by_cases k0:k=[]
  .simp_all[R0,R7,aM,dB,W7]
  .have kp: ¬((k.length:Int)<1):=by grind[List.length_pos_iff]
   by_cases k1:32<k.length
   .have:(32:Int)<(k.length:Int):=by omega
    simp_all[R0,R7,aM,dB,W7]
   .have k1': ¬(32:Int)<(k.length:Int):=by omega
    simp_all[b9,R0,R7,aM,dB,W7]
 .by_cases a2:a=2
  .by_cases k0:k=[]<;>by_cases v0:v=0
   .simp_all[e8,R0,R7,aM,dB,W7]
   all_goals simp_all[R0,R7,aM,dB,W7]
  .rw[e8 (by omega)];simp_all[R0,R7,aM,dB,W7]
end Go.Ev.S9
namespace Go.Ev.S9
open Go Go.Ev
def sE(l:List Val):Int:=if jU (ij l l.length)=true then 0 else 30
def sR(l:List Val):Int:=if jU (ij l l.length)=true then bk ((ij l l.length).getD 0 0) ((ij l l.length).getD 1 0)else 0
def aA(l:List Val):List Val:=if sE l≠0 then [.vi 0,.vi 0,.vi 0,.vi 0]else [.vi l.length,.vi (sR l),(bX l l.length).1,(bX l l.length).2]
def GL(a:List Val):Val:= .vl [.vl (vI (du (aN a 0).toI))]
def Qe(a:List Val):Val:= .vl [.vl (vI (oA (vQ a 0) (vQ a 4)))]
def FI(a:List Val):Val:= .vi (if jU (vQ a 0)=true then bk (aN a 0).toI (aN a 1).toI else 0)
def Fh(a:List Val):Val:= .vb (jU (vQ a 0))
def Xm(a:List Val):Val:=V0 (0,.vi (aN a 7).toL.length::vI (ij (aN a 7).toL (aN a 7).toL.length))
def YH(a:List Val):Val:=V0 (0,[.vi (aN a 11).toL.length,.vi 0,.vi 0,.vi 0,.vi 0,.vi 0,.vi 0,(bX (aN a 11).toL (aN a 11).toL.length).1,(bX (aN a 11).toL (aN a 11).toL.length).2])
variable{I:Opq}
theorem dw3:R0 T_r3of I=some (0,vI (du (I.w 0).toI)):=by
 rfl
theorem cK6:R0 T_r3plus I=some (0,vI (oA [(I.w 0).toI,(I.w 1).toI,(I.w 2).toI,(I.w 3).toI] [(I.w 4).toI,(I.w 5).toI,(I.w 6).toI,(I.w 7).toI])):=by
 rfl
theorem da6(f0: ∀a,I.f 810 a=GL a):R0 T_r3fit I=some (0,[FI [I.w 0,I.w 1,I.w 2,I.w 3],Fh [I.w 0,I.w 1,I.w 2,I.w 3]]):=by
 have d0:aM I gT= .vi (bk (I.w 0).toI (I.w 1).toI):=rfl;have dq: ∀j:Nat,aM I (.op .lget [.app 810 [gT],.ci 0,.ci j])=(vI (du (bk (I.w 0).toI (I.w 1).toI))).getD j default:=λj=>by
  show S0 (I.f 810 [aM I gT]).toL 0 (j:Int)=_;rw[f0,d0];rfl
 have q0:aM I (.op .lget [.app 810 [gT],.ci 0,.ci 0])=_:=dq 0;have q1:aM I (.op .lget [.app 810 [gT],.ci 0,.ci 1])=_:=dq 1;have q2:aM I (.op .lget [.app 810 [gT],.ci 0,.ci 2])=_:=dq 2;have q3:aM I (.op .lget [.app 810 [gT],.ci 0,.ci 3])=_:=dq 3;have hc:dB I (zn (.op (.cmp .eql) [.op .lget [.app 810 [gT],.ci 0,.ci 0],.va 0]) (zn (.op (.cmp .eql) [.op .lget [.app 810 [gT],.ci 0,.ci 1],.va 1]) (zn (.op (.cmp .eql) [.op .lget [.app 810 [gT],.ci 0,.ci 2],.va 2]) (.op (.cmp .eql) [.op .lget [.app 810 [gT],.ci 0,.ci 3],.va 3]))))=jU (vQ [I.w 0,I.w 1,I.w 2,I.w 3] 0):=by
  rw[Y4,Y4,Y4,bK,bK,bK,bK,q0,q1,q2,q3,V6,V6,V6,V6];have e:jU (vQ [I.w 0,I.w 1,I.w 2,I.w 3] 0)=decide (du (bk (I.w 0).toI (I.w 1).toI)=[(I.w 0).toI,(I.w 1).toI,(I.w 2).toI,(I.w 3).toI]):=rfl;rw[e];generalize bk (I.w 0).toI (I.w 1).toI=n;show(decide ((du n).getD 0 0=(I.w 0).toI)&&(decide ((du n).getD 1 0=(I.w 1).toI)&&(decide ((du n).getD 2 0=(I.w 2).toI)&&decide ((du n).getD 3 0=(I.w 3).toI))))=_;have e4:du n=[(du n).getD 0 0,(du n).getD 1 0,(du n).getD 2 0,(du n).getD 3 0]:=rfl;grind
 unfold T_r3fit FI Fh;cases h:jU (vQ [I.w 0,I.w 1,I.w 2,I.w 3] 0)with
 |true=>exact S4 (by grind[fi]) rfl
 |false=>exact S3 (by grind[fi]) rfl
theorem QJ(l:List Val): ∀k,∃a b c d,ij l k=[a,b,c,d]
 |0=>⟨0,0,0,0,rfl⟩
 |k+1=>⟨_,_,_,_,rfl⟩
theorem da7(f0: ∀a,I.f 810 a=GL a)(f1: ∀a,I.f 811 a=Qe a)(f2: ∀a,I.f 812 a=FI a)(f3: ∀a,I.f 813 a=Fh a)(f850: ∀a,I.f 850 a=Xm a)(hn:(I.w 0).toL.length<=100):
 R0 T_r3Sum I=some (0,[.vi (sR (I.w 0).toL),.vi (sE (I.w 0).toL)]):=by
 have e0:aM I pD=V0 (0,.vi (I.w 0).toL.length::vI (ij (I.w 0).toL (I.w 0).toL.length)):=by
  show I.f 850 [.vi 0,.vi 0,.vi 0,.vi 0,.vi 0,.vi 0,.vi (I.w 0).toL.length,I.w 0]=_;rw[f850];rfl
 have W0: ∀vs,(I.upd 2000 vs).w 0=I.w 0:=λvs=>bc _ _ _ (by omega)
 have hfu: ∀vs i a,(I.upd 2000 vs).f i a=I.f i a:=λvs i a=>by rfl
 refine R4 (r:=(0,.vi (I.w 0).toL.length::vI (ij (I.w 0).toL (I.w 0).toL.length))) ?_ e0 ?_
 .refine V9 (st:=λk=> .vi k::vI (ij (I.w 0).toL k)) (n:=(I.w 0).toL.length) (λk hk=> ?_) ?_
  .obtain⟨a,b,c,d,e4⟩:=QJ (I.w 0).toL k;show R0 Ue (I.upd 2000 (.vi k::vI (ij (I.w 0).toL k)))=some (0,.vi (k+1:Nat)::vI (oA (ij (I.w 0).toL k) (du (ci (aO (I.w 0).toL k) 0))));rw[e4];have v0:(I.upd 2000 (.vi k::vI [a,b,c,d])).w 2000= .vi k:=by rfl
   have v1:(I.upd 2000 (.vi k::vI [a,b,c,d])).w 2001= .vi a:=by rfl
   have v2:(I.upd 2000 (.vi k::vI [a,b,c,d])).w 2002= .vi b:=by rfl
   have v3:(I.upd 2000 (.vi k::vI [a,b,c,d])).w 2003= .vi c:=by rfl
   have v4:(I.upd 2000 (.vi k::vI [a,b,c,d])).w 2004= .vi d:=by rfl
   have w0:=W0 (.vi k::vI [a,b,c,d]);have g0: ∀x,(I.upd 2000 (.vi k::vI [a,b,c,d])).f 810 x=GL x:=λx=>(hfu _ _ _).trans (f0 x)
   have g1: ∀x,(I.upd 2000 (.vi k::vI [a,b,c,d])).f 811 x=Qe x:=λx=>(hfu _ _ _).trans (f1 x)
   generalize I.upd 2000 (.vi k::vI [a,b,c,d])=aa at*
   have inc:aS .add .i64 (Val.vi (k:Int)).toI 1=((k+1:Nat):Int):=V8 hk (by omega);have dx:aM aa (zg 0 2000 0)=S1 (aO (I.w 0).toL k) 0:=by
    show S0 (aa.w 0).toL (aa.w 2000).toI 0=_;rw[v0,w0];rfl
   have d0:aM aa (.app 810 [zg 0 2000 0])= .vl [.vl (vI (du (ci (aO (I.w 0).toL k) 0)))]:=by
    show aa.f 810 [aM aa (zg 0 2000 0)]=_;rw[g0,dx];rfl
   have d1:aM aa (.app 811 [.va 2001,.va 2002,.va 2003,.va 2004,.op .lget [.app 810 [zg 0 2000 0],.ci 0,.ci 0],.op .lget [.app 810 [zg 0 2000 0],.ci 0,.ci 1],.op .lget [.app 810 [zg 0 2000 0],.ci 0,.ci 2],.op .lget [.app 810 [zg 0 2000 0],.ci 0,.ci 3]])= .vl [.vl (vI (oA [a,b,c,d] (du (ci (aO (I.w 0).toL k) 0))))]:=by
    show aa.f 811 [aa.w 2001,aa.w 2002,aa.w 2003,aa.w 2004,S0 (aM aa (.app 810 [zg 0 2000 0])).toL 0 0,S0 (aM aa (.app 810 [zg 0 2000 0])).toL 0 1,S0 (aM aa (.app 810 [zg 0 2000 0])).toL 0 2,S0 (aM aa (.app 810 [zg 0 2000 0])).toL 0 3]=_;rw[g1,d0,v1,v2,v3,v4];rfl
   refine S3 ?_ (R3 ?_ ?_)
   .simp_all[W5,V6,S2,bx,e9]
   .simp_all[T5,W4,V6,e9]
   .generalize hX:SX.app 811 [.va 2001,.va 2002,.va 2003,.va 2004,.op .lget [.app 810 [zg 0 2000 0],.ci 0,.ci 0],.op .lget [.app 810 [zg 0 2000 0],.ci 0,.ci 1],.op .lget [.app 810 [zg 0 2000 0],.ci 0,.ci 2],.op .lget [.app 810 [zg 0 2000 0],.ci 0,.ci 3]]=X at*
    show some (0,[Val.vi (aS .add .i64 (aa.w 2000).toI 1),S0 (aM aa X).toL 0 0,S0 (aM aa X).toL 0 1,S0 (aM aa X).toL 0 2,S0 (aM aa X).toL 0 3])=_;rw[d1,v0,inc];rfl
  .obtain⟨a,b,c,d,e4⟩:=QJ (I.w 0).toL (I.w 0).toL.length;rw[e4];have w0:=W0 (.vi (I.w 0).toL.length::vI [a,b,c,d]);have v0:(I.upd 2000 (.vi (I.w 0).toL.length::vI [a,b,c,d])).w 2000= .vi (I.w 0).toL.length:=by rw[T1];simp
   refine S4 ?_ ?_
   .rw[W5,V6,v0,S2,bx,w0];exact j5 (by show¬((I.w 0).toL.length:Int)<_;omega)
   rfl
 .obtain⟨a,b,c,d,e4⟩:=QJ (I.w 0).toL (I.w 0).toL.length;unfold sR sE;rw[e4]at e0⊢;have d1:aM I qm= .vi a:=by show S0 (aM I pD).toL 1 1=_;rw[e0];rfl
  have d2:aM I qr= .vi b:=by show S0 (aM I pD).toL 1 2=_;rw[e0];rfl
  have d3:aM I qy= .vi c:=by show S0 (aM I pD).toL 1 3=_;rw[e0];rfl
  have d4:aM I qY= .vi d:=by show S0 (aM I pD).toL 1 4=_;rw[e0];rfl
  have x3:dB I (.app 813 [qm,qr,qy,qY])=jU [a,b,c,d]:=by
   show(I.f 813 [aM I qm,aM I qr,aM I qy,aM I qY]).toB=_;rw[f3,d1,d2,d3,d4];rfl
  have x2:aM I (.app 812 [qm,qr,qy,qY])= .vi (if jU [a,b,c,d]=true then bk a b else 0):=by
   show I.f 812 [aM I qm,aM I qr,aM I qy,aM I qY]=_;rw[f2,d1,d2,d3,d4];rfl
  cases h:jU [a,b,c,d]with
  |true=>
   refine S4 (by rw[fi,x3,h];rfl) ?_;show some (0,[aM I (.app 812 [qm,qr,qy,qY]),Val.vi 0])=_;grind
  |false=>exact S3 (by grind[fi]) rfl
end Go.Ev.S9
namespace Go.Ev.S9
open Go Go.Ev
variable{I:Opq}
def Gr(l:List Val)(k:Nat):List Val:=[.vi k,.vi 0,.vi 0,.vi 0,.vi 0,.vi 0,.vi 0,(bX l k).1,(bX l k).2]
def kL:SX:= zg 0 2000 0
def wC(a b:SX):VT:= .ret 0 [zi (.va 2000),.va 2001,.va 2002,.va 2003,.va 2004,.va 2005,.va 2006,a,b]
theorem da8:BE= .ite (zs (.va 2000) (zl 0)) (.ite (ze (.va 2000) 0) (.need (zp (.va 2000)) (wC kL kL)) (.need (zp (.va 2000)) (.ite (zs kL (.va 2007)) (.ite (.op (.cmp .gtr) [kL,.va 2008]) (wC kL kL) (wC kL (.va 2008))) (.ite (.op (.cmp .gtr) [kL,.va 2008]) (wC (.va 2007) kL) (wC (.va 2007) (.va 2008)))))) (.ret 1 [.va 2000,.va 2001,.va 2002,.va 2003,.va 2004,.va 2005,.va 2006,.va 2007,.va 2008]):=rfl
theorem dO0{l:List Val}(hl:(I.w 0).toL=l)(hn:l.length<=100):S5 (λvs=>R0 BE (I.upd 2000 vs)) [.vi 0,.vi 0,.vi 0,.vi 0,.vi 0,.vi 0,.vi 0,.vi 0,.vi 0]=some (0,Gr l l.length):=by
 have W0: ∀vs,(I.upd 2000 vs).w 0=I.w 0:=λvs=>bc _ _ _ (by omega)
 have V: ∀(k:Nat) (a b:Val),(∀j,1<=j->j<=6->(I.upd 2000 [.vi k,.vi 0,.vi 0,.vi 0,.vi 0,.vi 0,.vi 0,a,b]).w (2000+j)= .vi 0)/\(I.upd 2000 [.vi k,.vi 0,.vi 0,.vi 0,.vi 0,.vi 0,.vi 0,a,b]).w 2000= .vi k/\(I.upd 2000 [.vi k,.vi 0,.vi 0,.vi 0,.vi 0,.vi 0,.vi 0,a,b]).w 2007=a/\(I.upd 2000 [.vi k,.vi 0,.vi 0,.vi 0,.vi 0,.vi 0,.vi 0,a,b]).w 2008=b:=λk a b=>by
  refine⟨λj h1 h2=> ?_,by rw[T1];simp,by rw[T1];simp,by rw[T1];simp⟩;rw[T1,e8 (by omega),show 2000+j-2000=j by omega];grind
 refine V9 (st:=Gr l) (n:=l.length) (λk hk=> ?_) ?_
 .show R0 BE (I.upd 2000 [.vi k,.vi 0,.vi 0,.vi 0,.vi 0,.vi 0,.vi 0,(bX l k).1,(bX l k).2])=some (0,[.vi (k+1:Nat),.vi 0,.vi 0,.vi 0,.vi 0,.vi 0,.vi 0,(bX l (k+1)).1,(bX l (k+1)).2]);have hm:bX l (k+1)=if k=0 then(S1 (aO l k) 0,S1 (aO l k) 0)else(if ci (aO l k) 0<(bX l k).1.toI then S1 (aO l k) 0 else(bX l k).1,if(bX l k).2.toI<ci (aO l k) 0 then S1 (aO l k) 0 else(bX l k).2):=rfl
  rw[hm];generalize (bX l k).1=a;generalize (bX l k).2=b;obtain⟨vz,v0,v7,v8⟩:=V k a b;have w0:=W0 [.vi k,.vi 0,.vi 0,.vi 0,.vi 0,.vi 0,.vi 0,a,b];generalize I.upd 2000 [.vi k,.vi 0,.vi 0,.vi 0,.vi 0,.vi 0,.vi 0,a,b]=aa at*
  have inc:aS .add .i64 (Val.vi (k:Int)).toI 1=((k+1:Nat):Int):=V8 hk (by omega);have dx:aM aa kL=S1 (aO l k) 0:=by
   show S0 (aa.w 0).toL (aa.w 2000).toI 0=_;rw[v0,w0,hl];rfl
  have hr: ∀(p q:SX) (x y:Val),aM aa p=x->aM aa q=y->R0 (wC p q) aa=some (0,[.vi (k+1:Nat),.vi 0,.vi 0,.vi 0,.vi 0,.vi 0,.vi 0,x,y]):=λp q x y h1 h2=>by
   show some (0,[Val.vi (aS .add .i64 (aa.w 2000).toI 1),aa.w (2000+1),aa.w (2000+2),aa.w (2000+3),aa.w (2000+4),aa.w (2000+5),aa.w (2000+6),aM aa p,aM aa q])=_;grind
  have hk0:dB aa (zp (.va 2000))=true:=by simp_all[T5,W4,V6,e9]
  rw[da8];refine S3 ?_ ?_
  .simp_all[W5,V6,S2,bx,e9]
  by_cases k0:k=0
  .simp_all[e8,S3,R3,bK,V6,W4,e9]
  .rw[b9 k0];refine S4 ?_ (R3 hk0 ?_)
   .simp_all[bK,V6,W4,j5]
   have c1:dB aa (zs kL (.va 2007))=decide (ci (aO l k) 0<a.toI):=by rw[W5,dx,V6,v7];rfl
   have c2:dB aa (.op (.cmp .gtr) [kL,.va 2008])=decide (b.toI<ci (aO l k) 0):=by rw[GM,dx,V6,v8];rfl
   by_cases q1:ci (aO l k) 0<a.toI
   .rw[e8 q1];refine S3 (c1.trans (e9 q1)) ?_;by_cases q2:b.toI<ci (aO l k) 0
    .simp_all[e8,S3,e9]
    .rw[b9 q2];exact S4 (c2.trans (j5 q2)) (hr _ _ _ _ dx v8)
   .rw[b9 q1];refine S4 (c1.trans (j5 q1)) ?_;by_cases q2:b.toI<ci (aO l k) 0
    .rw[e8 q2];exact S3 (c2.trans (e9 q2)) (hr _ _ _ _ v7 dx)
    .rw[b9 q2];exact S4 (c2.trans (j5 q2)) (hr _ _ _ _ v7 v8)
 .show R0 BE (I.upd 2000 [.vi l.length,.vi 0,.vi 0,.vi 0,.vi 0,.vi 0,.vi 0,(bX l l.length).1,(bX l l.length).2])=some (1,[.vi l.length,.vi 0,.vi 0,.vi 0,.vi 0,.vi 0,.vi 0,(bX l l.length).1,(bX l l.length).2]);obtain⟨vz,v0,v7,v8⟩:=V l.length (bX l l.length).1 (bX l l.length).2;have w0:=W0 [.vi l.length,.vi 0,.vi 0,.vi 0,.vi 0,.vi 0,.vi 0,(bX l l.length).1,(bX l l.length).2];generalize I.upd 2000 [.vi l.length,.vi 0,.vi 0,.vi 0,.vi 0,.vi 0,.vi 0,(bX l l.length).1,(bX l l.length).2]=aa at*
  refine S4 ?_ ?_
  .simp_all[W5,V6,S2,bx,j5]
  .show some (1,[aa.w 2000,aa.w (2000+1),aa.w (2000+2),aa.w (2000+3),aa.w (2000+4),aa.w (2000+5),aa.w (2000+6),aa.w 2007,aa.w 2008])=_;grind
theorem dw4(f2: ∀a,I.f 842 a= .vi (sR (aN a 0).toL))(f3: ∀a,I.f 843 a= .vi (sE (aN a 0).toL))(f851: ∀a,I.f 851 a=YH a)(hn:(I.w 0).toL.length<=100):
 R0 T_rAll I=some (0,[(aA (I.w 0).toL).getD 0 default,(aA (I.w 0).toL).getD 1 default,(aA (I.w 0).toL).getD 2 default,(aA (I.w 0).toL).getD 3 default,.vi (sE (I.w 0).toL)]):=by
 have d3:aM I (.app 843 [.va 0])= .vi (sE (I.w 0).toL):=f3 _;have d2:aM I (.app 842 [.va 0])= .vi (sR (I.w 0).toL):=f2 _;have c3:dB I (.op (.cmp .neq) [.app 843 [.va 0],.ci 0])= !decide (sE (I.w 0).toL=0):=by rw[gH,W4,d3];rfl
 unfold T_rAll aA;refine R3 ?_ ?_
 .grind[T5,S2,W4,bx,decide_eq_true]
 by_cases h:sE (I.w 0).toL=0
 .have e0:aM I zj=V0 (0,Gr (I.w 0).toL (I.w 0).toL.length):=by
   show I.f 851 [.vi 0,.vi 0,.vi 0,.vi 0,.vi 0,.vi 0,.vi 0,.vi 0,.vi 0,.vi 0,.vi (I.w 0).toL.length,I.w 0,aM I (.app 842 [.va 0])]=_;rw[f851];rfl
  refine S4 (by grind) (R4 (r:=(0,Gr (I.w 0).toL (I.w 0).toL.length)) (dO0 rfl hn) e0 ?_);show some (0,[Val.vi (I.w 0).toL.length,aM I (.app 842 [.va 0]),S0 (aM I zj).toL 1 7,S0 (aM I zj).toL 1 8,Val.vi 0])=_;rw[e0,d2,h];rfl
 .refine S3 (by rw[c3,j5 h];rfl) ?_;show some (0,[Val.vi 0,Val.vi 0,Val.vi 0,Val.vi 0,aM I (.app 843 [.va 0])])=_;grind
end Go.Ev.S9
namespace Go.Ev.S9
open Go Go.Ev
theorem zV(x:Int):aS .and .i64 x 4294967295=x % 4294967296:=by
 show IntKind.i64.wrap (((BitVec.ofInt 64 x&&&BitVec.ofInt 64 4294967295).toNat:Nat):Int)=_;have h:(BitVec.ofInt 64 x&&&BitVec.ofInt 64 4294967295).toNat=(x % 18446744073709551616).toNat % 4294967296:=by
  rw[BitVec.toNat_and];have h2:(BitVec.ofInt 64 4294967295).toNat=2^32-1:=rfl;rw[h2,Nat.and_two_pow_sub_one_eq_mod,BitVec.toNat_ofInt];rfl
 grind[iF]
theorem vN(x:Int):aS .shr .i64 x 32=x/4294967296:=by
 show x.fdiv (2^(min (32:Int).toNat 64))=_;grind
theorem dO1{a b n:Int}(h:aY n)(h0:a=n % 4294967296)(h1:b=n/4294967296 % 4294967296):bk a b=n:=by
 unfold bk;have e1:aS .shl .i64 b 32=n/4294967296*4294967296:=by
  show IntKind.i64.wrap (b*2^(min (32:Int).toNat 64))=_;unfold aY at h;simp only[IntKind.wrap,IntKind.bits,IntKind.signed];simp;omega
 rw[e1];show IntKind.i64.wrap (((BitVec.ofInt 64 (n/4294967296*4294967296)|||BitVec.ofInt 64 a).toNat:Nat):Int)=_;have h2:(BitVec.ofInt 64 (n/4294967296*4294967296)|||BitVec.ofInt 64 a).toNat=(n % 18446744073709551616).toNat:=by
  rw[BitVec.toNat_or,BitVec.toNat_ofInt,BitVec.toNat_ofInt];have e2:(n/4294967296*4294967296 % (2^64:Nat)).toNat=2^32*((n % 18446744073709551616).toNat/4294967296):=by
   omega
  have e3:(a % (2^64:Nat)).toNat=(n % 18446744073709551616).toNat % 4294967296:=by
   omega
  have hlt:(n % 18446744073709551616).toNat % 4294967296<2^32:=Nat.mod_lt _ (by decide);rw[e2,e3,<-Nat.two_pow_add_eq_or_of_lt hlt];omega
 grind[aY,IntKind.wrap,IntKind.bits,IntKind.signed]
def lv(w:List Int):Int:=w.getD 0 0+w.getD 1 0*4294967296+w.getD 2 0*18446744073709551616+w.getD 3 0*79228162514264337593543950336
def yp(w:List Int)(k:Int):Prop:= ∃a b c d,w=[a,b,c,d]/\0<=a/\a<4294967296/\0<=b/\b<4294967296/\0<=c/\c<4294967296/\ -k<=d/\d<=k
theorem Ul{n:Int}(h:aY n):du n=[n % 4294967296,n/4294967296 % 4294967296,(if 0<=n then 0 else 4294967295),(if 0<=n then 0 else-1)]:=by
 unfold aY at h;have e0:KF n=n % 4294967296:=zV n;have e1:IP n=n/4294967296:=by
  unfold IP;rw[vN,vN,e0,cV (by omega) (by omega)];omega
 have e2:Ht n=if 0<=n then 0 else-1:=by
  unfold Ht;rw[vN,e1,cV (by omega) (by omega)];split<;>omega
 unfold du;rw[zV,zV,zV,vN,e0,e1,e2];by_cases c:0<=n
 .rw[e8 c,e8 c,cV (by omega) (by omega)];congr 1;omega
 simp_all[b9,cV]
theorem YU{n:Int}(h:aY n):yp (du n) 1/\lv (du n)=n:=by
 rw[Ul h];refine⟨⟨_,_,_,_,rfl,by omega,by omega,by omega,by omega,by split<;>omega,by split<;>omega,by split<;>omega,by split<;>omega⟩,?_⟩;show n % 4294967296+n/4294967296 % 4294967296*4294967296+(if 0<=n then 0 else 4294967295)*18446744073709551616+(if 0<=n then 0 else-1)*79228162514264337593543950336=n;grind[aY]
theorem dw5{x y:List Int}{k:Int}(hk:0<=k)(hk2:k<=1000000)(hx:yp x k)(hy:yp y 1):yp (oA x y) (k+2)/\lv (oA x y)=lv x+lv y:=by
 obtain⟨a,b,c,d,rfl,a1,a2,b1,b2,c1,c2,d1,d2⟩:=hx;obtain⟨a',b',c',d',rfl,a1',a2',b1',b2',c1',c2',d1',d2'⟩:=hy;have e0:Rc [a,b,c,d] [a',b',c',d']=a+a':=by
  show aS .add .i64 a a'=_;grind[cV]
 have e1:Jw [a,b,c,d] [a',b',c',d']=b+b'+(a+a')/4294967296:=by
  grind[Jw,vN,aS,cV]
 have e2:Jf [a,b,c,d] [a',b',c',d']=c+c'+(b+b'+(a+a')/4294967296)/4294967296:=by
  grind[Jf,vN,aS,cV]
 have e3:oA [a,b,c,d] [a',b',c',d']=[(a+a') % 4294967296,(b+b'+(a+a')/4294967296) % 4294967296,(c+c'+(b+b'+(a+a')/4294967296)/4294967296) % 4294967296,d+d'+(c+c'+(b+b'+(a+a')/4294967296)/4294967296)/4294967296]:=by
  unfold oA;grind[zV,vN,aS,cV]
 rw[e3];refine⟨⟨_,_,_,_,rfl,by omega,by omega,by omega,by omega,by omega,by omega,by omega,by omega⟩,?_⟩;show(a+a') % 4294967296+(b+b'+(a+a')/4294967296) % 4294967296*4294967296+(c+c'+(b+b'+(a+a')/4294967296)/4294967296) % 4294967296*18446744073709551616+(d+d'+(c+c'+(b+b'+(a+a')/4294967296)/4294967296)/4294967296)*79228162514264337593543950336=(a+b*4294967296+c*18446744073709551616+d*79228162514264337593543950336)+(a'+b'*4294967296+c'*18446744073709551616+d'*79228162514264337593543950336);omega
theorem cK8{w:List Int}{k:Int}(h:yp w k):(jU w=true↔aY (lv w))/\(jU w=true->bk (w.getD 0 0) (w.getD 1 0)=lv w):=by
 obtain⟨a,b,c,d,rfl,a1,a2,b1,b2,c1,c2,d1,d2⟩:=h;have hb:aY (bk a b):=by
  have:=Vt (x:=((BitVec.ofInt 64 (aS .shl .i64 b 32)|||BitVec.ofInt 64 a).toNat:Nat)) (by omega) (by omega);exact this.1
 have key:jU [a,b,c,d]=true->aY (lv [a,b,c,d])/\bk a b=lv [a,b,c,d]:=λhf=>by
  have hf:du (bk a b)=[a,b,c,d]:=j6 hf;have:=(YU hb).2;rw[hf]at this;rw[this];exact⟨hb,rfl⟩
 refine⟨⟨λhf=>(key hf).1,λhi=> ?_⟩,λhf=>(key hf).2⟩;have hv:lv [a,b,c,d]=a+b*4294967296+c*18446744073709551616+d*79228162514264337593543950336:=rfl;have hn:aY (a+b*4294967296+c*18446744073709551616+d*79228162514264337593543950336):=by exact hi
 have hbk:bk a b=a+b*4294967296+c*18446744073709551616+d*79228162514264337593543950336:=dO1 hn (by omega) (by omega);show decide (du (bk a b)=[a,b,c,d])=true;rw[hbk,Ul hn];unfold aY at hn;grind
theorem XE{l:List Val}(hl: ∀k,aY (ci (aO l k) 0)): ∀k,k<=400000->yp (ij l k) (2*k)/\lv (ij l k)=lX (λk=>ci (aO l k) 0) k
 |0,_=>⟨⟨0,0,0,0,rfl,by omega,by omega,by omega,by omega,by omega,by omega,by omega,by omega⟩,rfl⟩
 |k+1,h=>by
  obtain⟨h1,h2⟩:=XE hl k (by omega);obtain⟨h3,h4⟩:=YU (hl k);obtain⟨h5,h6⟩:=dw5 (by omega) (by omega) h1 h3;refine⟨?_,?_⟩
  .obtain⟨a,b,c,d,e,r⟩:=h5;refine⟨a,b,c,d,e,?_⟩;obtain⟨r1,r2,r3,r4,r5,r6,r7,r8⟩:=r;exact⟨r1,r2,r3,r4,r5,r6,by omega,by omega⟩
  grind[lv,oA,ij,du,ci,aO,lX]
theorem dO2{l:List Val}(hl: ∀r∈l,aY (ci r 0))(hn:l.length<=400000):(sE l=0↔aY (lX (λk=>ci (aO l k) 0) l.length))/\(sE l=0->sR l=lX (λk=>ci (aO l k) 0) l.length):=by
 have hg: ∀k,aY (ci (aO l k) 0):=λk=>by
  by_cases c:k<l.length
  .exact hl _ (gp c)
  .have e:aO l k= .vl []:=by simp[aO,j9,s7 (C6.1 c)]
   rw[e];exact Lx
 obtain⟨h1,h2⟩:=XE hg l.length hn;obtain⟨h3,h4⟩:=cK8 h1;unfold sE sR;grind
end Go.Ev.S9
namespace Go.Ev.S9
open Go Go.Ev
theorem ZR{x y:Int}(h: -9223372036854775808<=x*y)(h2:x*y<9223372036854775808):aS .mul .i64 x y=x*y:=iF h h2
def gB(b d s t:Int)(i:Nat):List Val:=bif decide (t<b+i*d+s)then [.vl [.vi (b+i*d),.vi (b+i*d+s)]]else []
def eR(b d t:Int):Nat:=((t-b)/d+1).toNat
def xM(b d s t:Int):List Val:=[.vi (U4 (gB b d s t) (eR b d t)).length,.vi (b+eR b d t*d),.vl (U4 (gB b d s t) (eR b d t))]
def dW5(a:List Val):Val:=V0 (0,xM (aN a 1).toI (W8 (aN a 4).toI (aN a 5).toI (aN a 6).toI) (aN a 5).toI (aN a 3).toI)
theorem dO3{t d:Int}(hd:0<d)(h1: -1099511627776<=t)(h2:t<=1099511627776):aS .quo .i64 t d=t/d\/aS .quo .i64 t d=t/d+1:=by
 have e:aS .quo .i64 t d=IntKind.i64.wrap (t.tdiv d):=rfl;have lo: -1099511627776<=t/d:=by
  refine(Int.le_ediv_iff_mul_le hd).2 ?_;omega
 have hi:t/d<=1099511627776:=by
  by_cases c:0<=t
  .exact Int.le_trans (M6 d c) h2
  .have:t/d<0:=Int.ediv_neg_of_neg_of_pos (by omega) hd;omega
 grind[iF]
theorem bs1{G:Nat->List Val}{H:Nat->List Val}{e:Nat}(h0: ∀i,i<e->G i=[]): ∀n,(∀j,j<n->G (e+j)=H j)->U4 G (e+n)=U4 H n
 |0,_=>by
  have: ∀k,k<=e->U4 G k=[]:=λk=>by
   induction k with
   |zero=>intro _;rfl
   |succ k ih=>grind[U4]
  exact this e (i6 _)
 |n+1,h=>by
  show U4 G (e+n)++G (e+n)=U4 H n++H n;rw[bs1 h0 n λj hj=>h j (by omega),h n (by omega)]
theorem dO4{b d s t D:Int}{n e:Nat}(hd:0<d)(hs:n*d=s)(hD:D=t-t % d)(hb:b=D-s+d-e*d)(he:1<=e):U4 (gB b d s t) (eR b d t)=U4 (eS (D-s+d) d s) n/\eR b d t=e+n:=by
 have q0:=G3 t (show d≠0 by omega);have q1:=G4 t hd;have hN:eR b d t=e+n:=by
  unfold eR;have:(t-b)/d=(e:Int)+n-1:=by
   have e1:t-b=t % d+((e:Int)+n-1)*d:=by
    have:((e:Int)+n-1)*d=e*d+n*d-d:=by rw[G6,D6,Int.one_mul]
    omega
   rw[e1,Int.add_mul_ediv_right _ _ (by omega),Int.ediv_eq_zero_of_lt q0 q1];omega
  omega
 refine⟨?_,hN⟩;rw[hN];refine bs1 (λi hi=> ?_) n λj hj=> ?_
 .unfold gB;have:(i:Int)*d+d<=e*d:=by
   have:((i:Int)+1)*d<=e*d:=E8 (by omega) (by omega);rw[D6]at this;omega
  grind
 .unfold gB eS;have e2:0<=(j:Int)*d:=G5 (by omega) (by omega);grind
variable{I:Opq}
theorem dO5{k s l t b d:Int}(hk:(I.w 0).toI=k)(hs:(I.w 1).toI=s)(hl:(I.w 2).toI=l)(ht:(I.w 4).toI=t)(hd:W8 k s l=d)(d0:0<d)(d1:d<=1048576)(s0:1<=s)(s1:s<=1048576)(t1: -1099511627776<=t)(t2:t<=1099511627776)(b0: -1099651627776<=b)(hn:eR b d t<=100):
 S5 (λvs=>R0 Bz (I.upd 2000 vs)) [.vi 0,.vi b,.vl []]=some (0,xM b d s t):=by
 have lim: ∀i,i<eR b d t->b+i*d<=t:=λi hi=>by
  unfold eR at hi;have h1:=Int.ediv_mul_le (t-b) (show d≠0 by omega);have h2:(i:Int)*d<=(t-b)/d*d:=E8 (by omega) (by omega);omega
 have ZA:t<b+eR b d t*d:=by
  unfold eR;have h1:=Int.lt_ediv_add_one_mul_self (t-b) d0;by_cases c:0<=(t-b)/d+1
  .grind
  .have:((t-b)/d+1)*d<=0*d:=E8 (by omega) (by omega);grind
 have h:=yj (step:=λvs=>R0 Bz (I.upd 2000 vs)) (n:=eR b d t) (a0:=[]) (g:=gB b d s t) (λi acc=>[.vi acc.length,.vi (b+i*d),.vl acc]) (s0:=[.vi 0,.vi b,.vl []]) (p:=xM b d s t) ?_ (λi hi=> ?_) ?_
 .exact h
 .simp
 .rw[List.nil_append];have hlen:(U4 (gB b d s t) i).length<=i:=by
   have:=Y7 (g:=gB b d s t) (m:=1) (λi=>by grind[gB,decide]) i;omega
  generalize U4 (gB b d s t) i=acc at hlen;have w0:(I.upd 2000 [.vi acc.length,.vi (b+i*d),.vl acc]).w 0=I.w 0:=bc _ _ _ (by omega);have w1:(I.upd 2000 [.vi acc.length,.vi (b+i*d),.vl acc]).w 1=I.w 1:=bc _ _ _ (by omega);have w2:(I.upd 2000 [.vi acc.length,.vi (b+i*d),.vl acc]).w 2=I.w 2:=bc _ _ _ (by omega);have w4:(I.upd 2000 [.vi acc.length,.vi (b+i*d),.vl acc]).w 4=I.w 4:=bc _ _ _ (by omega);have v0:=oD I 2000 (.vi acc.length) (.vi (b+i*d)) (.vl acc);have v1:=fT I 2000 (.vi acc.length) (.vi (b+i*d)) (.vl acc);have v2:=oK I 2000 (.vi acc.length) (.vi (b+i*d)) (.vl acc);generalize I.upd 2000 [.vi acc.length,.vi (b+i*d),.vl acc]=aa at*
  have hi1:=lim i hi;have ge:0<=(i:Int)*d:=G5 (by omega) (by omega);have a1:aS .add .i64 (b+i*d) s=b+i*d+s:=cV (by omega) (by omega);have a2:aS .add .i64 (b+i*d) d=b+(i+1:Nat)*d:=by
   grind[cV,Int.natCast_add,Int.add_mul]
  have dn:aM aa (.op .row [.va 2001,za (.va 2001) (.va 1)])= .vl [.vi (b+i*d),.vi (b+i*d+s)]:=by
   show Val.vl [aa.w 2001,.vi (aS .add .i64 (aa.w 2001).toI (aa.w 1).toI)]=_;simp_all
  have dc:aM aa (zc (.va 2002) (.op .row [.op .row [.va 2001,za (.va 2001) (.va 1)]]))= .vl (acc++[.vl [.vi (b+i*d),.vi (b+i*d+s)]]):=by
   show Val.vl ((aa.w 2002).toL++[aM aa (.op .row [.va 2001,za (.va 2001) (.va 1)])])=_;simp_all
  refine S3 ?_ ?_
  .simp_all[T5,V6,e9]
  unfold gB;by_cases c:t<b+i*d+s
  .refine S3 ?_ (R3 ?_ ?_)
   .show decide ((aa.w 4).toI<aS .add .i64 (aa.w 2001).toI (aa.w 1).toI)=true;simp_all
   .rw[Y4,bK,T5,V6,v0,S2,S2,bx,v2,W4,dc];grind[uU]
   .by_cases k2:k=2
    .refine S3 (by rw[bK,V6,w0,hk];exact e9 k2) ?_;show some (0,[Val.vi (aM aa _).toL.length,Val.vi (aS .add .i64 (aa.w 2001).toI (aa.w 2).toI),aM aa (.op .lcat _)])=_;simp_all[S6,W8,e8]
    .refine S4 (by rw[bK,V6,w0,hk];exact j5 k2) ?_;show some (0,[Val.vi (aM aa _).toL.length,Val.vi (aS .add .i64 (aa.w 2001).toI (aa.w 1).toI),aM aa (.op .lcat _)])=_;simp_all[S6,W8,b9]
  .rw[j5 c,cond_false,p9];refine S4 ?_ ?_
   .show decide ((aa.w 4).toI<aS .add .i64 (aa.w 2001).toI (aa.w 1).toI)=false;simp_all
   .by_cases k2:k=2
    .refine S3 (by rw[bK,V6,w0,hk];exact e9 k2) ?_;show some (0,[aa.w 2000,Val.vi (aS .add .i64 (aa.w 2001).toI (aa.w 2).toI),aa.w 2002])=_;simp_all[S6,W8,e8]
    .refine S4 (by rw[bK,V6,w0,hk];exact j5 k2) ?_;show some (0,[aa.w 2000,Val.vi (aS .add .i64 (aa.w 2001).toI (aa.w 1).toI),aa.w 2002])=_;simp_all[S6,W8,b9]
 .rw[List.nil_append];have v1:=fT I 2000 (.vi (U4 (gB b d s t) (eR b d t)).length) (.vi (b+eR b d t*d)) (.vl (U4 (gB b d s t) (eR b d t)));have w4:(I.upd 2000 [.vi (U4 (gB b d s t) (eR b d t)).length,.vi (b+eR b d t*d),.vl (U4 (gB b d s t) (eR b d t))]).w 4=I.w 4:=bc _ _ _ (by omega);refine S4 ?_ ?_
  .rw[T5,V6,V6,v1,w4,ht];exact j5 (by show¬b+eR b d t*d<=t;omega)
  rfl
end Go.Ev.S9
namespace Go.Ev.S9
open Go Go.Ev
theorem cK9{t s d:Int}{n:Nat}(hd:0<d)(d1:d<=1048576)(hs:n*d=s)(n0:1<=n)(n1:n<=16)(h1: -1099511627776<=t)(h2:t<=1099511627776):
 ∃e:Nat,1<=e/\e<=2/\aS .mul .i64 (aS .sub .i64 (aS .sub .i64 (aS .quo .i64 t d) (aS .quo .i64 s d)) 1) d=cu t d-s+d-e*d/\ -1099651627776<=cu t d-s+d-e*d:=by
 have q0:=G3 t (show d≠0 by omega);have q1:=G4 t hd;have hs1:s<=16777216:=by
  have:(n:Int)*d<=16*d:=E8 (by omega) (by omega);omega
 have hs0:0<=s:=by rw[<-hs];exact G5 (by omega) (by omega)
 have qs:aS .quo .i64 s d=n:=by
  have e:aS .quo .i64 s d=IntKind.i64.wrap (s.tdiv d):=rfl;grind[Int.tdiv_eq_ediv_of_nonneg,Int.mul_ediv_cancel,iF]
 have hD:cu t d=t/d*d:=by
  grind[Int.emod_def,Int.mul_comm,cu]
 have fb: -1099511627776-1048576<=t/d*d/\t/d*d<=t:=by
  grind[Int.emod_def,Int.mul_comm]
 have fq: -1099511627777<=t/d/\t/d<=1099511627776:=by
  refine⟨?_,?_⟩
  .have:(-1099511627777)*d<=t:=by omega
   simp_all[Int.le_ediv_iff_mul_le]
  .by_cases c:0<=t
   .exact Int.le_trans (M6 d c) h2
   .have:t/d<0:=Int.ediv_neg_of_neg_of_pos (by omega) hd;omega
 rcases dO3 hd h1 h2 with q|q
 .refine⟨2,by omega,by omega,?_,?_⟩
  .rw[q,qs,gv (x:=t/d) (by omega) (by omega),gv (by omega) (by omega)];have e:(t/d-n-1)*d=t/d*d-s-d:=by rw[G6,G6,hs,Int.one_mul]
   rw[ZR (by omega) (by omega),e,hD];omega
  omega
 .refine⟨1,by omega,by omega,?_,?_⟩
  .rw[q,qs,gv (x:=t/d+1) (by omega) (by omega),gv (by omega) (by omega)];have e:(t/d+1-n-1)*d=t/d*d-s:=by
    have:t/d+1-n-1=t/d-n:=by omega
    rw[this,G6,hs]
   rw[ZR (by omega) (by omega),e,hD];omega
  omega
variable{I:Opq}
theorem dO6(f700: ∀a,I.f 700 a= .vb (R9 (aN a 0).toI (aN a 1).toI (aN a 2).toI (aN a 3).toI))(f853: ∀a,I.f 853 a=dW5 a):
 R0 T_rOf I=some (0,[.vl (bh (I.w 0).toI (I.w 1).toI (I.w 2).toI (I.w 3).toI (I.w 4))]):=by
 generalize hk:(I.w 0).toI=k;generalize hs:(I.w 1).toI=s;generalize hl:(I.w 2).toI=l;generalize hg:(I.w 3).toI=g;unfold T_rOf bh;generalize ht:(I.w 4).toI=t;have r0:dB I (.app 700 [.va 0,.va 1,.va 2,.va 3])=R9 k s l g:=by
  show(I.f 700 [I.w 0,I.w 1,I.w 2,I.w 3]).toB=_;rw[f700,<-hk,<-hs,<-hl,<-hg];rfl
 cases hR:R9 k s l g with
 |false=>exact S3 (by rw[fi,r0,hR];rfl) rfl
 |true=>
 refine S4 (by rw[fi,r0,hR];rfl) ?_;by_cases t1:t< -1099511627776
 .have e:U8 t=false:=by unfold U8;rw[decide_eq_false (by omega)];rfl
  rw[e];exact S3 (by rw[W5,W4,V6,ht];exact e9 t1) rfl
 refine S4 (by rw[W5,W4,V6,ht];exact j5 t1) ?_;by_cases t2:1099511627776<t
 .have e:U8 t=false:=by unfold U8;rw[decide_eq_false (p:=t<=1099511627776) (by omega),Bool.and_false]
  rw[e];exact S3 (by show decide ((1099511627776:Int)<(I.w 4).toI)=true;rw[ht];exact e9 t2) rfl
 refine S4 (by show decide ((1099511627776:Int)<(I.w 4).toI)=false;rw[ht];exact j5 t2) ?_;have e:U8 t=true:=by unfold U8;rw[decide_eq_true (by omega),decide_eq_true (by omega)];rfl
 rw[e];show R0 _ I=some (0,[Val.vl (if k=3 then [.vl [I.w 4,.vi (t+g)]]else U4 (eS (cu t (W8 k s l)-s+W8 k s l) (W8 k s l) s) (cg k s l))]);by_cases k3:k=3
 .rw[e8 k3];refine S3 (by rw[bK,V6,hk];exact e9 k3) ?_;have:aS .add .i64 t g=t+g:=by
   unfold R9 at hR;simp[k3]at hR;exact cV (by omega) (by omega)
  show some (0,[Val.vl [Val.vl [I.w 4,Val.vi (aS .add .i64 (I.w 4).toI (I.w 3).toI)]]])=_;rw[ht,hg,this]
 rw[b9 k3];refine S4 (by rw[bK,V6,hk];exact j5 k3) ?_;have main: ∀{d:Int} {n:Nat} {X:SX},W8 k s l=d->cg k s l=n->0<d->d<=1048576->n*d=s->1<=n->n<=16->1<=s->s<=1048576->aM I X= .vi (aS .mul .i64 (aS .sub .i64 (aS .sub .i64 (aS .quo .i64 t d) (aS .quo .i64 s d)) 1) d)->
  R0 (.loop ⟨853,[.op .llen [.op .row []],X,.op .row []],2000,[.va 4,.va 0,.va 1,.va 2,.va 3]⟩ Bz [.need (.op (.cmp .eql) [zo (.app 853 [.op .llen [.op .row []],X,.op .row [],.va 4,.va 0,.va 1,.va 2,.va 3]) 0,zL (zo (.app 853 [.op .llen [.op .row []],X,.op .row [],.va 4,.va 0,.va 1,.va 2,.va 3]) 2)]) (.ret 0 [zo (.app 853 [.op .llen [.op .row []],X,.op .row [],.va 4,.va 0,.va 1,.va 2,.va 3]) 2])]) I=some (0,[Val.vl (U4 (eS (cu t (W8 k s l)-s+W8 k s l) (W8 k s l) s) (cg k s l))]):=by
  intro d n X hst hN d0 d1 hn n0 n1 s0 s1 hX;obtain⟨e,e1,e2,e3,e4⟩:=cK9 d0 d1 hn n0 n1 (C9.1 t1) (C9.1 t2);rw[e3]at hX;obtain⟨h1,h2⟩:=dO4 (b:=cu t d-s+d-e*d) (t:=t) (D:=cu t d) d0 hn rfl rfl e1;rw[hst,hN,<-h1];have hv:aM I (.app 853 [.op .llen [.op .row []],X,.op .row [],.va 4,.va 0,.va 1,.va 2,.va 3])=V0 (0,xM (cu t d-s+d-e*d) d s t):=by
   show I.f 853 [.vi 0,aM I X,.vl [],I.w 4,I.w 0,I.w 1,I.w 2,I.w 3]=_;rw[f853,hX];show V0 (0,xM _ (W8 (I.w 0).toI (I.w 1).toI (I.w 2).toI) (I.w 1).toI (I.w 4).toI)=_;rw[hk,hs,hl,ht,hst];rfl
  have hv2:aM I (zo (.app 853 [.op .llen [.op .row []],X,.op .row [],.va 4,.va 0,.va 1,.va 2,.va 3]) 2)= .vl (U4 (gB (cu t d-s+d-e*d) d s t) (eR (cu t d-s+d-e*d) d t)):=by
   show S0 (aM I (.app 853 [.op .llen [.op .row []],X,.op .row [],.va 4,.va 0,.va 1,.va 2,.va 3])).toL 1 2=_;rw[hv];rfl
  have hv0:aM I (zo (.app 853 [.op .llen [.op .row []],X,.op .row [],.va 4,.va 0,.va 1,.va 2,.va 3]) 0)= .vi (U4 (gB (cu t d-s+d-e*d) d s t) (eR (cu t d-s+d-e*d) d t)).length:=by
   show S0 (aM I (.app 853 [.op .llen [.op .row []],X,.op .row [],.va 4,.va 0,.va 1,.va 2,.va 3])).toL 1 0=_;rw[hv];rfl
  refine R4 (r:=(0,xM (cu t d-s+d-e*d) d s t)) ?_ hv (R3 ?_ ?_)
  .show S5 _ [.vi 0,aM I X,.vl []]=_;rw[hX];exact dO5 hk hs hl ht hst d0 d1 s0 s1 (C9.1 t1) (C9.1 t2) e4 (by omega)
  .rw[bK,hv0,S2,hv2];exact e9 rfl
  .show some (0,[aM I _])=_;rw[hv2]
 by_cases k2:k=2
 .refine S3 (by rw[bK,V6,hk];exact e9 k2) ?_;have hR':(1<=s/\s<=1048576)/\(1<=l/\l<=1048576)/\s % l=0/\s/l<=16:=by
   unfold R9 at hR;simp[k2]at hR;omega
  obtain⟨⟨s1,s2⟩,⟨l1,l2⟩,sl,sq⟩:=hR';obtain⟨n1,n2⟩:=Cb sl l1 s1;have hst:W8 k s l=l:=e8 k2;have hN:cg k s l=(s/l).toNat:=by unfold cg;rw[hst]
  refine R3 (by show(!decide ((I.w 2).toI=0))=true;rw[hl,j5 (by omega)];rfl) (main hst hN (by omega) l2 n1 n2 (by omega) s1 s2 ?_);show Val.vi (aS .mul .i64 (aS .sub .i64 (aS .sub .i64 (aS .quo .i64 (I.w 4).toI (I.w 2).toI) (aS .quo .i64 (I.w 1).toI (I.w 2).toI)) 1) (I.w 2).toI)=_;rw[ht,hl,hs]
 .refine S4 (by rw[bK,V6,hk];exact j5 k2) ?_;have hR':1<=s/\s<=1048576:=by
   unfold R9 at hR;by_cases k1:k=1
   .simp[k1]at hR;omega
   .simp[k1,k2,k3]at hR
  have hst:W8 k s l=s:=b9 k2;have hN:cg k s l=1:=by unfold cg;rw[hst,Int.ediv_self (by omega)];rfl
  refine R3 (by show(!decide ((I.w 1).toI=0))=true;rw[hs,j5 (by omega)];rfl) (main hst hN (by omega) hR'.2 (by simp) (by omega) (by omega) hR'.1 hR'.2 ?_);show Val.vi (aS .mul .i64 (aS .sub .i64 (aS .sub .i64 (aS .quo .i64 (I.w 4).toI (I.w 1).toI) (aS .quo .i64 (I.w 1).toI (I.w 1).toI)) 1) (I.w 1).toI)=_;rw[ht,hs]
end Go.Ev.S9
namespace Go.Ev.S9
open Go Go.Ev
def jk(g:Int)(l:List Val)(i:Nat):List Val:=[.vl [S1 (aO l i) 0,.vi (aS .add .i64 (ci (aO l i) 0) g)]]
def qi(l:List Val)(i:Nat):Bool:= !U8 (ci (aO l i) 0)
def Bx(g:Int)(l:List Val):Nat×List Val:=match(List.range l.length).find? (qi l)with
 |some i=>(1,[.vi 2,.vi (U4 (jk g l) i).length,.vi i,.vl (U4 (jk g l) i)])
 |none=>(0,[.vi 0,.vi (U4 (jk g l) l.length).length,.vi l.length,.vl (U4 (jk g l) l.length)])
def Xh(a:List Val):Val:=V0 (Bx (aN a 4).toI (aN a 7).toL)
def fe(l:List Val)(i j k:Nat):List Val:=if k=i\/k=j then []else [bE (aO l k)]
def iJ(l:List Val)(i j:Nat):Val:= .vl [.vi (min (ci (aO l i) 0) (ci (aO l j) 0)),.vi (max (ci (aO l i) 1) (ci (aO l j) 1))]
def bM(l:List Val)(i j:Nat):List Val:=[iJ l i j]++U4 (fe l i j) l.length
def kW(a:List Val):Val:=V0 (0,[.vi (bM (aN a 4).toL (aN a 5).toI.toNat (aN a 6).toI.toNat).length,.vi (aN a 4).toL.length,.vl (bM (aN a 4).toL (aN a 5).toI.toNat (aN a 6).toI.toNat)])
def oR(l:List Val)(i j:Nat):Bool:=decide (ci (aO l i) 0<ci (aO l j) 1)&&decide (ci (aO l j) 0<ci (aO l i) 1)
def dP(l:List Val)(i:Nat):Option Nat:=(List.range l.length).find? λj=>decide (i<j)&&oR l i j
def sO(x:Val)(l:List Val)(i:Nat):Nat×List Val:=match dP l i with
 |some j=>(1,[.vi (bM l i j).length,.vb true,.vi j,.vl (bM l i j)])
 |none=>(0,[x,.vi l.length])
def qd(a:List Val):Val:=V0 (sO (aN a 0) (aN a 3).toL (aN a 4).toI.toNat)
theorem db0(l:List Val)(i j k:Nat):(fe l i j k).length<=1:=by grind[fe]
variable{I:Opq}
theorem IA{q l c:SX}{acc:List Val}{x:Val}(hq:aM I q= .vi acc.length)(hl:aM I l= .vl acc)(hc:aM I c= .vl (acc++[x]))(h:acc.length<1000000):
 dB I (zn (.op (.cmp .eql) [q,zL l]) (zb (zL c) 1000000))=true:=by
 rw[Y4,bK,T5,hq,S2,S2,hl,hc,W4];exact uU h
theorem dO7{g:Int}{l:List Val}(h0:(I.w 0).toI=g)(h1:(I.w 1).toL=l)(hn:l.length<=1000):S5 (λvs=>R0 QV (I.upd 2000 vs)) [.vi 0,.vi 0,.vi 0,.vl []]=some (Bx g l):=by
 have run: ∀i acc,i<=l.length->acc.length<=i->R0 QV (I.upd 2000 [.vi 0,.vi acc.length,.vi i,.vl acc])=if i<l.length then(if qi l i then some (2,[.vi 2,.vi acc.length,.vi i,.vl acc])else some (0,[.vi 0,.vi (acc++jk g l i).length,.vi (i+1:Nat),.vl (acc++jk g l i)]))else some (1,[.vi 0,.vi acc.length,.vi i,.vl acc]):=by
  intro i acc hi ha;have w0:(I.upd 2000 [.vi 0,.vi acc.length,.vi i,.vl acc]).w 0=I.w 0:=bc _ _ _ (by omega);have w1:(I.upd 2000 [.vi 0,.vi acc.length,.vi i,.vl acc]).w 1=I.w 1:=bc _ _ _ (by omega);have v0:(I.upd 2000 [.vi 0,.vi acc.length,.vi i,.vl acc]).w 2000= .vi 0:=by rfl
  have v1:(I.upd 2000 [.vi 0,.vi acc.length,.vi i,.vl acc]).w 2001= .vi acc.length:=by rfl
  have v2:(I.upd 2000 [.vi 0,.vi acc.length,.vi i,.vl acc]).w 2002= .vi i:=by rfl
  have v3:(I.upd 2000 [.vi 0,.vi acc.length,.vi i,.vl acc]).w 2003= .vl acc:=by rfl
  generalize I.upd 2000 [.vi 0,.vi acc.length,.vi i,.vl acc]=aa at*
  have dl:aM aa (zg 1 2002 0)=S1 (aO l i) 0:=by
   show S0 (aa.w 1).toL (aa.w 2002).toI 0=_;rw[w1,v2,h1];rfl
  have dc:aM aa X1= .vl (acc++jk g l i):=by
   show Val.vl ((aa.w 2003).toL++[Val.vl [aM aa (zg 1 2002 0),.vi (aS .add .i64 (aM aa (zg 1 2002 0)).toI (aa.w 0).toI)]])=_;rw[v3,dl,w0,h0];rfl
  by_cases c:i<l.length
  .rw[e8 c];refine S3 (by simp_all[W5,V6,S2,bx,e9]) (R3 (by simp_all[T5,W4,V6,e9]) ?_);have lt:qi l i= !(decide (-1099511627776<=ci (aO l i) 0)&&decide (ci (aO l i) 0<=1099511627776)):=rfl;have out:R0 (.ret 2 [.ci 2,.va 2001,.va 2002,.va 2003]) aa=some (2,[.vi 2,.vi acc.length,.vi i,.vl acc]):=by
    show some (2,[Val.vi 2,aa.w 2001,aa.w 2002,aa.w 2003])=_;grind
   by_cases t1: -1099511627776<=ci (aO l i) 0
   .refine S3 (by rw[wu,dl,W4];exact e9 t1) ?_;by_cases t2:ci (aO l i) 0<=1099511627776
    .rw[lt,e9 t1,e9 t2];refine S4 (by grind[fi,T5,W4,decide,ci,aO,decide_eq_true]) (R3 ?_ ?_)
     .show(decide ((aa.w 2001).toI=((aa.w 2003).toL.length:Int))&&decide (((aM aa X1).toL.length:Int)<=1000000))=true;rw[v1,v3,dc];exact uU (A:=acc) (by omega)
     .show some (0,[aa.w 2000,Val.vi (aM aa X1).toL.length,Val.vi (aS .add .i64 (aa.w 2002).toI 1),aM aa X1])=_;rw[dc,v0,v2,S6,V8 (n:=1000000) (by omega) (by omega)];rfl
    .rw[lt,e9 t1,j5 t2];exact S3 (by grind[fi,T5,W4,decide,ci,aO,decide_eq_false]) out
   .rw[lt,j5 t1];exact S4 (by rw[wu,dl,W4];exact j5 t1) out
  .refine S4 (by rw[W5,V6,v2,S2,bx,w1,h1];exact j5 (by show¬(i:Int)<(l.length:Int);omega)) ?_;show some (1,[aa.w 2000,aa.w 2001,aa.w 2002,aa.w 2003])=_;grind
 have hl: ∀i,(U4 (jk g l) i).length<=i:=λi=>by have:=Y7 (g:=jk g l) (m:=1) (λi=>i6 _) i;omega
 cases hf:(List.range l.length).find? (qi l)with
 |none=>
  have hno: ∀i,i<l.length->qi l i=false:=λi hi=>by
   have:=s9.1 hf i (m8.2 hi);simpa using this
  refine V9 (st:=λi=>[.vi 0,.vi (U4 (jk g l) i).length,.vi i,.vl (U4 (jk g l) i)]) (n:=l.length) (λi hi=> ?_) ?_
  .rw[run i _ (by omega) (hl i),e8 hi,hno i hi];rfl
  grind
 |some i=>
  obtain⟨a,b,c⟩:=W6 hf;refine V9 (st:=λi=>[.vi 0,.vi (U4 (jk g l) i).length,.vi i,.vl (U4 (jk g l) i)]) (n:=i) (λk hk=> ?_) ?_
  .rw[run k _ (by omega) (hl k),e8 (by omega),c k hk];rfl
  grind
theorem dO8{l:List Val}{i j:Nat}(h0:I.w 2000= .vi l.length)(h2:(I.w 2002).toL=l)(hi:I.w 4001= .vi i)(hj:I.w 5001= .vi j)(hn:l.length<=1000):
 S5 (λvs=>R0 KU (I.upd 6000 vs)) [.vi 1,.vi 0,.vl [iJ l i j]]=some (0,[.vi (bM l i j).length,.vi l.length,.vl (bM l i j)]):=by
 have hl: ∀k,(U4 (fe l i j) k).length<=k:=λk=>by have:=Y7 (db0 l i j) k;omega
 refine yj (λk acc=>[.vi acc.length,.vi k,.vl acc]) (a0:=[iJ l i j]) (g:=fe l i j) (n:=l.length) rfl (λk hk=> ?_) ?_
 .have ha:([iJ l i j]++U4 (fe l i j) k).length<=k+1:=by have:=hl k;simp;omega
  generalize [iJ l i j]++U4 (fe l i j) k=acc at ha;have v0:(I.upd 6000 [.vi acc.length,.vi k,.vl acc]).w 6000= .vi acc.length:=by rw[T1];simp
  have v1:(I.upd 6000 [.vi acc.length,.vi k,.vl acc]).w 6001= .vi k:=by rw[T1];simp
  have v2:(I.upd 6000 [.vi acc.length,.vi k,.vl acc]).w 6002= .vl acc:=by rw[T1];simp
  have w0:(I.upd 6000 [.vi acc.length,.vi k,.vl acc]).w 2000=I.w 2000:=bc _ _ _ (by omega);have w2:(I.upd 6000 [.vi acc.length,.vi k,.vl acc]).w 2002=I.w 2002:=bc _ _ _ (by omega);have w4:(I.upd 6000 [.vi acc.length,.vi k,.vl acc]).w 4001=I.w 4001:=bc _ _ _ (by omega);have w5:(I.upd 6000 [.vi acc.length,.vi k,.vl acc]).w 5001=I.w 5001:=bc _ _ _ (by omega);generalize I.upd 6000 [.vi acc.length,.vi k,.vl acc]=aa at*
  have dc:aM aa X3= .vl (acc++[bE (aO l k)]):=by
   show Val.vl ((aa.w 6002).toL++[Val.vl [S0 (aa.w 2002).toL (aa.w 6001).toI 0,S0 (aa.w 2002).toL (aa.w 6001).toI 1]])=_;rw[v2,w2,v1,h2];rfl
  have inc:aS .add .i64 (k:Int) 1=((k+1:Nat):Int):=V8 (n:=1000000) (by omega) (by omega);have skip:R0 (.ret 0 [.va 6000,zi (.va 6001),.va 6002]) aa=some (0,[.vi acc.length,.vi (k+1:Nat),.vl acc]):=by
   show some (0,[aa.w 6000,Val.vi (aS .add .i64 (aa.w 6001).toI 1),aa.w 6002])=_;rw[v0,v1,v2,S6,inc]
  refine R3 (by rw[T5,W4,V6,w0,h0];exact e9 (by show(0:Int)<=(l.length:Int);omega)) (S3 (by rw[W5,V6,V6,v1,w0,h0];exact e9 (by show(k:Int)<(l.length:Int);omega)) ?_);unfold fe;by_cases ci1:k=i
  .rw[e8 (Or.inl ci1),p9];exact S4 (by rw[gH,V6,V6,v1,w4,hi,ci1,e9 rfl];rfl) skip
  .refine S3 (by rw[gH,V6,V6,v1,w4,hi,j5 (by show¬(k:Int)=(i:Int);omega)];rfl) ?_;by_cases ci2:k=j
   .rw[e8 (Or.inr ci2),p9];exact S4 (by rw[gH,V6,V6,v1,w5,hj,ci2,e9 rfl];rfl) skip
   .rw[b9 (λh=>h.elim ci1 ci2)];refine S3 (by rw[gH,V6,V6,v1,w5,hj,j5 (by show¬(k:Int)=(j:Int);omega)];rfl) (R3 ?_ (R3 ?_ (R3 ?_ ?_)))
    .rw[T5,W4,V6,v1];exact e9 (by show(0:Int)<=(k:Int);omega)
    .rw[W5,V6,v1,S2,bx,w2,h2];exact e9 (by show(k:Int)<(l.length:Int);omega)
    .exact IA (q:= .va 6000) (l:= .va 6002) (c:=X3) v0 v2 dc (by omega)
    .show some (0,[Val.vi (aM aa X3).toL.length,Val.vi (aS .add .i64 (aa.w 6001).toI 1),aM aa X3])=_;rw[dc,v1,S6,inc];rfl
 .show R0 KU (I.upd 6000 [.vi ([iJ l i j]++U4 (fe l i j) l.length).length,.vi l.length,.vl ([iJ l i j]++U4 (fe l i j) l.length)])=some (1,[.vi ([iJ l i j]++U4 (fe l i j) l.length).length,.vi l.length,.vl ([iJ l i j]++U4 (fe l i j) l.length)]);generalize [iJ l i j]++U4 (fe l i j) l.length=acc;have v0:(I.upd 6000 [.vi acc.length,.vi l.length,.vl acc]).w 6000= .vi acc.length:=by rw[T1];simp
  have v1:(I.upd 6000 [.vi acc.length,.vi l.length,.vl acc]).w 6001= .vi l.length:=by rw[T1];simp
  have v2:(I.upd 6000 [.vi acc.length,.vi l.length,.vl acc]).w 6002= .vl acc:=by rw[T1];simp
  have w0:(I.upd 6000 [.vi acc.length,.vi l.length,.vl acc]).w 2000=I.w 2000:=bc _ _ _ (by omega);generalize I.upd 6000 [.vi acc.length,.vi l.length,.vl acc]=aa at*
  refine R3 (by rw[T5,W4,V6,w0,h0];exact e9 (by show(0:Int)<=(l.length:Int);omega)) (S4 (by rw[W5,V6,V6,v1,w0,h0];exact j5 (by omega)) ?_);show some (1,[aa.w 6000,aa.w 6001,aa.w 6002])=_;rw[v0,v1,v2]
end Go.Ev.S9
namespace Go.Ev.S9
open Go Go.Ev
variable{I:Opq}
theorem d5{x:Val}{j:Nat}:(I.upd 5000 [x,.vi j]).w 5000=x/\(I.upd 5000 [x,.vi j]).w 5001= .vi j:=⟨by rfl,by rfl⟩
theorem rM{n k:Nat}{l:List Val}{i:Nat}(hl:(I.w n).toL=l)(hk:I.w k= .vi i)(j:Nat):(aM I (.op .lget [.va n,.va k,.ci j])).toI=ci (aO l i) j:=by
 show(S0 (I.w n).toL (I.w k).toI (j:Int)).toI=_;rw[hl,hk];rfl
theorem dw8(f859: ∀a,I.f 859 a=kW a){l:List Val}{i:Nat}{x:Val}(h0:I.w 2000= .vi l.length)(h2:(I.w 2002).toL=l)(hw:I.w 4001= .vi i)(hi:i<l.length)(hn:l.length<=1000)(j:Nat)(hj:j<=l.length):
 R0 Np (I.upd 5000 [x,.vi j])=if j<l.length then(if oR l i j then some (2,[.vi (bM l i j).length,.vb true,.vi j,.vl (bM l i j)])else some (0,[x,.vi (j+1:Nat)]))else some (1,[x,.vi j]):=by
 obtain⟨v0,v1⟩:=d5 (I:=I) (x:=x) (j:=j);have w0:(I.upd 5000 [x,.vi j]).w 2000= .vi l.length:=by grind[bc]
 have w2:((I.upd 5000 [x,.vi j]).w 2002).toL=l:=by grind[bc]
 have w4:(I.upd 5000 [x,.vi j]).w 4001= .vi i:=by grind[bc]
 have wf: ∀a,(I.upd 5000 [x,.vi j]).f 859 a=kW a:=λa=>by grind[cp]
 generalize I.upd 5000 [x,.vi j]=aa at*
 have inc:j<l.length->aS .add .i64 (j:Int) 1=((j+1:Nat):Int):=λh=>V8 (n:=1000000) (by omega) (by omega)
 have skip:j<l.length->R0 (.ret 0 [.va 5000,zi (.va 5001)]) aa=some (0,[x,.vi (j+1:Nat)]):=λh=>by
  show some (0,[aa.w 5000,Val.vi (aS .add .i64 (aa.w 5001).toI 1)])=_;simp_all
 refine R3 (by simp_all[T5,W4,V6,e9]) ?_;by_cases c:j<l.length
 .rw[e8 c];refine S3 (by rw[W5,V6,V6,v1,w0];exact e9 (by show(j:Int)<(l.length:Int);omega)) ?_;refine R3 (by rw[Y4,T5,W5,W4,V6,V6,w4,w0,e9 (show(0:Int)<=(Val.vi (i:Int)).toI by show(0:Int)<=(i:Int);omega),e9 (show(Val.vi (i:Int)).toI<(Val.vi (l.length:Int)).toI by show(i:Int)<(l.length:Int);omega)];rfl) ?_;refine R3 (by rw[W5,V6,S2,bx,w4,w2];exact e9 (by show(i:Int)<(l.length:Int);omega)) ?_;refine R3 (by rw[T5,W4,V6,v1];exact e9 (by show(0:Int)<=(j:Int);omega)) ?_;refine R3 (by rw[W5,V6,S2,bx,v1,w2];exact e9 (by show(j:Int)<(l.length:Int);omega)) ?_;have q1:dB aa (zs (zg 2002 4001 0) (zg 2002 5001 1))=decide (ci (aO l i) 0<ci (aO l j) 1):=by
   have e1:=rM w2 w4 0;have e2:=rM w2 v1 1;exact congr (congrArg (λa b:Int=>decide (a<b)) e1) e2
  have q2:dB aa (zs (zg 2002 5001 0) (zg 2002 4001 1))=decide (ci (aO l j) 0<ci (aO l i) 1):=by
   have e1:=rM w2 v1 0;have e2:=rM w2 w4 1;exact congr (congrArg (λa b:Int=>decide (a<b)) e1) e2
  unfold oR;by_cases c1:ci (aO l i) 0<ci (aO l j) 1
  .rw[e9 c1,A5];refine S3 (q1.trans (e9 c1)) ?_;by_cases c2:ci (aO l j) 0<ci (aO l i) 1
   .rw[e9 c2,e8 rfl];have dh:aM aa X4= .vl [iJ l i j]:=by
     have e1:=rM w2 w4 0;have e2:=rM w2 v1 0;have e3:=rM w2 w4 1;have e4:=rM w2 v1 1;show Val.vl [Val.vl [.vi (min (aM aa (.op .lget [.va 2002,.va 4001,.ci (0:Nat)])).toI (aM aa (.op .lget [.va 2002,.va 5001,.ci (0:Nat)])).toI),.vi (max (aM aa (.op .lget [.va 2002,.va 4001,.ci (1:Nat)])).toI (aM aa (.op .lget [.va 2002,.va 5001,.ci (1:Nat)])).toI)]]=_;rw[e1,e2,e3,e4];rfl
    have d5e:aM aa X5=V0 (0,[.vi (bM l i j).length,.vi l.length,.vl (bM l i j)]):=by
     show aa.f 859 [.vi (aM aa X4).toL.length,.vi 0,aM aa X4,aa.w 2000,aa.w 2002,aa.w 4001,aa.w 5001]=_;rw[wf];show V0 (0,[.vi (bM (aa.w 2002).toL (aa.w 4001).toI.toNat (aa.w 5001).toI.toNat).length,.vi (aa.w 2002).toL.length,.vl (bM (aa.w 2002).toL (aa.w 4001).toI.toNat (aa.w 5001).toI.toNat)])=_;rw[w2,w4,v1];rfl
    have d52:aM aa (zo X5 2)= .vl (bM l i j):=by
     show S0 (aM aa X5).toL 1 2=_;rw[d5e];rfl
    have d50:aM aa (zo X5 0)= .vi (bM l i j).length:=by
     show S0 (aM aa X5).toL 1 0=_;rw[d5e];rfl
    refine S4 (by rw[fi,q2,e9 c2];rfl) (R4 (r:=(0,[.vi (bM l i j).length,.vi l.length,.vl (bM l i j)])) ?_ d5e (R3 ?_ ?_))
    .show S5 _ [Val.vi (aM aa X4).toL.length,.vi 0,aM aa X4]=_;rw[dh];exact dO8 w0 w2 w4 v1 hn
    .rw[bK,S2,d50,d52];exact e9 rfl
    .show some (2,[Val.vi (aM aa (zo X5 2)).toL.length,Val.vb true,aa.w 5001,aM aa (zo X5 2)])=_;rw[d52,v1];rfl
   .rw[j5 c2,b9 Bool.false_ne_true];exact S3 (by rw[fi,q2,j5 c2];rfl) (skip c)
  simp_all[j5,k9,b9,Bool.false_ne_true,S4]
 .refine S4 (by rw[W5,V6,V6,v1,w0];exact j5 (by show¬(j:Int)<(l.length:Int);omega)) ?_;show some (1,[aa.w 5000,aa.w 5001])=_;grind
theorem dO9(f859: ∀a,I.f 859 a=kW a){l:List Val}{i:Nat}{x:Val}(h0:I.w 2000= .vi l.length)(h2:(I.w 2002).toL=l)(hw:I.w 4001= .vi i)(hi:i<l.length)(hn:l.length<=1000):
 S5 (λvs=>R0 Np (I.upd 5000 vs)) [x,.vi (i+1:Nat)]=some (sO x l i):=by
 have run:=dw8 f859 (x:=x) h0 h2 hw hi hn;unfold sO;cases hf:dP l i with
 |none=>
  have hno: ∀j,i<j->j<l.length->oR l i j=false:=λj h1 h2=>by
   have:=s9.1 hf j (m8.2 h2);simpa[h1]using this
  refine V9 (st:=λm=>[x,.vi (i+1+m:Nat)]) (n:=l.length-(i+1)) (λm hm=> ?_) ?_
  .rw[run _ (by omega),e8 (by omega),hno _ (by omega) (by omega)];rfl
  grind
 |some j=>
  obtain⟨a,b,c⟩:=W6 hf;refine V9 (st:=λm=>[x,.vi (i+1+m:Nat)]) (n:=j-(i+1)) (λm hm=> ?_) ?_
  .have h:=c (i+1+m) (by omega);rw[e9 (by omega),A5]at h;rw[run _ (by omega),e8 (by omega),h];rfl
  grind
end Go.Ev.S9
