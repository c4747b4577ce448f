import Derived.Test.YtdbiooidpgafaaaGreatE3
import Derived.Test.YtdbiooidpgafaaaGreatEM1
set_option linter.unusedSimpArgs false
set_option linter.unusedVariables false
namespace Go.Ev.S9
open Go Go.Ev
def b79:SX:= ze (.va 0) 1
def b80:SX:= zs (.va 1) (.ci 1)
def b81:SX:= zt (.va 1) 1048576
def b82:SX:= .op (.cmp .eql) [.va 1,.va 1]
def b83:SX:= ze (.va 2) 0
def b84:SX:= ze (.va 3) 0
def b85:SX:= ze (.va 0) 3
def T_wRight:VT:= .ite (b79) (.ite (b80) (.ret 0 [.cb false]) (.ite (b81) (.ret 0 [.cb false]) (.ret 0 [zn b79 (zn b82 (zn b83 b84))]))) (.ite (ze (.va 0) 2) (.ite (b80) (.ret 0 [.cb false]) (.ite (b81) (.ret 0 [.cb false]) (.ite (zs (.va 2) (.ci 1)) (.ret 0 [.cb false]) (.ite (zt (.va 2) 1048576) (.ret 0 [.cb false]) (.ite (zn b82 (zn (.op (.cmp .eql) [.va 2,.va 2]) b84)) (.need (.op (.cmp .neq) [.va 2,.ci 0]) (.ite (ze (.op (.ar .rem .i64) [.va 1,.va 2]) 0) (.ret 0 [zb (.op (.ar .quo .i64) [.va 1,.va 2]) 16]) (.ret 0 [.cb false]))) (.ret 0 [.cb false])))))) (.ite (b85) (.ite (zs (.va 3) (.ci 1)) (.ret 0 [.cb false]) (.ite (zt (.va 3) 1048576) (.ret 0 [.cb false]) (.ret 0 [zn b85 (zn (ze (.va 1) 0) (zn b83 (.op (.cmp .eql) [.va 3,.va 3])))]))) (.ret 0 [.cb false])))
def T_evRight0:VT:= .ite (zs (.va 0) (.ci 1)) (.ret 0 [.ci 80]) (.ite (zt (.va 0) 2) (.ret 0 [.ci 80]) (.bad))
def T_evRight1:VT:= .ite (.op (.scmp .neq) [.va 1,.cs []]) (.ite (.op .not [zb (.op .slen [.va 1]) 32]) (.ret 0 [.ci 60]) (.ite (zs (.va 2) (.ci (-1099511627776))) (.ret 0 [.ci 61]) (.ite (zt (.va 2) 1099511627776) (.ret 0 [.ci 61]) (.ret 0 [.ci 0])))) (.ret 0 [.ci 60])
def T_evRight2:VT:= .ite (.op .not [zn (ze (.ci 2) 2) (zn (.op (.scmp .eql) [.va 1,.cs []]) (zn (.op (.cmp .eql) [.va 2,.va 2]) (ze (.va 3) 0)))]) (.ret 0 [.ci 60]) (.ite (zs (.va 2) (.ci (-1099511627776))) (.ret 0 [.ci 61]) (.ite (zt (.va 2) 1099511627776) (.ret 0 [.ci 61]) (.ret 0 [.ci 0])))
def ah1:SX:= .app 751 [.ci 0,.ci 0,.ci 0,.ci 0,zl 0,.va 0,zl 0]
def dj4:VT:= .ite (zs (.va 2000) (zl 0)) (.need (zp (.va 2000)) (.ite (.op (.cmp .geq) [.va 2001,.ci 0]) (.ite (.op (.cmp .geq) [zg 0 2000 0,.ci 0]) (.ite (zs (za (.va 2001) (zg 0 2000 0)) (.ci 0)) (.ret 0 [zi (.va 2000),za (.va 2001) (zg 0 2000 0),zi (.va 2002)]) (.ret 0 [zi (.va 2000),za (.va 2001) (zg 0 2000 0),.va 2002])) (.ret 0 [zi (.va 2000),za (.va 2001) (zg 0 2000 0),.va 2002])) (.ite (zs (zg 0 2000 0) (.ci 0)) (.ite (.op (.cmp .geq) [za (.va 2001) (zg 0 2000 0),.ci 0]) (.ret 0 [zi (.va 2000),za (.va 2001) (zg 0 2000 0),zm (.va 2002) (.ci 1)]) (.ret 0 [zi (.va 2000),za (.va 2001) (zg 0 2000 0),.va 2002])) (.ret 0 [zi (.va 2000),za (.va 2001) (zg 0 2000 0),.va 2002])))) (.ret 1 [.va 2000,.va 2001,.va 2002])
def T_numSum:VT:= .loop ⟨751,[.ci 0,.ci 0,.ci 0],2000,[.ci 0,zl 0,.va 0,zl 0]⟩ dj4 [.ite (.op (.cmp .neq) [zo ah1 2,.ci 0]) (.ret 0 [.ci 0,.ci 30]) (.ret 0 [zo ah1 1,.ci 0])]
def bl7:SX:= .op (.ar .rem .i64) [.va 0,.va 1]
def bl8:SX:= .op (.cmp .geq) [.va 0,.ci 0]
def cc7:SX:= za bl7 (.va 1)
def bJ0:SX:= zm (.va 0) cc7
def bJ1:SX:= zm (.va 0) bl7
def T_down:VT:= .ite (zb (.va 1) 0) (.ret 0 [.ci 0,.ci 2]) (.need (.op (.cmp .neq) [.va 1,.ci 0]) (.ite (zs bl7 (.ci 0)) (.ite (.op .not [.op .beq [bl8,.op (.cmp .geq) [cc7,.ci 0]]]) (.ite (.op .not [.op .beq [.op (.cmp .geq) [bJ0,.ci 0],bl8]]) (.ret 0 [.ci 0,.ci 30]) (.ret 0 [bJ0,.ci 0])) (.ret 0 [bJ0,.ci 0])) (.ite (.op .not [.op .beq [bl8,.op (.cmp .geq) [bl7,.ci 0]]]) (.ite (.op .not [.op .beq [.op (.cmp .geq) [bJ1,.ci 0],bl8]]) (.ret 0 [.ci 0,.ci 30]) (.ret 0 [bJ1,.ci 0])) (.ret 0 [bJ1,.ci 0]))))
def cV9:VT:= .ite (zs (.va 2001) (zl 1)) (.need (zp (.va 2001)) (.ite (.op .not [.op .beq [.op (.cmp .geq) [zg 1 2001 1,.ci 0],.op (.cmp .geq) [zg 1 2001 0,.ci 0]]]) (.ite (.op .not [.op .beq [.op (.cmp .geq) [zm (zg 1 2001 1) (zg 1 2001 0),.ci 0],.op (.cmp .geq) [zg 1 2001 1,.ci 0]]]) (.ite (.op (.cmp .geq) [zg 1 2001 0,zg 1 2001 1]) (.ret 2 [.cb false,.va 2001]) (.ite (zt (.va 2001) 0) (.need (zn (zp (zm (.va 2001) (.ci 1))) (zs (zm (.va 2001) (.ci 1)) (zl 1))) (.ite (.op (.cmp .gtr) [.op .lget [.va 1,zm (.va 2001) (.ci 1),.ci 1],zg 1 2001 0]) (.ret 2 [.cb false,.va 2001]) (.ret 0 [.va 2000,zi (.va 2001)]))) (.ret 0 [.va 2000,zi (.va 2001)]))) (.ite (.op (.cmp .geq) [zg 1 2001 0,zg 1 2001 1]) (.ret 2 [.cb false,.va 2001]) (.ite (zs (zm (zg 1 2001 1) (zg 1 2001 0)) (.va 0)) (.ret 2 [.cb false,.va 2001]) (.ite (zt (.va 2001) 0) (.need (zn (zp (zm (.va 2001) (.ci 1))) (zs (zm (.va 2001) (.ci 1)) (zl 1))) (.ite (.op (.cmp .gtr) [.op .lget [.va 1,zm (.va 2001) (.ci 1),.ci 1],zg 1 2001 0]) (.ret 2 [.cb false,.va 2001]) (.ret 0 [.va 2000,zi (.va 2001)]))) (.ret 0 [.va 2000,zi (.va 2001)]))))) (.ite (.op (.cmp .geq) [zg 1 2001 0,zg 1 2001 1]) (.ret 2 [.cb false,.va 2001]) (.ite (zs (zm (zg 1 2001 1) (zg 1 2001 0)) (.va 0)) (.ret 2 [.cb false,.va 2001]) (.ite (zt (.va 2001) 0) (.need (zn (zp (zm (.va 2001) (.ci 1))) (zs (zm (.va 2001) (.ci 1)) (zl 1))) (.ite (.op (.cmp .gtr) [.op .lget [.va 1,zm (.va 2001) (.ci 1),.ci 1],zg 1 2001 0]) (.ret 2 [.cb false,.va 2001]) (.ret 0 [.va 2000,zi (.va 2001)]))) (.ret 0 [.va 2000,zi (.va 2001)])))))) (.ret 1 [.va 2000,.va 2001])
def T_sRight:VT:= .loop ⟨754,[.cb false,.ci 0],2000,[.va 0,.ci 0,zl 1,.va 1,.ci 0,zl 1,.va 1,zl 1]⟩ cV9 [.ret 0 [.cb true],.ret 0 [zo (.app 754 [.cb false,.ci 0,.va 0,.ci 0,zl 1,.va 1,.ci 0,zl 1,.va 1,zl 1]) 0]]
def b86:SX:= zs (.va 0) (.va 2)
def b87:SX:= .op (.cmp .gtr) [.va 0,.va 2]
def T_spanP:VT:= .ite (zs (.va 1) (.va 3)) (.ite (b86) (.ret 0 [.ci (-1)]) (.ite (b87) (.ret 0 [.ci (-1)]) (.ret 0 [.ci (-1)]))) (.ite (.op (.cmp .gtr) [.va 1,.va 3]) (.ite (b86) (.ret 0 [.ci 1]) (.ite (b87) (.ret 0 [.ci 1]) (.ret 0 [.ci 1]))) (.ite (b86) (.ret 0 [.ci (-1)]) (.ite (b87) (.ret 0 [.ci 1]) (.ret 0 [.ci 0]))))
def cc8:SX:= za (zm (.app 709 [.va 4,.va 2]) (.va 1)) (.va 2)
def cc9:SX:= .app 753 [.op .llen [.op .row []],cc8,.op .row [],.va 0,.va 1,.va 2,.va 3,.app 709 [.va 4,.va 2]]
def cd0:SX:= zo cc9 2
def cd1:SX:= za (zm (.app 709 [.va 4,.va 1]) (.va 1)) (.va 1)
def cd2:SX:= .app 753 [.op .llen [.op .row []],cd1,.op .row [],.va 0,.va 1,.va 2,.va 3,.app 709 [.va 4,.va 1]]
def cd3:SX:= zo cd2 2
def dj5:VT:= .ite (.op (.cmp .leq) [.va 2001,.app 709 [.va 4,.va 2]]) (.need (zn (.op (.cmp .eql) [.va 2000,zl 2002]) (zb (zL (zc (.va 2002) (.op .row [.op .row [.va 2001,za (.va 2001) (.va 1)]]))) 1000000)) (.ite (ze (.va 0) 2) (.ret 0 [zL (zc (.va 2002) (.op .row [.op .row [.va 2001,za (.va 2001) (.va 1)]])),za (.va 2001) (.va 2),zc (.va 2002) (.op .row [.op .row [.va 2001,za (.va 2001) (.va 1)]])]) (.ret 0 [zL (zc (.va 2002) (.op .row [.op .row [.va 2001,za (.va 2001) (.va 1)]])),za (.va 2001) (.va 1),zc (.va 2002) (.op .row [.op .row [.va 2001,za (.va 2001) (.va 1)]])]))) (.ret 1 [.va 2000,.va 2001,.va 2002])
def cd4:VT:= .ite (.op (.cmp .leq) [.va 2001,.app 709 [.va 4,.va 1]]) (.need (zn (.op (.cmp .eql) [.va 2000,zl 2002]) (zb (zL (zc (.va 2002) (.op .row [.op .row [.va 2001,za (.va 2001) (.va 1)]]))) 1000000)) (.ite (ze (.va 0) 2) (.ret 0 [zL (zc (.va 2002) (.op .row [.op .row [.va 2001,za (.va 2001) (.va 1)]])),za (.va 2001) (.va 2),zc (.va 2002) (.op .row [.op .row [.va 2001,za (.va 2001) (.va 1)]])]) (.ret 0 [zL (zc (.va 2002) (.op .row [.op .row [.va 2001,za (.va 2001) (.va 1)]])),za (.va 2001) (.va 1),zc (.va 2002) (.op .row [.op .row [.va 2001,za (.va 2001) (.va 1)]])]))) (.ret 1 [.va 2000,.va 2001,.va 2002])
def T_wOf:VT:= .ite (.op .not [.app 700 [.va 0,.va 1,.va 2,.va 3]]) (.ret 0 [.op .row []]) (.ite (.op (.cmp .geq) [.va 4,.ci (-1099511627776)]) (.ite (.op .not [zb (.va 4) 1099511627776]) (.ret 0 [.op .row []]) (.ite (ze (.va 0) 3) (.ret 0 [.op .row [.op .row [.va 4,za (.va 4) (.va 3)]]]) (.ite (ze (.va 0) 2) (.need (zn (.op (.cmp .leq) [.ci 1,.va 2]) (zb (.va 2) 1048576)) (.loop ⟨753,[.op .llen [.op .row []],cc8,.op .row []],2000,[.va 0,.va 1,.va 2,.va 3,.app 709 [.va 4,.va 2]]⟩ dj5 [.need (.op (.cmp .eql) [zo cc9 0,zL cd0]) (.ret 0 [cd0])])) (.need (zn (.op (.cmp .leq) [.ci 1,.va 1]) (zb (.va 1) 1048576)) (.loop ⟨753,[.op .llen [.op .row []],cd1,.op .row []],2000,[.va 0,.va 1,.va 2,.va 3,.app 709 [.va 4,.va 1]]⟩ cd4 [.need (.op (.cmp .eql) [zo cd2 0,zL cd3]) (.ret 0 [cd3])]))))) (.ret 0 [.op .row []]))
def a43:SX:= .app 752 [.op .llen [.op .row []],.op .llen [.op .row []],.ci 0,.ci 0,.ci 0,.ci 0,.ci 0,.op .row [],.op .row [],.ci 0,zl 0,.va 0,zl 0]
def bl9:SX:= zo a43 0
def bm0:SX:= zo a43 7
def ak6:SX:= .op .lsub [bm0,.ci 0,bl9]
def bm1:SX:= zo a43 1
def bm2:SX:= zo a43 8
def ap8:SX:= .op .lsub [bm2,.ci 0,bm1]
def dd5:VT:= .ite (zs (.va 2002) (zl 0)) (.need (zp (.va 2002)) (.ite (zn (ze (zg 0 2002 0) 0) (zn (ze (zg 0 2002 1) 0) (zn (ze (zg 0 2002 2) 0) (ze (zg 0 2002 3) 0)))) (.ret 0 [.va 2000,.va 2001,zi (.va 2002),.va 2003,.va 2004,.va 2005,.va 2006,.va 2007,.va 2008]) (.need (zp (.va 2001)) (.ite (ze (.va 2001) 0) (.need (zn (.op (.cmp .eql) [.va 2000,zl 2007]) (zb (zL (zc (.va 2007) (.op .row [.op .row [zg 0 2002 0]]))) 1000000)) (.need (zn (.op (.cmp .eql) [.va 2001,zl 2008]) (zb (zL (zc (.va 2008) (.op .row [.op .row [zg 0 2002 1]]))) 1000000)) (.ret 0 [zL (zc (.va 2007) (.op .row [.op .row [zg 0 2002 0]])),zL (zc (.va 2008) (.op .row [.op .row [zg 0 2002 1]])),zi (.va 2002),zg 0 2002 0,zg 0 2002 1,.op .imin [zg 0 2002 2,zg 0 2002 2],.op .imax [zg 0 2002 3,zg 0 2002 3],zc (.va 2007) (.op .row [.op .row [zg 0 2002 0]]),zc (.va 2008) (.op .row [.op .row [zg 0 2002 1]])]))) (.need (zn (.op (.cmp .eql) [.va 2000,zl 2007]) (zb (zL (zc (.va 2007) (.op .row [.op .row [zg 0 2002 0]]))) 1000000)) (.need (zn (.op (.cmp .eql) [.va 2001,zl 2008]) (zb (zL (zc (.va 2008) (.op .row [.op .row [zg 0 2002 1]]))) 1000000)) (.ret 0 [zL (zc (.va 2007) (.op .row [.op .row [zg 0 2002 0]])),zL (zc (.va 2008) (.op .row [.op .row [zg 0 2002 1]])),zi (.va 2002),.va 2003,.va 2004,.op .imin [.va 2005,zg 0 2002 2],.op .imax [.va 2006,zg 0 2002 3],zc (.va 2007) (.op .row [.op .row [zg 0 2002 0]]),zc (.va 2008) (.op .row [.op .row [zg 0 2002 1]])]))))))) (.ret 1 [.va 2000,.va 2001,.va 2002,.va 2003,.va 2004,.va 2005,.va 2006,.va 2007,.va 2008])
def T_join:VT:= .loop ⟨752,[.op .llen [.op .row []],.op .llen [.op .row []],.ci 0,.ci 0,.ci 0,.ci 0,.ci 0,.op .row [],.op .row []],2000,[.ci 0,zl 0,.va 0,zl 0]⟩ dd5 [.need (zn (zn (zp bl9) (.op (.cmp .leq) [bl9,zL bm0])) (zb (zL ak6) 1000000)) (.need (zn (zn (zp bm1) (.op (.cmp .leq) [bm1,zL bm2])) (zb (zL ap8) 1000000)) (.ite (.op (.cmp .neq) [.app 703 [ak6],.ci 0]) (.ret 0 [.ci 0,.ci 0,.ci 0,.ci 0,.ci 30]) (.ite (.op (.cmp .neq) [.app 703 [ap8],.ci 0]) (.ret 0 [.ci 0,.ci 0,.ci 0,.ci 0,.ci 30]) (.ret 0 [.app 702 [ak6],.app 702 [ap8],zo a43 5,zo a43 6,.ci 0]))))]
def X3:SX:= za (.va 1) (.va 0)
def U7:SX:= .app 755 [.op .llen [.op .row []],.op .llen [.op .row []],.ci 0,.va 1,X3,.op .row [],.op .row [],.va 1,X3,.va 1,X3,.ci 0,zl 2,.va 2,zl 2]
def S4:SX:= zo U7 1
def T4:SX:= zo U7 6
def S5:SX:= zo U7 3
def W7:SX:= zo U7 4
def Y9:SX:= zo (.app 756 [.ci 0,S4,S4,T4,S5,W7,S4]) 0
def ax9:SX:= .op .lget [T4,Y9,.ci 0]
def af3:SX:= .app 713 [T4,S4,Y9,S5,W7]
def a38:SX:= zo U7 5
def a99:SX:= .op (.cmp .eql) [zo U7 0,zL a38]
def a57:SX:= .app 714 [T4,S4,Y9,S5,W7]
def dd6:VT:= .ite (zs (.va 2002) (zl 2)) (.need (zp (.va 2002)) (.ite (zs (zg 2 2002 0) (za (.va 1) (.va 0))) (.ite (.op .not [zs (.va 1) (zg 2 2002 1)]) (.need (zn (.op (.cmp .eql) [.va 2001,zl 2006]) (zb (zL (zc (.va 2006) (.op .row [.op .row [zg 2 2002 0,zg 2 2002 1]]))) 1000000)) (.ret 0 [.va 2000,zL (zc (.va 2006) (.op .row [.op .row [zg 2 2002 0,zg 2 2002 1]])),zi (.va 2002),.va 2003,.va 2004,.va 2005,zc (.va 2006) (.op .row [.op .row [zg 2 2002 0,zg 2 2002 1]])])) (.need (zn (.op (.cmp .eql) [.va 2000,zl 2005]) (zb (zL (zc (.va 2005) (.op .row [.op .row [zg 2 2002 0,zg 2 2002 1]]))) 1000000)) (.ret 0 [zL (zc (.va 2005) (.op .row [.op .row [zg 2 2002 0,zg 2 2002 1]])),.va 2001,zi (.va 2002),.op .imin [.va 2003,zg 2 2002 0],.op .imax [.va 2004,zg 2 2002 1],zc (.va 2005) (.op .row [.op .row [zg 2 2002 0,zg 2 2002 1]]),.va 2006]))) (.need (zn (.op (.cmp .eql) [.va 2001,zl 2006]) (zb (zL (zc (.va 2006) (.op .row [.op .row [zg 2 2002 0,zg 2 2002 1]]))) 1000000)) (.ret 0 [.va 2000,zL (zc (.va 2006) (.op .row [.op .row [zg 2 2002 0,zg 2 2002 1]])),zi (.va 2002),.va 2003,.va 2004,.va 2005,zc (.va 2006) (.op .row [.op .row [zg 2 2002 0,zg 2 2002 1]])])))) (.ret 1 [.va 2000,.va 2001,.va 2002,.va 2003,.va 2004,.va 2005,.va 2006])
def d66:VT:= .ite (zs (.va 2000) (.va 2001)) (.need (zn (zp (zh (.va 2000) (.va 2001))) (zs (zh (.va 2000) (.va 2001)) (zo (.app 755 [.op .llen [.op .row []],.op .llen [.op .row []],.ci 0,.va 1,za (.va 1) (.va 0),.op .row [],.op .row [],.va 1,za (.va 1) (.va 0),.va 1,za (.va 1) (.va 0),.ci 0,zl 2,.va 2,zl 2]) 1))) (.need (zs (zh (.va 2000) (.va 2001)) (zL (zo (.app 755 [.op .llen [.op .row []],.op .llen [.op .row []],.ci 0,.va 1,za (.va 1) (.va 0),.op .row [],.op .row [],.va 1,za (.va 1) (.va 0),.va 1,za (.va 1) (.va 0),.ci 0,zl 2,.va 2,zl 2]) 6))) (.ite (zs (.op .lget [zo (.app 755 [.op .llen [.op .row []],.op .llen [.op .row []],.ci 0,.va 1,za (.va 1) (.va 0),.op .row [],.op .row [],.va 1,za (.va 1) (.va 0),.va 1,za (.va 1) (.va 0),.ci 0,zl 2,.va 2,zl 2]) 6,zh (.va 2000) (.va 2001),.ci 0]) (zo (.app 755 [.op .llen [.op .row []],.op .llen [.op .row []],.ci 0,.va 1,za (.va 1) (.va 0),.op .row [],.op .row [],.va 1,za (.va 1) (.va 0),.va 1,za (.va 1) (.va 0),.ci 0,zl 2,.va 2,zl 2]) 3)) (.ret 0 [zi (zh (.va 2000) (.va 2001)),.va 2001]) (.ite (.op (.cmp .gtr) [.op .lget [zo (.app 755 [.op .llen [.op .row []],.op .llen [.op .row []],.ci 0,.va 1,za (.va 1) (.va 0),.op .row [],.op .row [],.va 1,za (.va 1) (.va 0),.va 1,za (.va 1) (.va 0),.ci 0,zl 2,.va 2,zl 2]) 6,zh (.va 2000) (.va 2001),.ci 0],zo (.app 755 [.op .llen [.op .row []],.op .llen [.op .row []],.ci 0,.va 1,za (.va 1) (.va 0),.op .row [],.op .row [],.va 1,za (.va 1) (.va 0),.va 1,za (.va 1) (.va 0),.ci 0,zl 2,.va 2,zl 2]) 3]) (.ret 0 [.va 2000,zh (.va 2000) (.va 2001)]) (.ret 0 [.va 2000,zh (.va 2000) (.va 2001)]))))) (.ret 1 [.va 2000,.va 2001])
def T_sinsert:VT:= .ite (.op (.cmp .eql) [.va 0,.op .imax [.ci 1,.op .imin [.va 0,.ci 1048576]]]) (.ite (.op (.cmp .neq) [.va 1,.op .imax [.ci (-1099511627776),.op .imin [.va 1,.ci 1099511627776]]]) (.ret 0 [.ci 0,.ci 0,.ci 2,.op .row [],.op .row []]) (.need (zb (zl 2) 400) (.ite (.op .not [.app 711 [.va 0,.va 2]]) (.ret 0 [.ci 0,.ci 0,.ci 2,.op .row [],.op .row []]) (.loop ⟨755,[.op .llen [.op .row []],.op .llen [.op .row []],.ci 0,.va 1,X3,.op .row [],.op .row []],2000,[.va 1,X3,.va 1,X3,.ci 0,zl 2,.va 2,zl 2]⟩ dd6 [.need (zp S4) (.loop ⟨756,[.ci 0,S4],2000,[S4,T4,S5,W7,S4]⟩ d66 [.ite (zs Y9 S4) (.need (zp Y9) (.need (zs Y9 (zL T4)) (.ite (zs ax9 S5) (.need (af3) (.need (a99) (.ret 0 [S5,W7,.ci 0,a38,a57]))) (.ite (.op (.cmp .gtr) [ax9,S5]) (.need (af3) (.need (a99) (.ret 0 [S5,W7,.ci 0,a38,a57]))) (.need (af3) (.need (a99) (.ret 0 [S5,W7,.ci 0,a38,a57]))))))) (.need (af3) (.need (a99) (.ret 0 [S5,W7,.ci 0,a38,a57])))])])))) (.ret 0 [.ci 0,.ci 0,.ci 2,.op .row [],.op .row []])
def a73:SX:= .op .row [.op .row [.va 0,.va 1,.va 2,.va 3],.op .row [.ci 1,.va 4,.va 4,.va 4]]
def T_aput:VT:= .need (zb (zL a73) 1000) (.ite (.op (.cmp .neq) [.app 706 [a73],.ci 0]) (.ret 0 [.va 0,.va 1,.va 2,.va 3,.app 706 [a73]]) (.ret 0 [.op .lget [.app 705 [a73],.ci 0,.ci 0],.op .lget [.app 705 [a73],.ci 0,.ci 1],.op .lget [.app 705 [a73],.ci 0,.ci 2],.op .lget [.app 705 [a73],.ci 0,.ci 3],.ci 0]))
def aC3:SX:= .app 750 [.op .llen [.op .row []],.op .row [],.va 4]
def ab6:SX:= zo aC3 1
def dj6:VT:= .need (zn (.op (.cmp .eql) [.va 2000,zl 2001]) (zb (zL (zc (.va 2001) (.op .row [zv 4 2002]))) 1000000)) (.ret 0 [zL (zc (.va 2001) (.op .row [zv 4 2002])),zc (.va 2001) (.op .row [zv 4 2002])])
def T_trows:VT:= .mloop ⟨750,[.op .llen [.op .row []],.op .row []],2000,[.va 4]⟩ (.va 4) dj6 [.need (zn (.op (.cmp .eql) [zo aC3 0,zL ab6]) (zn (zn (zb (zL ab6) 400) (.app 431 [ab6])) (.app 491 [ab6]))) (.ret 0 [.app 490 [ab6]])]
def ap9:SX:= .op (.mfind [.str,.int .i64,.int .i64]) [.va 4,.op .row [.va 5,.va 6,.va 7]]
def af4:SX:= zs ap9 (zl 4)
def T_tget:VT:= .ret 0 [.op .ite [af4,.op .lget [.va 4,ap9,.ci 3],.ci 0],.op .ite [af4,.op .lget [.va 4,ap9,.ci 4],.ci 0],.op .ite [af4,.op .lget [.va 4,ap9,.ci 5],.ci 0],.op .ite [af4,.op .lget [.va 4,ap9,.ci 6],.ci 0],af4]
def aS2:SX:= .app 757 [.op .llen [.op .row []],.op .row [],.va 5,.va 4]
def aS3:SX:= zo aS2 0
def a82:SX:= zo aS2 1
def dj7:VT:= .ite (.op (.scmp .eql) [zg 4 2002 0,.va 5]) (.need (zn (.op (.cmp .eql) [.va 2000,zl 2001]) (zb (zL (zc (.va 2001) (.op .row [.op .row [zg 4 2002 1,zg 4 2002 2]]))) 1000000)) (.ret 0 [zL (zc (.va 2001) (.op .row [.op .row [zg 4 2002 1,zg 4 2002 2]])),zc (.va 2001) (.op .row [.op .row [zg 4 2002 1,zg 4 2002 2]])])) (.ret 0 [.va 2000,.va 2001])
def T_tsess:VT:= .mloop ⟨757,[.op .llen [.op .row []],.op .row []],2000,[.va 5,.va 4]⟩ (.va 4) dj7 [.need (zn (.op (.cmp .eql) [aS3,zL a82]) (zn (zb (zL a82) 1000000) (.app 716 [a82]))) (.need (.op (.cmp .eql) [aS3,zL (.app 715 [a82])]) (.ret 0 [.app 715 [a82]]))]
def ay0:SX:= .app 718 [.va 3,.va 7,.app 723 [.va 4,.va 6]]
def an2:SX:= .op .lget [ay0,.ci 0,.ci 0]
def an3:SX:= .op .lget [ay0,.ci 0,.ci 1]
def W1:SX:= .app 717 [.va 3,.va 7,.app 723 [.va 4,.va 6]]
def ay1:SX:= .app 758 [.op .llen [.op .row []],.ci 0,.op .row [],.va 5,.va 6,.va 7,.va 8,an2,an3,zL W1,W1,zL W1]
def ay2:SX:= zo ay1 2
def d67:VT:= .ite (zs (.va 2001) (zL (.app 717 [.va 3,.va 7,.app 723 [.va 4,.va 6]]))) (.need (zp (.va 2001)) (.need (zn (.op (.cmp .eql) [.va 2000,zl 2002]) (zb (zL (zc (.va 2002) (.op .row [.op .row [.va 6,.op .lget [.app 717 [.va 3,.va 7,.app 723 [.va 4,.va 6]],.va 2001,.ci 0],.op .lget [.app 717 [.va 3,.va 7,.app 723 [.va 4,.va 6]],.va 2001,.ci 1]]]))) 1000000)) (.ret 0 [zL (zc (.va 2002) (.op .row [.op .row [.va 6,.op .lget [.app 717 [.va 3,.va 7,.app 723 [.va 4,.va 6]],.va 2001,.ci 0],.op .lget [.app 717 [.va 3,.va 7,.app 723 [.va 4,.va 6]],.va 2001,.ci 1]]])),zi (.va 2001),zc (.va 2002) (.op .row [.op .row [.va 6,.op .lget [.app 717 [.va 3,.va 7,.app 723 [.va 4,.va 6]],.va 2001,.ci 0],.op .lget [.app 717 [.va 3,.va 7,.app 723 [.va 4,.va 6]],.va 2001,.ci 1]]])]))) (.ret 1 [.va 2000,.va 2001,.va 2002])
def T_joined:VT:= .need (zn (zb (zl 4) 400) (.app 491 [.va 4])) (.need (zb (zL (.app 723 [.va 4,.va 6])) 24) (.loop ⟨758,[.op .llen [.op .row []],.ci 0,.op .row []],2000,[.va 5,.va 6,.va 7,.va 8,an2,an3,zL W1,W1,zL W1]⟩ d67 [.need (.op (.cmp .eql) [zo ay1 0,zL ay2]) (.ret 0 [.va 6,an2,an3,ay2])]))
def aS4:SX:= .op .row [.op .row [.ci 1,.va 8,.va 8,.va 8]]
def ak7:SX:= .app 725 [.va 3,.va 4,.va 6,.va 7]
def aq0:SX:= .op .lget [ak7,.ci 0,.ci 0]
def aq1:SX:= .op .lget [ak7,.ci 0,.ci 1]
def aq2:SX:= .op .lget [ak7,.ci 0,.ci 2]
def X7:SX:= .app 724 [.va 3,.va 4,.va 6,.va 7]
def aq3:SX:= .app 759 [.op .llen [.op .row []],zL aS4,.ci 0,.op .row [],aS4,.va 0,.va 1,.va 2,.va 3,.va 4,aq0,aq1,aq2,zL X7,X7,zL X7]
def bm3:SX:= zo aq3 1
def bJ2:SX:= zo aq3 4
def a74:SX:= .op .lsub [bJ2,.ci 0,bm3]
def b88:SX:= zo aq3 3
def cQ2:SX:= .op .row [.op .lget [X7,.va 2002,.ci 0],.op .lget [X7,.va 2002,.ci 1],.op .lget [X7,.va 2002,.ci 2]]
def bS0(j:Int):SX:= .op .ite [zs (.op (.mfind [.str,.int .i64,.int .i64]) [.va 4,cQ2]) (zl 4),.op .lget [.va 4,.op (.mfind [.str,.int .i64,.int .i64]) [.va 4,cQ2],.ci j],.ci 0]
def bw7:SX:= zc (.va 2004) (.op .row [.op .row [bS0 3,bS0 4,bS0 5,bS0 6]])
def cw1:SX:= zc (.va 2003) (.op .row [cQ2])
def dj8:SX:= zn (.op (.scmp .eql) [.op .lget [X7,.va 2002,.ci 0],aq0]) (zn (.op (.cmp .eql) [.op .lget [X7,.va 2002,.ci 1],aq1]) (.op (.cmp .eql) [.op .lget [X7,.va 2002,.ci 2],aq2]))
def d68:VT:= .ite (zs (.va 2002) (zL X7)) (.need (zp (.va 2002)) (.need (zn (.op (.cmp .eql) [.va 2001,zl 2004]) (zb (zL bw7) 1000000)) (.ite (.op .not [dj8]) (.need (zn (.op (.cmp .eql) [.va 2000,zl 2003]) (zb (zL cw1) 1000000)) (.ret 0 [zL cw1,zL bw7,zi (.va 2002),cw1,bw7])) (.ret 0 [.va 2000,zL bw7,zi (.va 2002),.va 2003,bw7])))) (.ret 1 [.va 2000,.va 2001,.va 2002,.va 2003,.va 2004])
def T_sess:VT:= .need (zn (zb (zl 4) 24) (.app 491 [.va 4])) (.loop ⟨759,[.op .llen [.op .row []],zL aS4,.ci 0,.op .row [],aS4],2000,[.va 0,.va 1,.va 2,.va 3,.va 4,aq0,aq1,aq2,zL X7,X7,zL X7]⟩ d68 [.need (zn (zn (zp bm3) (.op (.cmp .leq) [bm3,zL bJ2])) (zb (zL a74) 1000)) (.ite (.op (.cmp .neq) [.app 706 [a74],.ci 0]) (.ret 0 [.app 706 [a74],.op .row [],.op .row []]) (.need (.op (.cmp .eql) [zo aq3 0,zL b88]) (.ret 0 [.ci 0,b88,.op .row [.op .row [aq0,aq1,aq2,.op .lget [.app 705 [a74],.ci 0,.ci 0],.op .lget [.app 705 [a74],.ci 0,.ci 1],.op .lget [.app 705 [a74],.ci 0,.ci 2],.op .lget [.app 705 [a74],.ci 0,.ci 3]]]])))])
def aq4:SX:= .app 701 [.va 5,.va 6,.va 7,.va 8]
def Z0:SX:= .app 704 [.va 0,.va 1,.va 2,.va 3,.va 7]
def aS5:SX:= .app 760 [.op .llen [.op .row []],aq4,.ci 0,.op .row [],.va 0,.va 1,.va 2,.va 3,.va 4,.va 5,.va 6,.va 7,.va 8,zL Z0,Z0,zL Z0]
def aZ3:SX:= zo aS5 1
def bm4:SX:= zo aS5 0
def bJ3:SX:= zo aS5 3
def aZ4:SX:= .op .lsub [bJ3,.ci 0,bm4]
def d69:SX:= .op .row [.va 6,.op .lget [Z0,.va 2002,.ci 0],.op .lget [Z0,.va 2002,.ci 1]]
def aV4(j:Int):SX:= .op .ite [zs (.op (.mfind [.str,.int .i64,.int .i64]) [.va 4,d69]) (zl 4),.op .lget [.va 4,.op (.mfind [.str,.int .i64,.int .i64]) [.va 4,d69],.ci j],.ci 0]
def ck9:SX:= .app 708 [aV4 3,aV4 4,aV4 5,aV4 6,.va 8]
def cw2:SX:= .app 707 [aV4 3,aV4 4,aV4 5,aV4 6,.va 8]
def cw3:SX:= zc (.va 2003) (.op .row [.op .row [.va 6,.op .lget [Z0,.va 2002,.ci 0],.op .lget [Z0,.va 2002,.ci 1],.op .lget [cw2,.ci 0,.ci 0],.op .lget [cw2,.ci 0,.ci 1],.op .lget [cw2,.ci 0,.ci 2],.op .lget [cw2,.ci 0,.ci 3]]])
def cQ3:VT:= .ite (zs (.va 2002) (zL Z0)) (.need (zp (.va 2002)) (.ite (.op (.cmp .neq) [ck9,.ci 0]) (.ret 1 [.va 2000,ck9,.va 2002,.va 2003]) (.need (zn (.op (.cmp .eql) [.va 2000,zl 2003]) (zb (zL cw3) 1000000)) (.ret 0 [zL cw3,ck9,zi (.va 2002),cw3])))) (.ret 1 [.va 2000,.va 2001,.va 2002,.va 2003])
def T_tryE:VT:= .ite (.op (.cmp .neq) [aq4,.ci 0]) (.ret 0 [aq4,.op .row [],.op .row []]) (.ite (.op (.cmp .neq) [.va 5,.ci 1]) (.ret 0 [.ci 2,.op .row [],.op .row []]) (.ite (ze (.va 0) 3) (.need (zn (zb (zl 4) 24) (.app 491 [.va 4])) (.ret 0 [.app 729 [.va 3,.va 4,.va 6,.va 7,.va 8],.app 727 [.va 3,.va 4,.va 6,.va 7,.va 8],.app 728 [.va 3,.va 4,.va 6,.va 7,.va 8]])) (.loop ⟨760,[.op .llen [.op .row []],aq4,.ci 0,.op .row []],2000,[.va 0,.va 1,.va 2,.va 3,.va 4,.va 5,.va 6,.va 7,.va 8,zL Z0,Z0,zL Z0]⟩ cQ3 [.ite (.op (.cmp .neq) [aZ3,.ci 0]) (.ret 0 [aZ3,.op .row [],.op .row []]) (.need (zn (zn (zp bm4) (.op (.cmp .leq) [bm4,zL bJ3])) (zn (zb (zL aZ4) 400) (.app 431 [aZ4]))) (.ret 0 [.ci 0,.op .row [],.app 490 [aZ4]]))])))
def cd5:SX:= .app 732 [.va 0,.va 1,.va 2,.va 3,.va 4,.va 5,.va 6,.va 7,.va 8]
def X0:SX:= .app 731 [.va 0,.va 1,.va 2,.va 3,.va 4,.va 5,.va 6,.va 7,.va 8]
def a92:SX:= .app 730 [.va 0,.va 1,.va 2,.va 3,.va 4,.va 5,.va 6,.va 7,.va 8]
def aV5:SX:= zo (.app 761 [.ci 0,.va 4,.va 0,.va 1,.va 2,.va 3,.va 4,zL X0,X0,zL a92,a92,zL a92]) 1
def d70:VT:= .ite (zs (.va 2000) (zL (.app 730 [.va 0,.va 1,.va 2,.va 3,.va 4,.va 5,.va 6,.va 7,.va 8]))) (.need (zp (.va 2000)) (.ret 0 [zi (.va 2000),.op (.mdel [.str,.int .i64,.int .i64]) [.va 2001,.op .row [.op .lget [.app 730 [.va 0,.va 1,.va 2,.va 3,.va 4,.va 5,.va 6,.va 7,.va 8],.va 2000,.ci 0],.op .lget [.app 730 [.va 0,.va 1,.va 2,.va 3,.va 4,.va 5,.va 6,.va 7,.va 8],.va 2000,.ci 1],.op .lget [.app 730 [.va 0,.va 1,.va 2,.va 3,.va 4,.va 5,.va 6,.va 7,.va 8],.va 2000,.ci 2]]]])) (.ret 1 [.va 2000,.va 2001])
def d71:VT:= .ite (zs (.va 2000) (zL (.app 731 [.va 0,.va 1,.va 2,.va 3,.va 4,.va 5,.va 6,.va 7,.va 8]))) (.need (zp (.va 2000)) (.ret 0 [zi (.va 2000),.op .ite [zs (.op (.mfind [.str,.int .i64,.int .i64]) [.va 2001,.op .row [.op .lget [.app 731 [.va 0,.va 1,.va 2,.va 3,.va 4,.va 5,.va 6,.va 7,.va 8],.va 2000,.ci 0],.op .lget [.app 731 [.va 0,.va 1,.va 2,.va 3,.va 4,.va 5,.va 6,.va 7,.va 8],.va 2000,.ci 1],.op .lget [.app 731 [.va 0,.va 1,.va 2,.va 3,.va 4,.va 5,.va 6,.va 7,.va 8],.va 2000,.ci 2]]]) (zl 2001),.op .lset [.va 2001,.op (.mfind [.str,.int .i64,.int .i64]) [.va 2001,.op .row [.op .lget [.app 731 [.va 0,.va 1,.va 2,.va 3,.va 4,.va 5,.va 6,.va 7,.va 8],.va 2000,.ci 0],.op .lget [.app 731 [.va 0,.va 1,.va 2,.va 3,.va 4,.va 5,.va 6,.va 7,.va 8],.va 2000,.ci 1],.op .lget [.app 731 [.va 0,.va 1,.va 2,.va 3,.va 4,.va 5,.va 6,.va 7,.va 8],.va 2000,.ci 2]]],.op .row [.op .lget [.app 731 [.va 0,.va 1,.va 2,.va 3,.va 4,.va 5,.va 6,.va 7,.va 8],.va 2000,.ci 0],.op .lget [.app 731 [.va 0,.va 1,.va 2,.va 3,.va 4,.va 5,.va 6,.va 7,.va 8],.va 2000,.ci 1],.op .lget [.app 731 [.va 0,.va 1,.va 2,.va 3,.va 4,.va 5,.va 6,.va 7,.va 8],.va 2000,.ci 2],.op .lget [.app 731 [.va 0,.va 1,.va 2,.va 3,.va 4,.va 5,.va 6,.va 7,.va 8],.va 2000,.ci 3],.op .lget [.app 731 [.va 0,.va 1,.va 2,.va 3,.va 4,.va 5,.va 6,.va 7,.va 8],.va 2000,.ci 4],.op .lget [.app 731 [.va 0,.va 1,.va 2,.va 3,.va 4,.va 5,.va 6,.va 7,.va 8],.va 2000,.ci 5],.op .lget [.app 731 [.va 0,.va 1,.va 2,.va 3,.va 4,.va 5,.va 6,.va 7,.va 8],.va 2000,.ci 6]]],zc (.va 2001) (.op .row [.op .row [.op .lget [.app 731 [.va 0,.va 1,.va 2,.va 3,.va 4,.va 5,.va 6,.va 7,.va 8],.va 2000,.ci 0],.op .lget [.app 731 [.va 0,.va 1,.va 2,.va 3,.va 4,.va 5,.va 6,.va 7,.va 8],.va 2000,.ci 1],.op .lget [.app 731 [.va 0,.va 1,.va 2,.va 3,.va 4,.va 5,.va 6,.va 7,.va 8],.va 2000,.ci 2],.op .lget [.app 731 [.va 0,.va 1,.va 2,.va 3,.va 4,.va 5,.va 6,.va 7,.va 8],.va 2000,.ci 3],.op .lget [.app 731 [.va 0,.va 1,.va 2,.va 3,.va 4,.va 5,.va 6,.va 7,.va 8],.va 2000,.ci 4],.op .lget [.app 731 [.va 0,.va 1,.va 2,.va 3,.va 4,.va 5,.va 6,.va 7,.va 8],.va 2000,.ci 5],.op .lget [.app 731 [.va 0,.va 1,.va 2,.va 3,.va 4,.va 5,.va 6,.va 7,.va 8],.va 2000,.ci 6]]])]])) (.ret 1 [.va 2000,.va 2001])
def T_put:VT:= .need (zn (zn (zn (zb (zl 4) 400) (.app 431 [.va 4])) (.app 491 [.va 4])) (.app 739 [.va 0,.va 4,.va 6])) (.ite (.op (.cmp .neq) [cd5,.ci 0]) (.ret 0 [cd5,.va 4]) (.loop ⟨761,[.ci 0,.va 4],2000,[.va 0,.va 1,.va 2,.va 3,.va 4,zL X0,X0,zL a92,a92,zL a92]⟩ d70 [.loop ⟨762,[.ci 0,aV5],2000,[.va 0,.va 1,.va 2,.va 3,aV5,zL X0,X0,zL X0]⟩ d71 [.ret 0 [.ci 0,zo (.app 762 [.ci 0,aV5,.va 0,.va 1,.va 2,.va 3,aV5,zL X0,X0,zL X0]) 1]]]))
def dd7:VT:= .ite (zs (.va 2001) (zl 0)) (.ite (zs (.va 2001) (.ci 100)) (.need (zp (.va 2001)) (.ite (zt (.op .slen [zg 0 2001 1]) 50) (.ret 2 [.cb false,.va 2001]) (.ret 0 [.va 2000,zi (.va 2001)]))) (.ret 1 [.va 2000,.va 2001])) (.ret 1 [.va 2000,.va 2001])
def T_few:VT:= .loop ⟨765,[.cb false,.ci 0],2000,[.ci 0,zl 0,.va 0,.va 1]⟩ dd7 [.ret 0 [.op (.cmp .leq) [zl 0,.va 1]],.ret 0 [zo (.app 765 [.cb false,.ci 0,.ci 0,zl 0,.va 0,.va 1]) 0]]
def aH8:SX:= zn (ze (.va 0) 0) (zn (ze (.va 1) 0) (zn (ze (.va 2) 0) (ze (.va 3) 0)))
def b89:SX:= .op (.cmp .leq) [.va 2,.va 3]
def T_aRight:VT:= .ite (aH8) (.ret 0 [.cb true]) (.ite (zt (.va 0) 0) (.ite (b89) (.ite (zt (.va 0) 1) (.ret 0 [b89]) (.ret 0 [zn (ze (.va 0) 1) (zn (.op (.cmp .eql) [.va 1,.va 1]) (zn (.op (.cmp .eql) [.va 2,.va 1]) (.op (.cmp .eql) [.va 3,.va 1])))])) (.ret 0 [aH8])) (.ret 0 [aH8]))
def T_aBlank:VT:= .ret 0 [zn (ze (.va 0) 0) (zn (ze (.va 1) 0) (zn (ze (.va 2) 0) (ze (.va 3) 0)))]
def T_pick:VT:= .ite (zb (.va 1) 0) (.ret 0 [.ci 0]) (.need (.op (.cmp .neq) [.va 1,.ci 0]) (.ret 0 [.op (.ar .rem .i64) [za (.op (.ar .rem .i64) [.va 0,.va 1]) (.va 1),.va 1]]))
def ex(j:Int):SX:= .op .lget [.va 4,.va 2003,.ci j]
def aX:List SX:=[.va 0,.va 1,.va 2,.va 3,.va 2004,ex 0,ex 1,ex 2,ex 3]
def x730:SX:= .app 730 aX
def x731:SX:= .app 731 aX
def x732:SX:= .app 732 aX
def x733:SX:= .app 733 aX
def rx(j:Int):SX:= .op .lget [x731,.va 4001,.ci j]
def gx(j:Int):SX:= .op .lget [x730,.va 4001,.ci j]
def tx:SX:= .app 721 [x733,rx 0,rx 1,rx 2]
def cx(j j':Int):SX:= .op (.cmp .eql) [.op .lget [tx,.ci 0,.ci j],rx j']
def d72:VT:= .ite (zs (.va 4001) (zL x731)) (.need (zp (.va 4001)) (.need (zb (zL x733) 1000000) (.ite (.op .not [.app 722 [x733,rx 0,rx 1,rx 2]]) (.ret 2 [.cb false,.va 4001]) (.ite (.op .not [zn (cx 0 3) (zn (cx 1 4) (zn (cx 2 5) (cx 3 6)))]) (.ret 2 [.cb false,.va 4001]) (.ret 0 [.va 4000,zi (.va 4001)]))))) (.ret 1 [.va 4000,.va 4001])
def d73:VT:= .ite (zs (.va 4001) (zL x730)) (.need (zp (.va 4001)) (.need (zb (zL x733) 1000000) (.ite (.app 722 [x733,gx 0,gx 1,gx 2]) (.ret 2 [.cb false,.va 4001]) (.ret 0 [.va 4000,zi (.va 4001)])))) (.ret 1 [.va 4000,.va 4001])
def ntX:SX:= zc (.va 2005) (.op .row [.op .row [ex 0,ex 1,ex 2,ex 3]])
def bw8:SX:= za (.va 2002) (zL (.app 704 [.va 0,.va 1,.va 2,.va 3,ex 2]))
def cQ4:List SX:=[.ci 0,zl 4,.va 4,.va 5,.va 0,.va 1,.va 2,.va 3,.va 0,.va 1,.va 2,.va 3,x733,zL ntX,ntX,bw8,.va 2003,zL x730,x730,zL x731,x731]
def cQ5:List SX:=[.ci 0,zl 4,.va 4,.va 5,.va 0,.va 1,.va 2,.va 3,.va 0,.va 1,.va 2,.va 3,x733,zL ntX,ntX,bw8,.va 2003,zL x730,x730]
def dj9:SX:= .app 767 ([.va 2000,.ci 0]++cQ4)
def cQ6:SX:= zo dj9 0
def dk0:SX:= .app 768 ([cQ6,.ci 0]++cQ5)
def dd8:SX:= zo dk0 0
def cQ7(x:SX):SX:= zn (zn (zb (zL x) 400) (.app 431 [x])) (.app 491 [x])
def dk1:List SX:=[.cb false,.va 2001,.va 2002,.va 2003,x733,.va 2005]
def dd9:VT:= .ite (zt (zL x730) 0) (.ret 2 dk1) (.ite (zt (zL x731) 0) (.ret 2 dk1) (.need (cQ7 x733) (.need (zb (zL (.app 490 [.va 2004])) 1000000) (.ite (.op .not [.app 3 [.app 490 [.va 2004],.app 490 [x733]]]) (.ret 2 dk1) (.ret 0 [.va 2000,.va 2001,.va 2002,zi (.va 2003),x733,.va 2005])))))
def de0:VT:= .need (zn (.op (.cmp .eql) [.va 2001,zl 2005]) (zb (zL ntX) 1000000)) (.loop ⟨767,[.va 2000,.ci 0],4000,cQ4⟩ d72 [.loop ⟨768,[cQ6,.ci 0],4000,cQ5⟩ d73 [.ret 0 [dd8,zL ntX,bw8,zi (.va 2003),x733,ntX],.ret 2 [dd8,zL ntX,bw8,.va 2003,x733,ntX]],.ret 2 [cQ6,zL ntX,bw8,.va 2003,x733,ntX]])
def cE3:VT:= .ite (zs (.va 2003) (zl 4)) (.need (cQ7 (.va 2004)) (.need (zp (.va 2003)) (.need (.app 739 [.va 0,.va 2004,ex 1]) (.ite (.op (.cmp .neq) [x732,.ci 0]) dd9 de0)))) (.ret 1 [.va 2000,.va 2001,.va 2002,.va 2003,.va 2004,.va 2005])
def a83:SX:= .app 766 [.cb false,.op .llen [.op .row []],.ci 0,.ci 0,.op .row [],.op .row [],.ci 0,zl 4,.va 4,.va 5,.va 0,.va 1,.va 2,.va 3,.va 0,.va 1,.va 2,.va 3,.op .row []]
def a24:SX:= zo a83 4
def aC4:SX:= zo a83 0
def Z7:SX:= zo a83 1
def W2:SX:= zo a83 5
def aS6:SX:= zo a83 2
def aC5:SX:= zL (.app 490 [a24])
def aS7:SX:= .app 769 [aC4,.ci 0,.ci 0,.va 5,.va 0,.va 1,.va 2,.va 3,Z7,W2,aS6,aC5,.app 490 [a24]]
def aS8:SX:= zm Z7 (.ci 1)
def Z8:SX:= .app 737 [.va 5,Z7]
def bJ4:SX:= zp Z8
def ad0:SX:= .app 770 [.op .llen [.op .row []],aS8,.op .row [],.va 0,.va 1,.va 2,.va 3,Z7,W2,aC5,.app 490 [a24],Z8]
def an4:SX:= zo ad0 2
def X4:SX:= zc an4 (.op .lsub [W2,.ci 0,Z8])
def ah2:SX:= .app 771 [.ci 0,.ci 0,.ci 0,.op .row [],.va 0,.va 1,.va 2,.va 3,.op .row [],zL X4,X4,zL X4]
def aH9:SX:= zo ah2 1
def ad1:SX:= zo ah2 3
def ay3:SX:= .app 3 [.app 490 [ad1],.app 490 [a24]]
def aI0:SX:= zo ah2 0
def bJ5:SX:= .app 3 [.op .row [],.app 490 [a24]]
def r7:SX:= .app 490 [a24]
def qx(j:Int):SX:= .op .lget [r7,.va 2002,.ci j]
def cW0:SX:= za (.va 2001) (qx 3)
def cw4:SX:= zc (.va 2002) (.op .row [.op .row [.op .lget [W2,.va 2001,.ci 0],.op .lget [W2,.va 2001,.ci 1],.op .lget [W2,.va 2001,.ci 2],.op .lget [W2,.va 2001,.ci 3]]])
def ux(j:Int):SX:= .op .lget [X4,.va 2002,.ci j]
def bX:List SX:=[.va 0,.va 1,.va 2,.va 3,.va 2003,ux 0,ux 1,ux 2,ux 3]
def d74:VT:= .ite (zs (.va 2002) (zL r7)) (.need (zp (.va 2002)) (.ite (.op .not [.app 735 [qx 3,qx 4,qx 5,qx 6]]) (.ret 2 [.cb false,cW0,.va 2002]) (.ite (.app 736 [qx 3,qx 4,qx 5,qx 6]) (.ret 2 [.cb false,cW0,.va 2002]) (.ret 0 [.va 2000,cW0,zi (.va 2002)])))) (.ret 1 [.va 2000,.va 2001,.va 2002])
def d75:VT:= .ite (.op (.cmp .geq) [.va 2001,Z8]) (.need (zn (zp (.va 2001)) (zs (.va 2001) Z7)) (.need (zs (.va 2001) (zL W2)) (.need (zn (.op (.cmp .eql) [.va 2000,zl 2002]) (zb (zL cw4) 1000000)) (.ret 0 [zL cw4,zm (.va 2001) (.ci 1),cw4])))) (.ret 1 [.va 2000,.va 2001,.va 2002])
def cW1:VT:= .ite (zs (.va 2002) (zL X4)) (.need (zp (.va 2002)) (.ite (.op (.cmp .neq) [.va 2001,.ci 0]) (.ret 2 [.va 2001,.va 2001,.va 2002,.va 2003]) (.need (zn (cQ7 (.va 2003)) (.app 739 [.va 0,.va 2003,ux 1])) (.ret 0 [.va 2000,.app 732 bX,zi (.va 2002),.app 733 bX])))) (.ret 1 [.va 2000,.va 2001,.va 2002,.va 2003])
def T_order:VT:= .ite (.op .not [.app 734 [.va 4,.ci 24]]) (.ret 0 [.cb true]) (.ite (.op .not [.app 700 [.va 0,.va 1,.va 2,.va 3]]) (.ret 0 [.cb true]) (.loop ⟨766,[.cb false,.op .llen [.op .row []],.ci 0,.ci 0,.op .row [],.op .row []],2000,[.ci 0,zl 4,.va 4,.va 5,.va 0,.va 1,.va 2,.va 3,.va 0,.va 1,.va 2,.va 3,.op .row []]⟩ cE3 [.need (zn (zn (zb (zL a24) 400) (.app 431 [a24])) (.app 491 [a24])) (.loop ⟨769,[aC4,.ci 0,.ci 0],2000,[.va 5,.va 0,.va 1,.va 2,.va 3,Z7,W2,aS6,aC5,.app 490 [a24]]⟩ d74 [.ite (.op (.cmp .neq) [zo aS7 1,aS6]) (.ret 0 [.cb false]) (.need (zp Z7) (.loop ⟨770,[.op .llen [.op .row []],aS8,.op .row []],2000,[.va 0,.va 1,.va 2,.va 3,Z7,W2,aC5,.app 490 [a24],Z8]⟩ d75 [.need (zn bJ4 (.op (.cmp .leq) [Z8,Z7])) (.need (zn (zn bJ4 (.op (.cmp .leq) [Z8,zL W2])) (zn (.op (.cmp .eql) [zo ad0 0,zL an4]) (zb (zL X4) 1000000))) (.loop ⟨771,[.ci 0,.ci 0,.ci 0,.op .row []],2000,[.va 0,.va 1,.va 2,.va 3,.op .row [],zL X4,X4,zL X4]⟩ cW1 [.ite (.op (.cmp .neq) [aH9,.ci 0]) (.ite (ze aH9 30) (.ret 0 [.cb true]) (.ret 0 [.cb false])) (.need (zn (zn (zb (zL ad1) 400) (.app 431 [ad1])) (.app 491 [ad1])) (.need (zb (zL (.app 490 [ad1])) 1000000) (.ite (ay3) (.ret 0 [ay3]) (.ret 0 [.cb false])))),.ite (ze aI0 30) (.ret 0 [.cb true]) (.ite (ze aI0 0) (.need (zb (.op .llen [.op .row []]) 1000000) (.ite (bJ5) (.ret 0 [bJ5]) (.ret 0 [.cb false]))) (.ret 0 [.cb false]))]))])),.ret 0 [zo aS7 0]]),.ret 0 [aC4]]))
end Go.Ev.S9
namespace Go.Ev.S9
open Go Go.Ev
theorem Q3(ω:Opq)(v0:Nat)(l:List Val)(n:Nat):(ω.upd v0 l).w n=if v0≤n then l.getD (n-v0) (.vb false)else ω.w n:=rfl
theorem ah9(ω:Opq)(v0:Nat)(l:List Val):(ω.upd v0 l).f=ω.f:=rfl
@[simp]theorem R0(n:Int):(Val.vi n).toI=n:=rfl
@[simp]theorem d76(n:List UInt8):(Val.vs n).toS=n:=rfl
@[simp]theorem ad2(n:Bool):(Val.vb n).toB=n:=rfl
@[simp]theorem a75(n:List Val):(Val.vl n).toL=n:=rfl
@[simp]theorem a04(a b:Int):aF5 .lss a b=decide (a<b):=rfl
@[simp]theorem a65(a b:Int):aF5 .leq a b=decide (a≤b):=rfl
@[simp]theorem an5(a b:Int):aF5 .gtr a b=decide (b<a):=rfl
@[simp]theorem cw5(a b:Int):aF5 .geq a b=decide (b≤a):=rfl
@[simp]theorem cw6(a b:Int):aF5 .eql a b=decide (a=b):=rfl
@[simp]theorem cw7(a b:Int):aF5 .neq a b= !decide (a=b):=rfl
@[simp]theorem cw8(a b:List UInt8):ck6 .eql a b=decide (a=b):=rfl
@[simp]theorem cw9(a b:List UInt8):ck6 .neq a b= !decide (a=b):=rfl
theorem Q6{ω:Opq}{e:SX}{x:VT}{r:Option (Nat×List Val)}(h:dB ω e=true)(h2:Q1 x ω=r):Q1 (.need e x) ω=r:=by rw[Q1.eq_3,if_pos h,h2]
theorem T7{ω:Opq}{e:SX}{x y:VT}{r:Option (Nat×List Val)}(h:dB ω e=true)(h2:Q1 x ω=r):Q1 (.ite e x y) ω=r:=by rw[Q1.eq_2,if_pos h,h2]
theorem T1{ω:Opq}{e:SX}{x y:VT}{r:Option (Nat×List Val)}(h:dB ω e=false)(h2:Q1 y ω=r):Q1 (.ite e x y) ω=r:=by rw[Q1.eq_2,if_neg (by rw[h];decide),h2]
theorem Q8{ω:Opq}{hd:LHd}{b:VT}{ks:List VT}{r:Nat×List Val}{x:Option (Nat×List Val)}(h1:R9 (fun vs=>Q1 b (ω.upd hd.v0 vs)) (Q4 ω hd.s0)=some r)(h2:ω.f hd.id (Q4 ω (hd.s0++hd.fv))=W4 r)(h3:ai5 ks r.1 ω=x):Q1 (.loop hd b ks) ω=x:=by
 rw[Q1.eq_5,h1]
 simp only
 rw[if_pos h2,h3]
theorem cl0{x:Int}(h: -9223372036854775808≤x)(h2:x<9223372036854775808):IntKind.i64.wrap x=x:=by
 simp only[IntKind.wrap,IntKind.bits,IntKind.signed]
 simp
 omega
theorem ak8{x y:Int}(h: -9223372036854775808≤x+y)(h2:x+y<9223372036854775808):arI .add .i64 x y=x+y:=cl0 h h2
theorem aF8{x y:Int}(h: -9223372036854775808≤x-y)(h2:x-y<9223372036854775808):arI .sub .i64 x y=x-y:=cl0 h h2
theorem a03{i n:Nat}(h:i<n)(h2:n≤9223372036854775807):arI .add .i64 (i:Int) 1=((i+1:Nat):Int):=by
 rw[ak8 (by omega) (by omega)];omega
def ci(r:Val)(k:Nat):Int:=(Q9 r k).toI
def T2(k s l g:Int):Bool:=
 if k=1 then decide (1≤s)&&decide (s≤1048576)&&decide (l=0)&&decide (g=0)
 else if k=2 then decide (1≤s)&&decide (s≤1048576)&&decide (1≤l)&&decide (l≤1048576)&&decide (g=0)&&decide (s % l=0)&&decide (s/l≤16)
 else decide (k=3)&&decide (1≤g)&&decide (g≤1048576)&&decide (s=0)&&decide (l=0)
def U8(t:Int):Bool:=decide (-1099511627776≤t)&&decide (t≤1099511627776)
def R8(k:Int)(key:List UInt8)(t v:Int):Int:=
 if k<1∨2<k then 80
 else if k=1 then(if key=[]∨32<key.length then 60 else if U8 t then 0 else 61)
 else(if key=[]∧v=0 then(if U8 t then 0 else 61)else 60)
def ao4(g:Nat→Int):Nat→Int×Int
 |0=>(0,0)
 |k+1=>let s:=(ao4 g k).1;let o:=(ao4 g k).2;let x:=g k;let t:=arI .add .i64 s x
  if 0≤s∧0≤x∧t<0 then(t,arI .add .i64 o 1)else if s<0∧x<0∧0≤t then(t,arI .sub .i64 o 1)else(t,o)
def aD5(l:List Val):Int×Int:=ao4 (fun k=>ci (atV l k) 0) l.length
def aV6(l:List Val):Int:=if(aD5 l).2=0 then 0 else 30
def cd6(l:List Val):Int:=if(aD5 l).2=0 then(aD5 l).1 else 0
def ak9(a b c d:Int):Bool:=decide (a=0)&&(decide (b=0)&&(decide (c=0)&&decide (d=0)))
def as7(a b c d:Int):Bool:=ak9 a b c d||decide (0<a)&&decide (c≤d)&&(decide (1<a)||decide (a=1)&&decide (c=b)&&decide (d=b))
def bS1(a b c d:Int):Int:=if b<d then-1 else if d<b then 1 else if a<c then-1 else if c<a then 1 else 0
def cl1(r:Val):Bool:=decide (50<(Q9 r 1).toS.length)
def b90(i n:Int):Int:=if n≤0 then 0 else arI .rem .i64 (arI .add .i64 (arI .rem .i64 i n) n) n
def al0(n d:Int):Int:=n-n % d
def Z9(k s l:Int):Int:=if k=2 then l else s
def bb3(st step size:Int)(j:Nat):List Val:=[.vl [.vi (st+j*step),.vi (st+j*step+size)]]
def aF9(k s l:Int):Nat:=(s/Z9 k s l).toNat
def ofV(k s l g:Int)(t:Val):List Val:=bif T2 k s l g&&U8 t.toI then(if k=3 then [.vl [t,.vi (t.toI+g)]]else Y2 (bb3 (al0 t.toI (Z9 k s l)-s+Z9 k s l) (Z9 k s l) s) (aF9 k s l))else []
def ay4(r:Val):Bool:=ak9 (ci r 0) (ci r 1) (ci r 2) (ci r 3)
def jG(l:List Val)(c:Nat)(k:Nat):List Val:=bif ay4 (atV l k)then []else [.vl [Q9 (atV l k) c]]
def jS(l:List Val):Nat→List Val
 |0=>[.vi 0,.vi 0,.vi 0,.vi 0]
 |k+1=>bif ay4 (atV l k)then jS l k else
  (if(Y2 (jG l 0) k).length=0 then [Q9 (atV l k) 0,Q9 (atV l k) 1,.vi (min (ci (atV l k) 2) (ci (atV l k) 2)),.vi (max (ci (atV l k) 3) (ci (atV l k) 3))]
   else [(jS l k).getD 0 default,(jS l k).getD 1 default,.vi (min ((jS l k).getD 2 default).toI (ci (atV l k) 2)),.vi (max ((jS l k).getD 3 default).toI (ci (atV l k) 3))])
def jC(l:List Val):List Val:=Y2 (jG l 0) l.length
def jT(l:List Val):List Val:=Y2 (jG l 1) l.length
def jE(l:List Val):Int:=if aV6 (jC l)≠0∨aV6 (jT l)≠0 then 30 else 0
def jR(l:List Val):List Val:=if aV6 (jC l)≠0∨aV6 (jT l)≠0 then [.vi 0,.vi 0,.vi 0,.vi 0]else [.vi (cd6 (jC l)),.vi (cd6 (jT l)),(jS l l.length).getD 2 default,(jS l l.length).getD 3 default]
def pR(a b c d v:Val):List Val:=[.vl [a,b,c,d],.vl [.vi 1,v,v,v]]
def bS2(a b c d v:Val):List Val:=if jE (pR a b c d v)≠0 then [a,b,c,d]else jR (pR a b c d v)
def spG(l:List Val)(key:List UInt8)(i:Nat):List Val:=bif decide ((Q9 (atV l i) 0).toS=key)then [.vl [Q9 (atV l i) 1,Q9 (atV l i) 2]]else []
def spL(l:List Val)(key:List UInt8):List Val:=Y2 (spG l key) l.length
def spanV(a b:Val):Int:=bS1 (ci a 0) (ci a 1) (ci b 0) (ci b 1)
def Q7(r:Val):Int×Int:=(ci r 0,ci r 1)
def a58(l:List Val)(p:Val):Nat:=l.findIdx fun r=>keq [.str,.int .i64,.int .i64] r p
def aU0(l:List Val)(p:Val):Bool:=decide (a58 l p<l.length)
def aZ5(l:List Val)(p:Val)(j:Nat):Val:=bif aU0 l p then Q9 (atV l (a58 l p)) j else .vi 0
def cd7(l:List Val)(p:Val):List Val:=[aZ5 l p 3,aZ5 l p 4,aZ5 l p 5,aZ5 l p 6]
def d77(s e:Int):Bool:= !((!((decide (0≤e))==(decide (0≤s))))&&(!((decide (0≤arI .sub .i64 e s))==(decide (0≤e)))))
def bw9(g:Int)(l:List Val)(i:Nat):Bool:=decide (ci (atV l i) 1≤ci (atV l i) 0)||(d77 (ci (atV l i) 0) (ci (atV l i) 1)&&decide (arI .sub .i64 (ci (atV l i) 1) (ci (atV l i) 0)<g))||(decide (0<i)&&decide (ci (atV l i) 0<ci (atV l (i-1)) 1))
def bS3(t o:Int)(r:Val):Bool:=decide (ci r 0<o)&&decide (t<ci r 1)
def sp2(r:Val):Val:= .vl [Q9 r 0,Q9 r 1]
def jnG(l:List Val)(t o:Int)(i:Nat):List Val:=bif bS3 t o (atV l i)then [sp2 (atV l i)]else []
def rsG(l:List Val)(t o:Int)(i:Nat):List Val:=bif bS3 t o (atV l i)then []else [sp2 (atV l i)]
def nwV(l:List Val)(t o:Val):Nat→Val×Val
 |0=>(t,o)
 |i+1=>bif bS3 t.toI o.toI (atV l i)then(.vi (min (nwV l t o i).1.toI (ci (atV l i) 0)),.vi (max (nwV l t o i).2.toI (ci (atV l i) 1)))else nwV l t o i
def jnL(l:List Val)(t o:Int):List Val:=Y2 (jnG l t o) l.length
def rsL(l:List Val)(t o:Int):List Val:=Y2 (rsG l t o) l.length
def bsV(l:List Val)(x:Int):Nat→Nat→Nat→Nat
 |0,i,_=>i
 |n+1,i,j=>if i<j then(if ci (atV l ((i+j)/2)) 0<x then bsV l x n ((i+j)/2+1) j else bsV l x n i ((i+j)/2))else i
def d78(l:List Val)(j:Nat)(a b:Val):List Val:=(l.take j).map sp2++[.vl [a,b]]++(l.drop j).map sp2
def ae1(g t:Int)(l:List Val):Bool:=decide (1≤g)&&decide (g≤1048576)&&U8 t&& !(List.range l.length).any (bw9 g l)
def bS9(g t:Int):Val:= .vi (arI .add .i64 t g)
def siN(g t:Val)(l:List Val):Val×Val:=nwV l t (bS9 g.toI t.toI) l.length
def siA(g t:Val)(l:List Val):List Val:=rsL l t.toI (bS9 g.toI t.toI).toI
def siJ(g t:Val)(l:List Val):List Val:=jnL l t.toI (bS9 g.toI t.toI).toI
def bx0(g t:Val)(l:List Val):Nat:=bsV (siA g t l) (siN g t l).1.toI (siA g t l).length 0 (siA g t l).length
noncomputable def ssV(m:List Val)(key:Val):List Val:=a81 spanV (spL m key.toS)
noncomputable def jnV(g:Val)(m:List Val)(key t:Val):List Val:=bif ae1 g.toI t.toI (ssV m key)then siJ g t (ssV m key)else []
noncomputable def nwP(g:Val)(m:List Val)(key t:Val):List Val:=bif ae1 g.toI t.toI (ssV m key)then [(siN g t (ssV m key)).1,(siN g t (ssV m key)).2]else [.vi 0,.vi 0]
def pnR(key r:Val):Val:= .vl [key,Q9 r 0,Q9 r 1]
def cW2(key ns ne r:Val):Bool:=decide ((Q9 r 0).toS=key.toS)&&(decide ((Q9 r 1).toI=ns.toI)&&decide ((Q9 r 2).toI=ne.toI))
def goF(key ns ne r:Val):List Val:=bif cW2 key ns ne r then []else [a23 r]
def goV(P:List Val)(key ns ne:Val):List Val:=Y2 (fun i=>goF key ns ne (atV P i)) P.length
def alR(m:List Val)(r:Val):Val:= .vl (cd7 m (a23 r))
def bJ6(m P:List Val)(v:Val):List Val:= .vl [.vi 1,v,v,v]::P.map (alR m)
noncomputable def pnV(g:Val)(m:List Val)(key t:Val):List Val:=(jnV g m key t).map (pnR key)
noncomputable def seE(g:Val)(m:List Val)(key t v:Val):Int:=jE (bJ6 m (pnV g m key t) v)
noncomputable def seG(g:Val)(m:List Val)(key t v:Val):List Val:=if seE g m key t v≠0 then []else goV (pnV g m key t) key ((nwP g m key t).getD 0 default) ((nwP g m key t).getD 1 default)
noncomputable def seR(g:Val)(m:List Val)(key t v:Val):List Val:=if seE g m key t v≠0 then []else [.vl [key,(nwP g m key t).getD 0 default,(nwP g m key t).getD 1 default,(jR (bJ6 m (pnV g m key t) v)).getD 0 default,(jR (bJ6 m (pnV g m key t) v)).getD 1 default,(jR (bJ6 m (pnV g m key t) v)).getD 2 default,(jR (bJ6 m (pnV g m key t) v)).getD 3 default]]
def pcA(m:List Val)(key r:Val)(j:Nat):Val:=aZ5 m (pnR key r) j
def tpE(m:List Val)(key v r:Val):Int:=jE (pR (pcA m key r 3) (pcA m key r 4) (pcA m key r 5) (pcA m key r 6) v)
def tpQ(m:List Val)(key v r:Val):List Val:=bS2 (pcA m key r 3) (pcA m key r 4) (pcA m key r 5) (pcA m key r 6) v
def tpR(m:List Val)(key v r:Val):Val:= .vl [key,Q9 r 0,Q9 r 1,(tpQ m key v r).getD 0 default,(tpQ m key v r).getD 1 default,(tpQ m key v r).getD 2 default,(tpQ m key v r).getD 3 default]
def tpK(m S:List Val)(key v:Val):Nat:=((List.range S.length).find? fun i=>decide (tpE m key v (atV S i)≠0)).getD S.length
def tpL(m S:List Val)(key v:Val)(k:Nat):List Val:=Y2 (fun i=>[tpR m key v (atV S i)]) k
def tpX(m S:List Val)(key v e0:Val):Val:=if tpK m S key v<S.length then .vi (tpE m key v (atV S (tpK m S key v)))else if S.length=0 then e0 else .vi 0
noncomputable def ao5(w:List Val):Int:=if R8 (arg w 5).toI (arg w 6).toS (arg w 7).toI (arg w 8).toI≠0 then R8 (arg w 5).toI (arg w 6).toS (arg w 7).toI (arg w 8).toI else if(arg w 5).toI≠1 then 2 else if(arg w 0).toI=3 then seE (arg w 3) (arg w 4).toL (arg w 6) (arg w 7) (arg w 8)else
 (tpX (arg w 4).toL (ofV (arg w 0).toI (arg w 1).toI (arg w 2).toI (arg w 3).toI (arg w 7)) (arg w 6) (arg w 8) (.vi 0)).toI
noncomputable def ay5(w:List Val):List Val:=if R8 (arg w 5).toI (arg w 6).toS (arg w 7).toI (arg w 8).toI≠0∨(arg w 5).toI≠1 then []else if(arg w 0).toI=3 then seG (arg w 3) (arg w 4).toL (arg w 6) (arg w 7) (arg w 8)else []
noncomputable def as8(X:Nat→List Val→Val)(w:List Val):Val:=if R8 (arg w 5).toI (arg w 6).toS (arg w 7).toI (arg w 8).toI≠0∨(arg w 5).toI≠1 then .vl []else if(arg w 0).toI=3 then .vl (seR (arg w 3) (arg w 4).toL (arg w 6) (arg w 7) (arg w 8))else
 if ao5 w≠0 then .vl []else X 490 [.vl (tpL (arg w 4).toL (ofV (arg w 0).toI (arg w 1).toI (arg w 2).toI (arg w 3).toI (arg w 7)) (arg w 6) (arg w 8) (ofV (arg w 0).toI (arg w 1).toI (arg w 2).toI (arg w 3).toI (arg w 7)).length)]
def dk2:Val→Bool
 | .vs _=>true
 |_=>false
def at2(m:Val)(P:List Val):Nat→Val
 |0=>m
 |i+1=> .vl ((at2 m P i).toL.eraseIdx (a58 (at2 m P i).toL (a23 (atV P i))))
def an6(m:Val)(R:List Val):Nat→Val
 |0=>m
 |i+1=>bif aU0 (an6 m R i).toL (a23 (atV R i))then .vl ((an6 m R i).toL.set (a58 (an6 m R i).toL (a23 (atV R i))) (a30 (atV R i)))else .vl ((an6 m R i).toL++[a30 (atV R i)])
noncomputable def aU1(X:Nat→List Val→Val)(w:List Val):Val:=if ao5 w≠0 then arg w 4 else an6 (at2 (arg w 4) (ay5 w) (ay5 w).length) (as8 X w).toL (as8 X w).toL.length
def aC6(r:Val):Val:= .vl [Q9 r 0,Q9 r 1,Q9 r 2,Q9 r 3]
def evA(a b c d m r:Val):List Val:=[a,b,c,d,m,Q9 r 0,Q9 r 1,Q9 r 2,Q9 r 3]
noncomputable def ao6(X:Nat→List Val→Val)(a b c d:Val)(ops:List Val):Nat→Int×Val×List Val
 |0=>(0,.vl [],[])
 |i+1=>if ao5 (evA a b c d (ao6 X a b c d ops i).2.1 (atV ops i))≠0 then((ao6 X a b c d ops i).1,aU1 X (evA a b c d (ao6 X a b c d ops i).2.1 (atV ops i)),(ao6 X a b c d ops i).2.2)
  else(arI .add .i64 (ao6 X a b c d ops i).1 (ofV a.toI b.toI c.toI d.toI (Q9 (atV ops i) 2)).length,aU1 X (evA a b c d (ao6 X a b c d ops i).2.1 (atV ops i)),(ao6 X a b c d ops i).2.2++[aC6 (atV ops i)])
def b91(l:List Val):Nat→Int
 |0=>0
 |k+1=>arI .add .i64 (b91 l k) (ci (atV l k) 3)
def ab8(T:List Val)(j:Nat):List Val:=Y2 (fun i=>[aC6 (atV T (T.length-1-i))]) j
noncomputable def ofM(X:Nat→List Val→Val)(a b c d:Val)(U:List Val):Nat→Val
 |0=> .vl []
 |i+1=>aU1 X (evA a b c d (ofM X a b c d U i) (atV U i))
noncomputable def ofE(X:Nat→List Val→Val)(a b c d:Val)(U:List Val)(i:Nat):Int:=ao5 (evA a b c d (ofM X a b c d U i) (atV U i))
noncomputable def ofK(X:Nat→List Val→Val)(a b c d:Val)(U:List Val):Nat:=((List.range U.length).find? fun i=>decide (ofE X a b c d U i≠0)).getD U.length
noncomputable def ofR(X:Nat→List Val→Val)(a b c d:Val)(U:List Val):Nat×List Val:=if ofK X a b c d U+1<U.length then(1,[.vi (ofE X a b c d U (ofK X a b c d U)),.vi (ofE X a b c d U (ofK X a b c d U)),.vi (ofK X a b c d U+1:Nat),ofM X a b c d U (ofK X a b c d U+1)])
 else(0,[.vi 0,if ofK X a b c d U<U.length then .vi (ofE X a b c d U (ofK X a b c d U))else .vi 0,.vi U.length,ofM X a b c d U U.length])
def isVi:Val→Bool
 | .vi _=>true
 |_=>false
def opOk:Val→Bool
 | .vl [.vi _,.vs _,.vi _,.vi v]=>decide (-9223372036854775808≤v)&&decide (v<9223372036854775808)
 |_=>false
def opsOk:Val→Bool
 | .vl l=>l.all opOk
 |_=>false
noncomputable def FT(X:Nat→List Val→Val):Nat→List Val→Val:=fun i a=>match i with
  |700=> .vb (T2 (arg a 0).toI (arg a 1).toI (arg a 2).toI (arg a 3).toI)
  |701=> .vi (R8 (arg a 0).toI (arg a 1).toS (arg a 2).toI (arg a 3).toI)
  |702=> .vi (cd6 (arg a 0).toL)
  |703=> .vi (aV6 (arg a 0).toL)
  |704=> .vl (ofV (arg a 0).toI (arg a 1).toI (arg a 2).toI (arg a 3).toI (arg a 4))
  |753=>W4 (0,[.vi (aF9 (arg a 3).toI (arg a 4).toI (arg a 5).toI),.vi ((arg a 1).toI+aF9 (arg a 3).toI (arg a 4).toI (arg a 5).toI*Z9 (arg a 3).toI (arg a 4).toI (arg a 5).toI),.vl (Y2 (bb3 (arg a 1).toI (Z9 (arg a 3).toI (arg a 4).toI (arg a 5).toI) (arg a 4).toI) (aF9 (arg a 3).toI (arg a 4).toI (arg a 5).toI))])
  |705=> .vl [.vl (jR (arg a 0).toL)]
  |706=> .vi (jE (arg a 0).toL)
  |752=>W4 (0,[.vi (jC (arg a 11).toL).length,.vi (jT (arg a 11).toL).length,.vi (arg a 11).toL.length]++jS (arg a 11).toL (arg a 11).toL.length++[.vl (jC (arg a 11).toL),.vl (jT (arg a 11).toL)])
  |707=> .vl [.vl (bS2 (arg a 0) (arg a 1) (arg a 2) (arg a 3) (arg a 4))]
  |708=> .vi (jE (pR (arg a 0) (arg a 1) (arg a 2) (arg a 3) (arg a 4)))
  |715=> .vl (a81 spanV (arg a 0).toL)
  |716=> .vb (decide ((arg a 0).toL.map Q7).Nodup)
  |721=> .vl [.vl (cd7 (arg a 0).toL (.vl [arg a 1,arg a 2,arg a 3]))]
  |722=> .vb (aU0 (arg a 0).toL (.vl [arg a 1,arg a 2,arg a 3]))
  |723=> .vl (a81 spanV (spL (arg a 0).toL (arg a 1).toS))
  |750=>W4 (0,[.vi (arg a 2).toL.length,.vl ((arg a 2).toL.map a30)])
  |757=>W4 (0,[.vi (spL (arg a 3).toL (arg a 2).toS).length,.vl (spL (arg a 3).toL (arg a 2).toS)])
  |711=> .vb (!(List.range (arg a 1).toL.length).any (bw9 (arg a 0).toI (arg a 1).toL))
  |754=>W4 (aB6 (.vb false) (fun k=>[.vb false,.vi k]) (bw9 (arg a 2).toI (arg a 5).toL) (arg a 5).toL.length)
  |713=> .vb (decide ((arg a 1).toI=((arg a 0).toL.length:Int))&&decide (0≤(arg a 2).toI)&&decide ((arg a 2).toI≤((arg a 0).toL.length:Int))&&decide ((arg a 0).toL.length≤24))
  |714=> .vl (d78 (arg a 0).toL (arg a 2).toI.toNat (arg a 3) (arg a 4))
  |717=> .vl (bif ae1 (arg a 0).toI (arg a 1).toI (arg a 2).toL then siJ (arg a 0) (arg a 1) (arg a 2).toL else [])
  |718=> .vl [.vl (bif ae1 (arg a 0).toI (arg a 1).toI (arg a 2).toL then [(siN (arg a 0) (arg a 1) (arg a 2).toL).1,(siN (arg a 0) (arg a 1) (arg a 2).toL).2]else [.vi 0,.vi 0])]
  |719=> .vl (bif ae1 (arg a 0).toI (arg a 1).toI (arg a 2).toL then d78 (siA (arg a 0) (arg a 1) (arg a 2).toL) (bx0 (arg a 0) (arg a 1) (arg a 2).toL) (siN (arg a 0) (arg a 1) (arg a 2).toL).1 (siN (arg a 0) (arg a 1) (arg a 2).toL).2 else [])
  |720=> .vi (bif ae1 (arg a 0).toI (arg a 1).toI (arg a 2).toL then 0 else 2)
  |755=>W4 (0,[.vi (jnL (arg a 13).toL (arg a 3).toI (arg a 4).toI).length,.vi (rsL (arg a 13).toL (arg a 3).toI (arg a 4).toI).length,.vi (arg a 13).toL.length,(nwV (arg a 13).toL (arg a 3) (arg a 4) (arg a 13).toL.length).1,(nwV (arg a 13).toL (arg a 3) (arg a 4) (arg a 13).toL.length).2,.vl (jnL (arg a 13).toL (arg a 3).toI (arg a 4).toI),.vl (rsL (arg a 13).toL (arg a 3).toI (arg a 4).toI)])
  |756=>W4 (0,[.vi (bsV (arg a 3).toL (arg a 4).toI (arg a 3).toL.length 0 (arg a 3).toL.length),.vi (bsV (arg a 3).toL (arg a 4).toI (arg a 3).toL.length 0 (arg a 3).toL.length)])
  |724=> .vl ((jnV (arg a 0) (arg a 1).toL (arg a 2) (arg a 3)).map (pnR (arg a 2)))
  |725=> .vl [.vl (arg a 2::nwP (arg a 0) (arg a 1).toL (arg a 2) (arg a 3))]
  |758=>W4 (0,[.vi (arg a 10).toL.length,.vi (arg a 10).toL.length,.vl ((arg a 10).toL.map (pnR (arg a 4)))])
  |727=> .vl (seG (arg a 0) (arg a 1).toL (arg a 2) (arg a 3) (arg a 4))
  |728=> .vl (seR (arg a 0) (arg a 1).toL (arg a 2) (arg a 3) (arg a 4))
  |729=> .vi (seE (arg a 0) (arg a 1).toL (arg a 2) (arg a 3) (arg a 4))
  |759=>W4 (0,[.vi (goV (arg a 14).toL (arg a 10) (arg a 11) (arg a 12)).length,.vi ((arg a 4).toL++(arg a 14).toL.map (alR (arg a 9).toL)).length,.vi (arg a 14).toL.length,.vl (goV (arg a 14).toL (arg a 10) (arg a 11) (arg a 12)),.vl ((arg a 4).toL++(arg a 14).toL.map (alR (arg a 9).toL))])
  |730=> .vl (ay5 a)
  |731=>as8 X a
  |732=> .vi (ao5 a)
  |760=>W4 (0,[.vi (tpK (arg a 8).toL (arg a 14).toL (arg a 10) (arg a 12)),tpX (arg a 8).toL (arg a 14).toL (arg a 10) (arg a 12) (arg a 1),.vi (tpK (arg a 8).toL (arg a 14).toL (arg a 10) (arg a 12)),.vl (tpL (arg a 8).toL (arg a 14).toL (arg a 10) (arg a 12) (tpK (arg a 8).toL (arg a 14).toL (arg a 10) (arg a 12)))])
  |739=> .vb ((!decide ((arg a 0).toI=3)||decide ((arg a 1).toL.length≤24))&&dk2 (arg a 2))
  |733=>aU1 X a
  |761=>W4 (0,[.vi (arg a 10).toL.length,at2 (arg a 1) (arg a 10).toL (arg a 10).toL.length])
  |762=>W4 (0,[.vi (arg a 8).toL.length,an6 (arg a 1) (arg a 8).toL (arg a 8).toL.length])
  |709=> .vi (al0 (arg a 0).toI (arg a 1).toI)
  |712=> .vi (bS1 (arg a 0).toI (arg a 1).toI (arg a 2).toI (arg a 3).toI)
  |734=> .vb (!(List.range (min (arg a 0).toL.length 100)).any (fun i=>cl1 (atV (arg a 0).toL i))&&decide (((arg a 0).toL.length:Int)≤(arg a 1).toI))
  |765=>W4 (aB6 (.vb false) (fun k=>[.vb false,.vi k]) (fun i=>cl1 (atV (arg a 4).toL i)) (min (arg a 4).toL.length 100))
  |735=> .vb (as7 (arg a 0).toI (arg a 1).toI (arg a 2).toI (arg a 3).toI)
  |736=> .vb (ak9 (arg a 0).toI (arg a 1).toI (arg a 2).toI (arg a 3).toI)
  |737=> .vi (b90 (arg a 0).toI (arg a 1).toI)
  |738=> .vb (isVi (arg a 0)&&(isVi (arg a 1)&&(isVi (arg a 2)&&(isVi (arg a 3)&&(isVi (arg a 5)&&opsOk (arg a 4))))))
  |766=>W4 (0,[.vb false,.vi (ao6 X (arg a 10) (arg a 11) (arg a 12) (arg a 13) (arg a 8).toL (arg a 8).toL.length).2.2.length,.vi (ao6 X (arg a 10) (arg a 11) (arg a 12) (arg a 13) (arg a 8).toL (arg a 8).toL.length).1,.vi (arg a 8).toL.length,(ao6 X (arg a 10) (arg a 11) (arg a 12) (arg a 13) (arg a 8).toL (arg a 8).toL.length).2.1,.vl (ao6 X (arg a 10) (arg a 11) (arg a 12) (arg a 13) (arg a 8).toL (arg a 8).toL.length).2.2])
  |767=>W4 (0,[arg a 0,.vi (arg a 22).toL.length])
  |768=>W4 (0,[arg a 0,.vi (arg a 20).toL.length])
  |769=>W4 (0,[arg a 0,.vi (b91 (arg a 12).toL (arg a 12).toL.length),.vi (arg a 12).toL.length])
  |770=>W4 (0,[.vi (ab8 (arg a 8).toL ((arg a 8).toL.length-(arg a 11).toI.toNat)).length,.vi (((arg a 8).toL.length:Int)-1-(((arg a 8).toL.length-(arg a 11).toI.toNat:Nat):Int)),.vl (ab8 (arg a 8).toL ((arg a 8).toL.length-(arg a 11).toI.toNat))])
  |771=>W4 (ofR X (arg a 4) (arg a 5) (arg a 6) (arg a 7) (arg a 10).toL)
  |751=>W4 (0,[.vi (arg a 5).toL.length,.vi (aD5 (arg a 5).toL).1,.vi (aD5 (arg a 5).toL).2])
  |_=>X i a
section
variable{X:Nat→List Val→Val}{ω:Opq}(hf: ∀i a,ω.f i a=FT X i a)
include hf
theorem t_numSum(hn:(ω.w 0).toL.length≤1000000):Q1 T_numSum ω=some (0,[FT X 702 [ω.w 0],FT X 703 [ω.w 0]]):=by
 have e0:den ω ah1=W4 (0,[.vi (ω.w 0).toL.length,.vi (aD5 (ω.w 0).toL).1,.vi (aD5 (ω.w 0).toL).2]):=by
  show ω.f 751 [.vi 0,.vi 0,.vi 0,.vi 0,.vi (ω.w 0).toL.length,ω.w 0,.vi (ω.w 0).toL.length]=_
  rw[hf];rfl
 unfold T_numSum
 refine Q8 (r:=(0,[.vi (ω.w 0).toL.length,.vi (aD5 (ω.w 0).toL).1,.vi (aD5 (ω.w 0).toL).2])) ?_ e0 ?_
 ·show R9 _ [.vi ((0:Nat):Int),.vi 0,.vi 0]=_
  refine Z6 (st:=fun k=>[.vi k,.vi (ao4 (fun k=>ci (atV (ω.w 0).toL k) 0) k).1,.vi (ao4 (fun k=>ci (atV (ω.w 0).toL k) 0) k).2]) (n:=(ω.w 0).toL.length) (fun k hk=> ?_) ?_
  ·have p1:(k:Int)<((ω.w 0).toL.length:Int):=by omega
   have p2:(0:Int)≤(k:Int):=by omega
   have p3:=a03 hk (by omega)
   have p4:(R6 (ω.w 0).toL (k:Int) (0:Int)).toI=ci (atV (ω.w 0).toL k) 0:=rfl
   unfold dj4
   simp only[ao4]
   generalize (ao4 (fun k=>ci (atV (ω.w 0).toL k) 0) k).1=s
   generalize (ao4 (fun k=>ci (atV (ω.w 0).toL k) 0) k).2=o
   simp[Q1,Q4,den,dB,X5,Q3,p1,p2,p3,p4]
   generalize ci (atV (ω.w 0).toL k) 0=x
   generalize arI .add .i64 s x=t
   rcases Int.lt_or_le s 0 with h1|h1<;>rcases Int.lt_or_le x 0 with h2|h2<;>rcases Int.lt_or_le t 0 with h3|h3<;>simp[h1,h2,h3,E7.2,D8.2]
  ·unfold dj4
   simp[Q1,Q4,den,dB,X5,Q3,aD5]
 ·show Q1 (.ite _ _ _) ω=_
  have e1: ∀k:Int,(R6 (den ω ah1).toL 1 k)=Q9 (.vl [.vi (ω.w 0).toL.length,.vi (aD5 (ω.w 0).toL).1,.vi (aD5 (ω.w 0).toL).2]) k.toNat:=fun k=>by rw[e0];rfl
  by_cases h:(aD5 (ω.w 0).toL).2=0
  ·refine T1 ?_ ?_
   ·show(!decide ((R6 (den ω ah1).toL 1 2).toI=0))=false
    rw[e1];show(!decide ((aD5 (ω.w 0).toL).2=0))=false;rw[h];rfl
   ·show some (0,[R6 (den ω ah1).toL 1 1,Val.vi 0])=some (0,[Val.vi (cd6 (ω.w 0).toL),.vi (aV6 (ω.w 0).toL)])
    rw[e1,cd6,aV6,if_pos h,if_pos h];rfl
  ·refine T7 ?_ ?_
   ·show(!decide ((R6 (den ω ah1).toL 1 2).toI=0))=true
    rw[e1];show(!decide ((aD5 (ω.w 0).toL).2=0))=true;rw[decide_eq_false h];rfl
   ·show some (0,[Val.vi 0,Val.vi 30])=some (0,[Val.vi (cd6 (ω.w 0).toL),.vi (aV6 (ω.w 0).toL)])
    rw[cd6,aV6,if_neg h,if_neg h]
omit hf in
theorem t_spanP:Q1 T_spanP ω=some (0,[FT X 712 [ω.w 0,ω.w 1,ω.w 2,ω.w 3]]):=by
 show Q1 T_spanP ω=some (0,[Val.vi (bS1 (ω.w 0).toI (ω.w 1).toI (ω.w 2).toI (ω.w 3).toI)])
 unfold T_spanP b86 b87 bS1
 simp only[Q1,Q4,den,dB,X5,a04,an5,ad2,R0,decide_eq_true_eq]
 split<;>(try split)<;>(try split)<;>(try split)<;>first|rfl|omega
omit hf in
theorem t_aBlank:Q1 T_aBlank ω=some (0,[FT X 736 [ω.w 0,ω.w 1,ω.w 2,ω.w 3]]):=rfl
omit hf in
theorem t_pick:Q1 T_pick ω=some (0,[FT X 737 [ω.w 0,ω.w 1]]):=by
 show Q1 T_pick ω=some (0,[Val.vi (b90 (ω.w 0).toI (ω.w 1).toI)])
 unfold T_pick b90
 by_cases h:(ω.w 1).toI≤0
 ·rw[if_pos h];exact T7 (decide_eq_true h) rfl
 ·rw[if_neg h]
  refine T1 (decide_eq_false h) (Q6 ?_ rfl)
  show(!decide ((ω.w 1).toI=0))=true
  rw[decide_eq_false (by omega)];rfl
omit hf in
theorem t_aRight:Q1 T_aRight ω=some (0,[FT X 735 [ω.w 0,ω.w 1,ω.w 2,ω.w 3]]):=by
 show Q1 T_aRight ω=some (0,[Val.vb (as7 (ω.w 0).toI (ω.w 1).toI (ω.w 2).toI (ω.w 3).toI)])
 unfold T_aRight aH8 b89 as7 ak9
 generalize ha:(ω.w 0).toI=a
 generalize hb:(ω.w 1).toI=b
 generalize hc:(ω.w 2).toI=c
 generalize hd:(ω.w 3).toI=d
 simp[Q1,Q4,den,dB,X5,ha,hb,hc,hd]
 by_cases h1:a=0∧b=0∧c=0∧d=0
 ·simp[h1]
 ·by_cases h2:0<a<;>by_cases h3:c≤d<;>by_cases h4:1<a<;>simp[h1,h2,h3,h4]
  obtain rfl:a=1:=by omega
  simp[Bool.and_assoc]
omit hf in
theorem t_wRight:Q1 T_wRight ω=some (0,[FT X 700 [ω.w 0,ω.w 1,ω.w 2,ω.w 3]]):=by
 show Q1 T_wRight ω=some (0,[Val.vb (T2 (ω.w 0).toI (ω.w 1).toI (ω.w 2).toI (ω.w 3).toI)])
 unfold T_wRight b79 b80 b81 b82 b83 b84 b85 T2
 generalize ha:(ω.w 0).toI=a
 generalize hb:(ω.w 1).toI=b
 generalize hc:(ω.w 2).toI=c
 generalize hd:(ω.w 3).toI=d
 by_cases k1:a=1
 ·by_cases q1:b<1
  ·simp[Q1,Q4,den,dB,X5,ha,hb,hc,hd,k1,q1,D8.2 q1]
  by_cases q2:1048576<b
  ·simp[Q1,Q4,den,dB,X5,ha,hb,hc,hd,k1,q1,q2,D8.2 q2]
  ·simp[Q1,Q4,den,dB,X5,ha,hb,hc,hd,k1,q1,q2,show 1≤b by omega,show b≤1048576 by omega]
 by_cases k2:a=2
 ·by_cases q1:b<1
  ·simp[Q1,Q4,den,dB,X5,ha,hb,hc,hd,k1,k2,q1];omega
  by_cases q2:1048576<b
  ·simp[Q1,Q4,den,dB,X5,ha,hb,hc,hd,k1,k2,q1,q2];omega
  by_cases q3:c<1
  ·simp[Q1,Q4,den,dB,X5,ha,hb,hc,hd,k1,k2,q1,q2,q3];omega
  by_cases q4:1048576<c
  ·simp[Q1,Q4,den,dB,X5,ha,hb,hc,hd,k1,k2,q1,q2,q3,q4];omega
  have m1:arI .rem .i64 b c=b % c:=by
   exact O6 (by omega)
  have m2:arI .quo .i64 b c=b/c:=by
   show IntKind.i64.wrap (b.tdiv c)=b/c
   have:b.tdiv c=b/c:=Int.tdiv_eq_ediv_of_nonneg (by omega)
   have h1:0≤b/c:=Int.ediv_nonneg (by omega) (by omega)
   have h2:b/c≤b:=Int.ediv_le_self _ (by omega)
   rw[this,cl0 (by omega) (by omega)]
  have c0: ¬c=0:=by omega
  have e1:1≤b:=by omega
  have e2:b≤1048576:=by omega
  have e3:1≤c:=by omega
  have e4:c≤1048576:=by omega
  by_cases q5:d=0<;>by_cases q6:b % c=0<;>simp[Q1,Q4,den,dB,X5,ha,hb,hc,hd,k2,q1,q2,q3,q4,q5,q6,m1,m2,c0,e1,e2,e3,e4]
 ·by_cases k3:a=3
  ·by_cases q1:d<1
   ·simp[Q1,Q4,den,dB,X5,ha,hb,hc,hd,k1,k2,k3,q1,D8.2 q1]
   by_cases q2:1048576<d
   ·simp[Q1,Q4,den,dB,X5,ha,hb,hc,hd,k1,k2,k3,q1,q2,D8.2 q2]
   ·simp[Q1,Q4,den,dB,X5,ha,hb,hc,hd,k1,k2,k3,q1,q2,show 1≤d by omega,show d≤1048576 by omega]
  ·simp[Q1,Q4,den,dB,X5,ha,hb,hc,hd,k1,k2,k3]
omit hf in
theorem t_evRight0(h:(ω.w 0).toI<1∨2<(ω.w 0).toI):Q1 T_evRight0 ω=some (0,[FT X 701 [ω.w 0,ω.w 1,ω.w 2,ω.w 3]]):=by
 show Q1 T_evRight0 ω=some (0,[Val.vi (R8 (ω.w 0).toI (ω.w 1).toS (ω.w 2).toI (ω.w 3).toI)])
 unfold T_evRight0 R8
 rw[if_pos h]
 by_cases h1:(ω.w 0).toI<1
 ·exact T7 (decide_eq_true h1) rfl
 ·exact T1 (decide_eq_false h1) (T7 (decide_eq_true (show(2:Int)<(ω.w 0).toI by omega)) rfl)
omit hf in
theorem t_evRight1(h:(ω.w 0).toI=1):Q1 T_evRight1 ω=some (0,[FT X 701 [ω.w 0,ω.w 1,ω.w 2,ω.w 3]]):=by
 show Q1 T_evRight1 ω=some (0,[Val.vi (R8 (ω.w 0).toI (ω.w 1).toS (ω.w 2).toI (ω.w 3).toI)])
 rw[h]
 unfold T_evRight1 R8 U8
 generalize hk:(ω.w 1).toS=k
 generalize ht:(ω.w 2).toI=t
 by_cases k0:k=[]
 ·simp[Q1,Q4,den,dB,X5,hk,ht,k0]
 ·by_cases k1:32<k.length
  ·have: ¬((k.length:Int)≤32):=by omega
   simp[Q1,Q4,den,dB,X5,hk,ht,k0,k1,this]
  ·have:(k.length:Int)≤32:=by omega
   by_cases t1:t< -1099511627776<;>by_cases t2:1099511627776<t<;>simp[Q1,Q4,den,dB,X5,hk,ht,k0,k1,this,t1,t2,D8.2,E7.1]<;>omega
omit hf in
theorem t_evRight2(h:(ω.w 0).toI=2):Q1 T_evRight2 ω=some (0,[FT X 701 [ω.w 0,ω.w 1,ω.w 2,ω.w 3]]):=by
 show Q1 T_evRight2 ω=some (0,[Val.vi (R8 (ω.w 0).toI (ω.w 1).toS (ω.w 2).toI (ω.w 3).toI)])
 rw[h]
 unfold T_evRight2 R8 U8
 generalize hk:(ω.w 1).toS=k
 generalize ht:(ω.w 2).toI=t
 generalize hv:(ω.w 3).toI=v
 by_cases k0:k=[]<;>by_cases k1:v=0<;>simp[Q1,Q4,den,dB,X5,hk,ht,hv,k0,k1]
 by_cases t1:t< -1099511627776<;>by_cases t2:1099511627776<t<;>simp[t1,t2,D8.2,E7.1]<;>omega
theorem t_few:Q1 T_few ω=some (0,[FT X 734 [ω.w 0,ω.w 1]]):=by
 have hF:FT X 734 [ω.w 0,ω.w 1]= .vb (!(List.range (min (ω.w 0).toL.length 100)).any (fun i=>cl1 (atV (ω.w 0).toL i))&&decide (((ω.w 0).toL.length:Int)≤(ω.w 1).toI)):=rfl
 have hF2: ∀a b c d:Val,FT X 765 [a,b,c,d,ω.w 0,ω.w 1]=W4 (aB6 (.vb false) (fun k=>[.vb false,.vi k]) (fun i=>cl1 (atV (ω.w 0).toL i)) (min (ω.w 0).toL.length 100)):=fun _ _ _ _=>rfl
 have h0:=aB7 (x:= .vb false) (px:=fun k=>[.vb false,.vi k]) (bad:=fun i=>cl1 (atV (ω.w 0).toL i)) (n:=min (ω.w 0).toL.length 100)
 have e0:ω.f 765 [.vb false,.vi 0,.vi 0,.vi (ω.w 0).toL.length,ω.w 0,ω.w 1]=W4 (aB6 (.vb false) (fun k=>[.vb false,.vi k]) (fun i=>cl1 (atV (ω.w 0).toL i)) (min (ω.w 0).toL.length 100)):=by rw[hf];rfl
 rw[hF]
 unfold T_few
 refine Q8 (r:=aB6 (.vb false) (fun k=>[.vb false,.vi k]) (fun i=>cl1 (atV (ω.w 0).toL i)) (min (ω.w 0).toL.length 100)) ?_ e0 ?_
 ·show R9 _ [.vb false,.vi 0]=_
  refine aQ7 (fun i hi hb=> ?_) (fun i hi hb=> ?_) ?_
  ·have p1:(i:Int)<((ω.w 0).toL.length:Int):=by omega
   have p0:(i:Int)<100:=by omega
   have p2:(0:Int)≤(i:Int):=by omega
   have p3:=a03 (n:=100) (i:=i) (by omega) (by omega)
   have p4:(R6 (ω.w 0).toL (i:Int) (1:Int)).toS=(Q9 (atV (ω.w 0).toL i) 1).toS:=rfl
   have p5: ¬(50:Int)<((Q9 (atV (ω.w 0).toL i) 1).toS.length:Int):=by
    have:=of_decide_eq_false hb;omega
   unfold dd7
   simp[Q1,Q4,den,dB,X5,Q3,p0,p1,p2,p3,p4,p5]
  ·have p1:(i:Int)<((ω.w 0).toL.length:Int):=by omega
   have p0:(i:Int)<100:=by omega
   have p2:(0:Int)≤(i:Int):=by omega
   have p4:(R6 (ω.w 0).toL (i:Int) (1:Int)).toS=(Q9 (atV (ω.w 0).toL i) 1).toS:=rfl
   have p5:(50:Int)<((Q9 (atV (ω.w 0).toL i) 1).toS.length:Int):=by
    have:=of_decide_eq_true hb;omega
   unfold dd7
   simp[Q1,Q4,den,dB,X5,Q3,p0,p1,p2,p4,p5]
  ·unfold dd7
   rcases i4 (ω.w 0).toL.length 100 with q|q
   ·rw[x9 (by omega)]
    simp[Q1,Q4,den,dB,X5,Q3]
   ·rw[C5 q]
    have:(100:Int)<((ω.w 0).toL.length:Int)∨ ¬(100:Int)<((ω.w 0).toL.length:Int):=by omega
    rcases this with t|t<;>simp[Q1,Q4,den,dB,X5,Q3,t]
 ·rw[h0]at e0
  rw[h0]
  cases hb:(List.range (min (ω.w 0).toL.length 100)).any (fun i=>cl1 (atV (ω.w 0).toL i))with
  |true=>
   rw[hb]at e0
   show some (0,[R6 (ω.f 765 [.vb false,.vi 0,.vi 0,.vi (ω.w 0).toL.length,ω.w 0,ω.w 1]).toL 1 0])=_
   rw[e0];rfl
  |false=>rfl
omit hf in
theorem t_down(h1:1≤(ω.w 1).toI)(h2:(ω.w 1).toI≤1048576)(h3: -1099511627776≤(ω.w 0).toI)(h4:(ω.w 0).toI≤1099511627776):Q1 T_down ω=some (0,[FT X 709 [ω.w 0,ω.w 1],.vi 0]):=by
 show Q1 T_down ω=some (0,[Val.vi (al0 (ω.w 0).toI (ω.w 1).toI),Val.vi 0])
 unfold T_down bJ1 bJ0 cc7 bl8 bl7 al0
 generalize ha:(ω.w 0).toI=n at h3 h4
 generalize hb:(ω.w 1).toI=d at h1 h2
 have q0:=K7 n (show d≠0 by omega)
 have q1:=K8 n (show 0<d by omega)
 have d0: ¬d≤0:=by omega
 have d1: ¬d=0:=by omega
 have hr:(arI .rem .i64 n d<0∧arI .add .i64 (arI .rem .i64 n d) d=n % d)∨(0≤arI .rem .i64 n d∧arI .rem .i64 n d=n % d):=by
  show(n.tmod d<0∧IntKind.i64.wrap (n.tmod d+d)=n % d)∨(0≤n.tmod d∧n.tmod d=n % d)
  have t1:n.tmod d=n-d*n.tdiv d:=Int.tmod_def n d
  have t2:=Int.emod_def n d
  by_cases hn:0≤n
  ·right
   have:n.tmod d=n % d:=O6 hn
   omega
  ·have t3:n.tmod d= -((-n) % d):=by
    rw[show n= -(-n) by omega,Int.neg_tmod,O6 (by omega)];simp
   have t4:(-n) % d=if n % d=0 then 0 else d-n % d:=by
    rw[Int.neg_emod]
    split<;>split<;>simp_all [Int.dvd_iff_emod_eq_zero]<;>omega
   by_cases z:n % d=0
   ·right;rw[t3,t4,if_pos z];omega
   ·left;rw[t3,t4,if_neg z]
    refine⟨by omega,?_⟩
    rw[show-(d-n % d)+d=n % d by omega,cl0 (by omega) (by omega)]
 have hs:arI .sub .i64 n (n % d)=n-n % d:=aF8 (by omega) (by omega)
 rcases hr with⟨r1,r2⟩|⟨r1,r2⟩
 ·by_cases z:0≤n
  ·simp[Q1,Q4,den,dB,X5,ha,hb,d0,d1,r1,r2,hs,q0,z]
  ·have: ¬0≤n-n % d:=by omega
   simp[Q1,Q4,den,dB,X5,ha,hb,d0,d1,r1,r2,hs,q0,z,this]
   omega
 ·have r3: ¬arI .rem .i64 n d<0:=by omega
  rw[r2]at r3
  by_cases z:0≤n
  ·simp[Q1,Q4,den,dB,X5,ha,hb,d0,d1,r2,r3,hs,q0,z]
  ·have: ¬0≤n-n % d:=by omega
   simp[Q1,Q4,den,dB,X5,ha,hb,d0,d1,r2,r3,hs,q0,z,this]
   omega
end
end Go.Ev.S9
