import Derived.Test.YtpmabjilbokleaaGreatE1
import Derived.Test.YtpmabjilbokleaaGreatEM1
set_option linter.unusedSimpArgs false
set_option linter.unusedVariables false
namespace Go.Ev.S9
open Go Go.Ev
def LM:SX:= ze (.va 0) 1
def KB:SX:= zs (.va 1) (.ci 1)
def Qp:SX:= zt (.va 1) 1048576
def NO:SX:= .op (.cmp .eql) [.va 1,.va 1]
def Kk:SX:= ze (.va 2) 0
def QI:SX:= ze (.va 3) 0
def Rm:SX:= ze (.va 0) 3
def T_wRight:VT:= .ite (LM) (.ite (KB) (.ret 0 [.cb false]) (.ite (Qp) (.ret 0 [.cb false]) (.ret 0 [zn LM (zn NO (zn Kk QI))]))) (.ite (ze (.va 0) 2) (.ite (KB) (.ret 0 [.cb false]) (.ite (Qp) (.ret 0 [.cb false]) (.ite (zs (.va 2) (.ci 1)) (.ret 0 [.cb false]) (.ite (zt (.va 2) 1048576) (.ret 0 [.cb false]) (.ite (zn NO (zn (.op (.cmp .eql) [.va 2,.va 2]) QI)) (.need (.op (.cmp .neq) [.va 2,.ci 0]) (.ite (ze (.op (.ar .rem .i64) [.va 1,.va 2]) 0) (.ret 0 [zb (.op (.ar .quo .i64) [.va 1,.va 2]) 16]) (.ret 0 [.cb false]))) (.ret 0 [.cb false])))))) (.ite (Rm) (.ite (zs (.va 3) (.ci 1)) (.ret 0 [.cb false]) (.ite (zt (.va 3) 1048576) (.ret 0 [.cb false]) (.ret 0 [zn Rm (zn (ze (.va 1) 0) (zn Kk (.op (.cmp .eql) [.va 3,.va 3])))]))) (.ret 0 [.cb false])))
def T_evRight0:VT:= .ite (zs (.va 0) (.ci 1)) (.ret 0 [.ci 80]) (.ite (zt (.va 0) 2) (.ret 0 [.ci 80]) (.bad))
def T_evRight1:VT:= .ite (.op (.scmp .neq) [.va 1,.cs []]) (.ite (.op .not [zb (.op .slen [.va 1]) 32]) (.ret 0 [.ci 60]) (.ite (zs (.va 2) (.ci (-1099511627776))) (.ret 0 [.ci 61]) (.ite (zt (.va 2) 1099511627776) (.ret 0 [.ci 61]) (.ret 0 [.ci 0])))) (.ret 0 [.ci 60])
def T_evRight2:VT:= .ite (.op .not [zn (ze (.ci 2) 2) (zn (.op (.scmp .eql) [.va 1,.cs []]) (zn (.op (.cmp .eql) [.va 2,.va 2]) (ze (.va 3) 0)))]) (.ret 0 [.ci 60]) (.ite (zs (.va 2) (.ci (-1099511627776))) (.ret 0 [.ci 61]) (.ite (zt (.va 2) 1099511627776) (.ret 0 [.ci 61]) (.ret 0 [.ci 0])))
def uS:SX:= .app 751 [.ci 0,.ci 0,.ci 0,.ci 0,zl 0,.va 0,zl 0]
def Ra:VT:= .ite (zs (.va 2000) (zl 0)) (.need (zp (.va 2000)) (.ite (.op (.cmp .geq) [.va 2001,.ci 0]) (.ite (.op (.cmp .geq) [zg 0 2000 0,.ci 0]) (.ite (zs (za (.va 2001) (zg 0 2000 0)) (.ci 0)) (.ret 0 [zi (.va 2000),za (.va 2001) (zg 0 2000 0),zi (.va 2002)]) (.ret 0 [zi (.va 2000),za (.va 2001) (zg 0 2000 0),.va 2002])) (.ret 0 [zi (.va 2000),za (.va 2001) (zg 0 2000 0),.va 2002])) (.ite (zs (zg 0 2000 0) (.ci 0)) (.ite (.op (.cmp .geq) [za (.va 2001) (zg 0 2000 0),.ci 0]) (.ret 0 [zi (.va 2000),za (.va 2001) (zg 0 2000 0),zm (.va 2002) (.ci 1)]) (.ret 0 [zi (.va 2000),za (.va 2001) (zg 0 2000 0),.va 2002])) (.ret 0 [zi (.va 2000),za (.va 2001) (zg 0 2000 0),.va 2002])))) (.ret 1 [.va 2000,.va 2001,.va 2002])
def T_numSum:VT:= .loop ⟨751,[.ci 0,.ci 0,.ci 0],2000,[.ci 0,zl 0,.va 0,zl 0]⟩ Ra [.ite (.op (.cmp .neq) [zo uS 2,.ci 0]) (.ret 0 [.ci 0,.ci 30]) (.ret 0 [zo uS 1,.ci 0])]
def AJ:SX:= .op (.ar .rem .i64) [.va 0,.va 1]
def CR:SX:= .op (.cmp .geq) [.va 0,.ci 0]
def Km:SX:= za AJ (.va 1)
def Ha:SX:= zm (.va 0) Km
def Et:SX:= zm (.va 0) AJ
def T_down:VT:= .ite (zb (.va 1) 0) (.ret 0 [.ci 0,.ci 2]) (.need (.op (.cmp .neq) [.va 1,.ci 0]) (.ite (zs AJ (.ci 0)) (.ite (.op .not [.op .beq [CR,.op (.cmp .geq) [Km,.ci 0]]]) (.ite (.op .not [.op .beq [.op (.cmp .geq) [Ha,.ci 0],CR]]) (.ret 0 [.ci 0,.ci 30]) (.ret 0 [Ha,.ci 0])) (.ret 0 [Ha,.ci 0])) (.ite (.op .not [.op .beq [CR,.op (.cmp .geq) [AJ,.ci 0]]]) (.ite (.op .not [.op .beq [.op (.cmp .geq) [Et,.ci 0],CR]]) (.ret 0 [.ci 0,.ci 30]) (.ret 0 [Et,.ci 0])) (.ret 0 [Et,.ci 0]))))
def wv:VT:= .ite (zs (.va 2001) (zl 1)) (.need (zp (.va 2001)) (.ite (.op .not [.op .beq [.op (.cmp .geq) [zg 1 2001 1,.ci 0],.op (.cmp .geq) [zg 1 2001 0,.ci 0]]]) (.ite (.op .not [.op .beq [.op (.cmp .geq) [zm (zg 1 2001 1) (zg 1 2001 0),.ci 0],.op (.cmp .geq) [zg 1 2001 1,.ci 0]]]) (.ite (.op (.cmp .geq) [zg 1 2001 0,zg 1 2001 1]) (.ret 2 [.cb false,.va 2001]) (.ite (zt (.va 2001) 0) (.need (zn (zp (zm (.va 2001) (.ci 1))) (zs (zm (.va 2001) (.ci 1)) (zl 1))) (.ite (.op (.cmp .gtr) [.op .lget [.va 1,zm (.va 2001) (.ci 1),.ci 1],zg 1 2001 0]) (.ret 2 [.cb false,.va 2001]) (.ret 0 [.va 2000,zi (.va 2001)]))) (.ret 0 [.va 2000,zi (.va 2001)]))) (.ite (.op (.cmp .geq) [zg 1 2001 0,zg 1 2001 1]) (.ret 2 [.cb false,.va 2001]) (.ite (zs (zm (zg 1 2001 1) (zg 1 2001 0)) (.va 0)) (.ret 2 [.cb false,.va 2001]) (.ite (zt (.va 2001) 0) (.need (zn (zp (zm (.va 2001) (.ci 1))) (zs (zm (.va 2001) (.ci 1)) (zl 1))) (.ite (.op (.cmp .gtr) [.op .lget [.va 1,zm (.va 2001) (.ci 1),.ci 1],zg 1 2001 0]) (.ret 2 [.cb false,.va 2001]) (.ret 0 [.va 2000,zi (.va 2001)]))) (.ret 0 [.va 2000,zi (.va 2001)]))))) (.ite (.op (.cmp .geq) [zg 1 2001 0,zg 1 2001 1]) (.ret 2 [.cb false,.va 2001]) (.ite (zs (zm (zg 1 2001 1) (zg 1 2001 0)) (.va 0)) (.ret 2 [.cb false,.va 2001]) (.ite (zt (.va 2001) 0) (.need (zn (zp (zm (.va 2001) (.ci 1))) (zs (zm (.va 2001) (.ci 1)) (zl 1))) (.ite (.op (.cmp .gtr) [.op .lget [.va 1,zm (.va 2001) (.ci 1),.ci 1],zg 1 2001 0]) (.ret 2 [.cb false,.va 2001]) (.ret 0 [.va 2000,zi (.va 2001)]))) (.ret 0 [.va 2000,zi (.va 2001)])))))) (.ret 1 [.va 2000,.va 2001])
def T_sRight:VT:= .loop ⟨754,[.cb false,.ci 0],2000,[.va 0,.ci 0,zl 1,.va 1,.ci 0,zl 1,.va 1,zl 1]⟩ wv [.ret 0 [.cb true],.ret 0 [zo (.app 754 [.cb false,.ci 0,.va 0,.ci 0,zl 1,.va 1,.ci 0,zl 1,.va 1,zl 1]) 0]]
def Hd:SX:= zs (.va 0) (.va 2)
def Ju:SX:= .op (.cmp .gtr) [.va 0,.va 2]
def T_spanP:VT:= .ite (zs (.va 1) (.va 3)) (.ite (Hd) (.ret 0 [.ci (-1)]) (.ite (Ju) (.ret 0 [.ci (-1)]) (.ret 0 [.ci (-1)]))) (.ite (.op (.cmp .gtr) [.va 1,.va 3]) (.ite (Hd) (.ret 0 [.ci 1]) (.ite (Ju) (.ret 0 [.ci 1]) (.ret 0 [.ci 1]))) (.ite (Hd) (.ret 0 [.ci (-1)]) (.ite (Ju) (.ret 0 [.ci 1]) (.ret 0 [.ci 0]))))
def Cv:SX:= za (zm (.app 709 [.va 4,.va 2]) (.va 1)) (.va 2)
def Db:SX:= .app 753 [.op .llen [.op .row []],Cv,.op .row [],.va 0,.va 1,.va 2,.va 3,.app 709 [.va 4,.va 2]]
def Cn:SX:= zo Db 2
def Dc:SX:= za (zm (.app 709 [.va 4,.va 1]) (.va 1)) (.va 1)
def Az:SX:= .app 753 [.op .llen [.op .row []],Dc,.op .row [],.va 0,.va 1,.va 2,.va 3,.app 709 [.va 4,.va 1]]
def Bj:SX:= zo Az 2
def Kp:VT:= .ite (.op (.cmp .leq) [.va 2001,.app 709 [.va 4,.va 2]]) (.need (zn (.op (.cmp .eql) [.va 2000,zl 2002]) (zb (zL (zc (.va 2002) (.op .row [.op .row [.va 2001,za (.va 2001) (.va 1)]]))) 1000000)) (.ite (ze (.va 0) 2) (.ret 0 [zL (zc (.va 2002) (.op .row [.op .row [.va 2001,za (.va 2001) (.va 1)]])),za (.va 2001) (.va 2),zc (.va 2002) (.op .row [.op .row [.va 2001,za (.va 2001) (.va 1)]])]) (.ret 0 [zL (zc (.va 2002) (.op .row [.op .row [.va 2001,za (.va 2001) (.va 1)]])),za (.va 2001) (.va 1),zc (.va 2002) (.op .row [.op .row [.va 2001,za (.va 2001) (.va 1)]])]))) (.ret 1 [.va 2000,.va 2001,.va 2002])
def Ln:VT:= .ite (.op (.cmp .leq) [.va 2001,.app 709 [.va 4,.va 1]]) (.need (zn (.op (.cmp .eql) [.va 2000,zl 2002]) (zb (zL (zc (.va 2002) (.op .row [.op .row [.va 2001,za (.va 2001) (.va 1)]]))) 1000000)) (.ite (ze (.va 0) 2) (.ret 0 [zL (zc (.va 2002) (.op .row [.op .row [.va 2001,za (.va 2001) (.va 1)]])),za (.va 2001) (.va 2),zc (.va 2002) (.op .row [.op .row [.va 2001,za (.va 2001) (.va 1)]])]) (.ret 0 [zL (zc (.va 2002) (.op .row [.op .row [.va 2001,za (.va 2001) (.va 1)]])),za (.va 2001) (.va 1),zc (.va 2002) (.op .row [.op .row [.va 2001,za (.va 2001) (.va 1)]])]))) (.ret 1 [.va 2000,.va 2001,.va 2002])
def T_wOf:VT:= .ite (.op .not [.app 700 [.va 0,.va 1,.va 2,.va 3]]) (.ret 0 [.op .row []]) (.ite (.op (.cmp .geq) [.va 4,.ci (-1099511627776)]) (.ite (.op .not [zb (.va 4) 1099511627776]) (.ret 0 [.op .row []]) (.ite (ze (.va 0) 3) (.ret 0 [.op .row [.op .row [.va 4,za (.va 4) (.va 3)]]]) (.ite (ze (.va 0) 2) (.need (zn (.op (.cmp .leq) [.ci 1,.va 2]) (zb (.va 2) 1048576)) (.loop ⟨753,[.op .llen [.op .row []],Cv,.op .row []],2000,[.va 0,.va 1,.va 2,.va 3,.app 709 [.va 4,.va 2]]⟩ Kp [.need (.op (.cmp .eql) [zo Db 0,zL Cn]) (.ret 0 [Cn])])) (.need (zn (.op (.cmp .leq) [.ci 1,.va 1]) (zb (.va 1) 1048576)) (.loop ⟨753,[.op .llen [.op .row []],Dc,.op .row []],2000,[.va 0,.va 1,.va 2,.va 3,.app 709 [.va 4,.va 1]]⟩ Ln [.need (.op (.cmp .eql) [zo Az 0,zL Bj]) (.ret 0 [Bj])]))))) (.ret 0 [.op .row []]))
def fY:SX:= .app 752 [.op .llen [.op .row []],.op .llen [.op .row []],.ci 0,.ci 0,.ci 0,.ci 0,.ci 0,.op .row [],.op .row [],.ci 0,zl 0,.va 0,zl 0]
def BZ:SX:= zo fY 0
def CH:SX:= zo fY 7
def li:SX:= .op .lsub [CH,.ci 0,BZ]
def CV:SX:= zo fY 1
def Cd:SX:= zo fY 8
def oH:SX:= .op .lsub [Cd,.ci 0,CV]
def HL:VT:= .ite (zs (.va 2002) (zl 0)) (.need (zp (.va 2002)) (.ite (zn (ze (zg 0 2002 0) 0) (zn (ze (zg 0 2002 1) 0) (zn (ze (zg 0 2002 2) 0) (ze (zg 0 2002 3) 0)))) (.ret 0 [.va 2000,.va 2001,zi (.va 2002),.va 2003,.va 2004,.va 2005,.va 2006,.va 2007,.va 2008]) (.need (zp (.va 2001)) (.ite (ze (.va 2001) 0) (.need (zn (.op (.cmp .eql) [.va 2000,zl 2007]) (zb (zL (zc (.va 2007) (.op .row [.op .row [zg 0 2002 0]]))) 1000000)) (.need (zn (.op (.cmp .eql) [.va 2001,zl 2008]) (zb (zL (zc (.va 2008) (.op .row [.op .row [zg 0 2002 1]]))) 1000000)) (.ret 0 [zL (zc (.va 2007) (.op .row [.op .row [zg 0 2002 0]])),zL (zc (.va 2008) (.op .row [.op .row [zg 0 2002 1]])),zi (.va 2002),zg 0 2002 0,zg 0 2002 1,.op .imin [zg 0 2002 2,zg 0 2002 2],.op .imax [zg 0 2002 3,zg 0 2002 3],zc (.va 2007) (.op .row [.op .row [zg 0 2002 0]]),zc (.va 2008) (.op .row [.op .row [zg 0 2002 1]])]))) (.need (zn (.op (.cmp .eql) [.va 2000,zl 2007]) (zb (zL (zc (.va 2007) (.op .row [.op .row [zg 0 2002 0]]))) 1000000)) (.need (zn (.op (.cmp .eql) [.va 2001,zl 2008]) (zb (zL (zc (.va 2008) (.op .row [.op .row [zg 0 2002 1]]))) 1000000)) (.ret 0 [zL (zc (.va 2007) (.op .row [.op .row [zg 0 2002 0]])),zL (zc (.va 2008) (.op .row [.op .row [zg 0 2002 1]])),zi (.va 2002),.va 2003,.va 2004,.op .imin [.va 2005,zg 0 2002 2],.op .imax [.va 2006,zg 0 2002 3],zc (.va 2007) (.op .row [.op .row [zg 0 2002 0]]),zc (.va 2008) (.op .row [.op .row [zg 0 2002 1]])]))))))) (.ret 1 [.va 2000,.va 2001,.va 2002,.va 2003,.va 2004,.va 2005,.va 2006,.va 2007,.va 2008])
def T_join:VT:= .loop ⟨752,[.op .llen [.op .row []],.op .llen [.op .row []],.ci 0,.ci 0,.ci 0,.ci 0,.ci 0,.op .row [],.op .row []],2000,[.ci 0,zl 0,.va 0,zl 0]⟩ HL [.need (zn (zn (zp BZ) (.op (.cmp .leq) [BZ,zL CH])) (zb (zL li) 1000000)) (.need (zn (zn (zp CV) (.op (.cmp .leq) [CV,zL Cd])) (zb (zL oH) 1000000)) (.ite (.op (.cmp .neq) [.app 703 [li],.ci 0]) (.ret 0 [.ci 0,.ci 0,.ci 0,.ci 0,.ci 30]) (.ite (.op (.cmp .neq) [.app 703 [oH],.ci 0]) (.ret 0 [.ci 0,.ci 0,.ci 0,.ci 0,.ci 30]) (.ret 0 [.app 702 [li],.app 702 [oH],zo fY 5,zo fY 6,.ci 0]))))]
def Z8:SX:= za (.va 1) (.va 0)
def W1:SX:= .app 755 [.op .llen [.op .row []],.op .llen [.op .row []],.ci 0,.va 1,Z8,.op .row [],.op .row [],.va 1,Z8,.va 1,Z8,.ci 0,zl 2,.va 2,zl 2]
def U5:SX:= zo W1 1
def V4:SX:= zo W1 6
def U6:SX:= zo W1 3
def Z2:SX:= zo W1 4
def lf:SX:= zo (.app 756 [.ci 0,U5,U5,V4,U6,Z2,U5]) 0
def IW:SX:= .op .lget [V4,lf,.ci 0]
def yN:SX:= .app 713 [V4,U5,lf,U6,Z2]
def oZ:SX:= zo W1 5
def wy:SX:= .op (.cmp .eql) [zo W1 0,zL oZ]
def ui:SX:= .app 714 [V4,U5,lf,U6,Z2]
def Iv:VT:= .ite (zs (.va 2002) (zl 2)) (.need (zp (.va 2002)) (.ite (zs (zg 2 2002 0) (za (.va 1) (.va 0))) (.ite (.op .not [zs (.va 1) (zg 2 2002 1)]) (.need (zn (.op (.cmp .eql) [.va 2001,zl 2006]) (zb (zL (zc (.va 2006) (.op .row [.op .row [zg 2 2002 0,zg 2 2002 1]]))) 1000000)) (.ret 0 [.va 2000,zL (zc (.va 2006) (.op .row [.op .row [zg 2 2002 0,zg 2 2002 1]])),zi (.va 2002),.va 2003,.va 2004,.va 2005,zc (.va 2006) (.op .row [.op .row [zg 2 2002 0,zg 2 2002 1]])])) (.need (zn (.op (.cmp .eql) [.va 2000,zl 2005]) (zb (zL (zc (.va 2005) (.op .row [.op .row [zg 2 2002 0,zg 2 2002 1]]))) 1000000)) (.ret 0 [zL (zc (.va 2005) (.op .row [.op .row [zg 2 2002 0,zg 2 2002 1]])),.va 2001,zi (.va 2002),.op .imin [.va 2003,zg 2 2002 0],.op .imax [.va 2004,zg 2 2002 1],zc (.va 2005) (.op .row [.op .row [zg 2 2002 0,zg 2 2002 1]]),.va 2006]))) (.need (zn (.op (.cmp .eql) [.va 2001,zl 2006]) (zb (zL (zc (.va 2006) (.op .row [.op .row [zg 2 2002 0,zg 2 2002 1]]))) 1000000)) (.ret 0 [.va 2000,zL (zc (.va 2006) (.op .row [.op .row [zg 2 2002 0,zg 2 2002 1]])),zi (.va 2002),.va 2003,.va 2004,.va 2005,zc (.va 2006) (.op .row [.op .row [zg 2 2002 0,zg 2 2002 1]])])))) (.ret 1 [.va 2000,.va 2001,.va 2002,.va 2003,.va 2004,.va 2005,.va 2006])
def ML:VT:= .ite (zs (.va 2000) (.va 2001)) (.need (zn (zp (zh (.va 2000) (.va 2001))) (zs (zh (.va 2000) (.va 2001)) (zo (.app 755 [.op .llen [.op .row []],.op .llen [.op .row []],.ci 0,.va 1,za (.va 1) (.va 0),.op .row [],.op .row [],.va 1,za (.va 1) (.va 0),.va 1,za (.va 1) (.va 0),.ci 0,zl 2,.va 2,zl 2]) 1))) (.need (zs (zh (.va 2000) (.va 2001)) (zL (zo (.app 755 [.op .llen [.op .row []],.op .llen [.op .row []],.ci 0,.va 1,za (.va 1) (.va 0),.op .row [],.op .row [],.va 1,za (.va 1) (.va 0),.va 1,za (.va 1) (.va 0),.ci 0,zl 2,.va 2,zl 2]) 6))) (.ite (zs (.op .lget [zo (.app 755 [.op .llen [.op .row []],.op .llen [.op .row []],.ci 0,.va 1,za (.va 1) (.va 0),.op .row [],.op .row [],.va 1,za (.va 1) (.va 0),.va 1,za (.va 1) (.va 0),.ci 0,zl 2,.va 2,zl 2]) 6,zh (.va 2000) (.va 2001),.ci 0]) (zo (.app 755 [.op .llen [.op .row []],.op .llen [.op .row []],.ci 0,.va 1,za (.va 1) (.va 0),.op .row [],.op .row [],.va 1,za (.va 1) (.va 0),.va 1,za (.va 1) (.va 0),.ci 0,zl 2,.va 2,zl 2]) 3)) (.ret 0 [zi (zh (.va 2000) (.va 2001)),.va 2001]) (.ite (.op (.cmp .gtr) [.op .lget [zo (.app 755 [.op .llen [.op .row []],.op .llen [.op .row []],.ci 0,.va 1,za (.va 1) (.va 0),.op .row [],.op .row [],.va 1,za (.va 1) (.va 0),.va 1,za (.va 1) (.va 0),.ci 0,zl 2,.va 2,zl 2]) 6,zh (.va 2000) (.va 2001),.ci 0],zo (.app 755 [.op .llen [.op .row []],.op .llen [.op .row []],.ci 0,.va 1,za (.va 1) (.va 0),.op .row [],.op .row [],.va 1,za (.va 1) (.va 0),.va 1,za (.va 1) (.va 0),.ci 0,zl 2,.va 2,zl 2]) 3]) (.ret 0 [.va 2000,zh (.va 2000) (.va 2001)]) (.ret 0 [.va 2000,zh (.va 2000) (.va 2001)]))))) (.ret 1 [.va 2000,.va 2001])
def T_sinsert:VT:= .ite (.op (.cmp .eql) [.va 0,.op .imax [.ci 1,.op .imin [.va 0,.ci 1048576]]]) (.ite (.op (.cmp .neq) [.va 1,.op .imax [.ci (-1099511627776),.op .imin [.va 1,.ci 1099511627776]]]) (.ret 0 [.ci 0,.ci 0,.ci 2,.op .row [],.op .row []]) (.need (zb (zl 2) 400) (.ite (.op .not [.app 711 [.va 0,.va 2]]) (.ret 0 [.ci 0,.ci 0,.ci 2,.op .row [],.op .row []]) (.loop ⟨755,[.op .llen [.op .row []],.op .llen [.op .row []],.ci 0,.va 1,Z8,.op .row [],.op .row []],2000,[.va 1,Z8,.va 1,Z8,.ci 0,zl 2,.va 2,zl 2]⟩ Iv [.need (zp U5) (.loop ⟨756,[.ci 0,U5],2000,[U5,V4,U6,Z2,U5]⟩ ML [.ite (zs lf U5) (.need (zp lf) (.need (zs lf (zL V4)) (.ite (zs IW U6) (.need (yN) (.need (wy) (.ret 0 [U6,Z2,.ci 0,oZ,ui]))) (.ite (.op (.cmp .gtr) [IW,U6]) (.need (yN) (.need (wy) (.ret 0 [U6,Z2,.ci 0,oZ,ui]))) (.need (yN) (.need (wy) (.ret 0 [U6,Z2,.ci 0,oZ,ui]))))))) (.need (yN) (.need (wy) (.ret 0 [U6,Z2,.ci 0,oZ,ui])))])])))) (.ret 0 [.ci 0,.ci 0,.ci 2,.op .row [],.op .row []])
def gq:SX:= .op .row [.op .row [.va 0,.va 1,.va 2,.va 3],.op .row [.ci 1,.va 4,.va 4,.va 4]]
def T_aput:VT:= .need (zb (zL gq) 1000) (.ite (.op (.cmp .neq) [.app 706 [gq],.ci 0]) (.ret 0 [.va 0,.va 1,.va 2,.va 3,.app 706 [gq]]) (.ret 0 [.op .lget [.app 705 [gq],.ci 0,.ci 0],.op .lget [.app 705 [gq],.ci 0,.ci 1],.op .lget [.app 705 [gq],.ci 0,.ci 2],.op .lget [.app 705 [gq],.ci 0,.ci 3],.ci 0]))
def wG:SX:= .app 750 [.op .llen [.op .row []],.op .row [],.va 4]
def lI:SX:= zo wG 1
def Pj:VT:= .need (zn (.op (.cmp .eql) [.va 2000,zl 2001]) (zb (zL (zc (.va 2001) (.op .row [zv 4 2002]))) 1000000)) (.ret 0 [zL (zc (.va 2001) (.op .row [zv 4 2002])),zc (.va 2001) (.op .row [zv 4 2002])])
def T_trows:VT:= .mloop ⟨750,[.op .llen [.op .row []],.op .row []],2000,[.va 4]⟩ (.va 4) Pj [.need (zn (.op (.cmp .eql) [zo wG 0,zL lI]) (zn (zn (zb (zL lI) 400) (.app 431 [lI])) (.app 491 [lI]))) (.ret 0 [.app 490 [lI]])]
def BY:SX:= .app 757 [.op .llen [.op .row []],.op .row [],.va 5,.va 4]
def AG:SX:= zo BY 0
def lg:SX:= zo BY 1
def KZ:VT:= .ite (.op (.scmp .eql) [zg 4 2002 0,.va 5]) (.need (zn (.op (.cmp .eql) [.va 2000,zl 2001]) (zb (zL (zc (.va 2001) (.op .row [.op .row [zg 4 2002 1,zg 4 2002 2]]))) 1000000)) (.ret 0 [zL (zc (.va 2001) (.op .row [.op .row [zg 4 2002 1,zg 4 2002 2]])),zc (.va 2001) (.op .row [.op .row [zg 4 2002 1,zg 4 2002 2]])])) (.ret 0 [.va 2000,.va 2001])
def T_tsess:VT:= .mloop ⟨757,[.op .llen [.op .row []],.op .row []],2000,[.va 5,.va 4]⟩ (.va 4) KZ [.need (zn (.op (.cmp .eql) [AG,zL lg]) (zn (zb (zL lg) 1000000) (.app 716 [lg]))) (.need (.op (.cmp .eql) [AG,zL (.app 715 [lg])]) (.ret 0 [.app 715 [lg]]))]
def zP:SX:= .app 718 [.va 3,.va 7,.app 723 [.va 4,.va 6]]
def xZ:SX:= .op .lget [zP,.ci 0,.ci 0]
def yl:SX:= .op .lget [zP,.ci 0,.ci 1]
def Z3:SX:= .app 717 [.va 3,.va 7,.app 723 [.va 4,.va 6]]
def DF:SX:= .app 758 [.op .llen [.op .row []],.ci 0,.op .row [],.va 5,.va 6,.va 7,.va 8,xZ,yl,zL Z3,Z3,zL Z3]
def Ds:SX:= zo DF 2
def Yh:VT:= .ite (zs (.va 2001) (zL (.app 717 [.va 3,.va 7,.app 723 [.va 4,.va 6]]))) (.need (zp (.va 2001)) (.need (zn (.op (.cmp .eql) [.va 2000,zl 2002]) (zb (zL (zc (.va 2002) (.op .row [.op .row [.va 6,.op .lget [.app 717 [.va 3,.va 7,.app 723 [.va 4,.va 6]],.va 2001,.ci 0],.op .lget [.app 717 [.va 3,.va 7,.app 723 [.va 4,.va 6]],.va 2001,.ci 1]]]))) 1000000)) (.ret 0 [zL (zc (.va 2002) (.op .row [.op .row [.va 6,.op .lget [.app 717 [.va 3,.va 7,.app 723 [.va 4,.va 6]],.va 2001,.ci 0],.op .lget [.app 717 [.va 3,.va 7,.app 723 [.va 4,.va 6]],.va 2001,.ci 1]]])),zi (.va 2001),zc (.va 2002) (.op .row [.op .row [.va 6,.op .lget [.app 717 [.va 3,.va 7,.app 723 [.va 4,.va 6]],.va 2001,.ci 0],.op .lget [.app 717 [.va 3,.va 7,.app 723 [.va 4,.va 6]],.va 2001,.ci 1]]])]))) (.ret 1 [.va 2000,.va 2001,.va 2002])
def T_joined:VT:= .need (zn (zb (zl 4) 400) (.app 491 [.va 4])) (.need (zb (zL (.app 723 [.va 4,.va 6])) 24) (.loop ⟨758,[.op .llen [.op .row []],.ci 0,.op .row []],2000,[.va 5,.va 6,.va 7,.va 8,xZ,yl,zL Z3,Z3,zL Z3]⟩ Yh [.need (.op (.cmp .eql) [zo DF 0,zL Ds]) (.ret 0 [.va 6,xZ,yl,Ds])]))
def sH:SX:= .op .row [.op .row [.ci 1,.va 8,.va 8,.va 8]]
def lL:SX:= .app 725 [.va 3,.va 4,.va 6,.va 7]
def oj:SX:= .op .lget [lL,.ci 0,.ci 0]
def nJ:SX:= .op .lget [lL,.ci 0,.ci 1]
def nZ:SX:= .op .lget [lL,.ci 0,.ci 2]
def cL:SX:= .app 724 [.va 3,.va 4,.va 6,.va 7]
def oU:SX:= .app 759 [.op .llen [.op .row []],zL sH,.ci 0,.op .row [],sH,.va 0,.va 1,.va 2,.va 3,.va 4,oj,nJ,nZ,zL cL,cL,zL cL]
def Cs:SX:= zo oU 1
def IE:SX:= zo oU 4
def gk:SX:= .op .lsub [IE,.ci 0,Cs]
def Ei:SX:= zo oU 3
def vH:SX:= .op .row [.op .lget [cL,.va 2002,.ci 0],.op .lget [cL,.va 2002,.ci 1],.op .lget [cL,.va 2002,.ci 2]]
def jO(j:Int):SX:= .op .ite [zs (.op (.mfind [.str,.int .i64,.int .i64]) [.va 4,vH]) (zl 4),.op .lget [.va 4,.op (.mfind [.str,.int .i64,.int .i64]) [.va 4,vH],.ci j],.ci 0]
def nG:SX:= zc (.va 2004) (.op .row [.op .row [jO 3,jO 4,jO 5,jO 6]])
def xj:SX:= zc (.va 2003) (.op .row [vH])
def ZJ:SX:= zn (.op (.scmp .eql) [.op .lget [cL,.va 2002,.ci 0],oj]) (zn (.op (.cmp .eql) [.op .lget [cL,.va 2002,.ci 1],nJ]) (.op (.cmp .eql) [.op .lget [cL,.va 2002,.ci 2],nZ]))
def Ty:VT:= .ite (zs (.va 2002) (zL cL)) (.need (zp (.va 2002)) (.need (zn (.op (.cmp .eql) [.va 2001,zl 2004]) (zb (zL nG) 1000000)) (.ite (.op .not [ZJ]) (.need (zn (.op (.cmp .eql) [.va 2000,zl 2003]) (zb (zL xj) 1000000)) (.ret 0 [zL xj,zL nG,zi (.va 2002),xj,nG])) (.ret 0 [.va 2000,zL nG,zi (.va 2002),.va 2003,nG])))) (.ret 1 [.va 2000,.va 2001,.va 2002,.va 2003,.va 2004])
def T_sess:VT:= .need (zn (zb (zl 4) 24) (.app 491 [.va 4])) (.loop ⟨759,[.op .llen [.op .row []],zL sH,.ci 0,.op .row [],sH],2000,[.va 0,.va 1,.va 2,.va 3,.va 4,oj,nJ,nZ,zL cL,cL,zL cL]⟩ Ty [.need (zn (zn (zp Cs) (.op (.cmp .leq) [Cs,zL IE])) (zb (zL gk) 1000)) (.ite (.op (.cmp .neq) [.app 706 [gk],.ci 0]) (.ret 0 [.app 706 [gk],.op .row [],.op .row []]) (.need (.op (.cmp .eql) [zo oU 0,zL Ei]) (.ret 0 [.ci 0,Ei,.op .row [.op .row [oj,nJ,nZ,.op .lget [.app 705 [gk],.ci 0,.ci 0],.op .lget [.app 705 [gk],.ci 0,.ci 1],.op .lget [.app 705 [gk],.ci 0,.ci 2],.op .lget [.app 705 [gk],.ci 0,.ci 3]]]])))])
def nF:SX:= .app 701 [.va 5,.va 6,.va 7,.va 8]
def dE:SX:= .app 704 [.va 0,.va 1,.va 2,.va 3,.va 7]
def vg:SX:= .app 760 [.op .llen [.op .row []],nF,.ci 0,.op .row [],.va 0,.va 1,.va 2,.va 3,.va 4,.va 5,.va 6,.va 7,.va 8,zL dE,dE,zL dE]
def Bd:SX:= zo vg 1
def zf:SX:= zo vg 0
def Fl:SX:= zo vg 3
def yL:SX:= .op .lsub [Fl,.ci 0,zf]
def zF:SX:= .op .row [.va 6,.op .lget [dE,.va 2002,.ci 0],.op .lget [dE,.va 2002,.ci 1]]
def eV(j:Int):SX:= .op .ite [zs (.op (.mfind [.str,.int .i64,.int .i64]) [.va 4,zF]) (zl 4),.op .lget [.va 4,.op (.mfind [.str,.int .i64,.int .i64]) [.va 4,zF],.ci j],.ci 0]
def tO:SX:= .app 708 [eV 3,eV 4,eV 5,eV 6,.va 8]
def pK:SX:= .app 707 [eV 3,eV 4,eV 5,eV 6,.va 8]
def yf:SX:= zc (.va 2003) (.op .row [.op .row [.va 6,.op .lget [dE,.va 2002,.ci 0],.op .lget [dE,.va 2002,.ci 1],.op .lget [pK,.ci 0,.ci 0],.op .lget [pK,.ci 0,.ci 1],.op .lget [pK,.ci 0,.ci 2],.op .lget [pK,.ci 0,.ci 3]]])
def Ia:VT:= .ite (zs (.va 2002) (zL dE)) (.need (zp (.va 2002)) (.ite (.op (.cmp .neq) [tO,.ci 0]) (.ret 1 [.va 2000,tO,.va 2002,.va 2003]) (.need (zn (.op (.cmp .eql) [.va 2000,zl 2003]) (zb (zL yf) 1000000)) (.ret 0 [zL yf,tO,zi (.va 2002),yf])))) (.ret 1 [.va 2000,.va 2001,.va 2002,.va 2003])
def T_tryE:VT:= .ite (.op (.cmp .neq) [nF,.ci 0]) (.ret 0 [nF,.op .row [],.op .row []]) (.ite (.op (.cmp .neq) [.va 5,.ci 1]) (.ret 0 [.ci 2,.op .row [],.op .row []]) (.ite (ze (.va 0) 3) (.need (zn (zb (zl 4) 24) (.app 491 [.va 4])) (.ret 0 [.app 729 [.va 3,.va 4,.va 6,.va 7,.va 8],.app 727 [.va 3,.va 4,.va 6,.va 7,.va 8],.app 728 [.va 3,.va 4,.va 6,.va 7,.va 8]])) (.loop ⟨760,[.op .llen [.op .row []],nF,.ci 0,.op .row []],2000,[.va 0,.va 1,.va 2,.va 3,.va 4,.va 5,.va 6,.va 7,.va 8,zL dE,dE,zL dE]⟩ Ia [.ite (.op (.cmp .neq) [Bd,.ci 0]) (.ret 0 [Bd,.op .row [],.op .row []]) (.need (zn (zn (zp zf) (.op (.cmp .leq) [zf,zL Fl])) (zn (zb (zL yL) 400) (.app 431 [yL]))) (.ret 0 [.ci 0,.op .row [],.app 490 [yL]]))])))
def zR:SX:= .app 732 [.va 0,.va 1,.va 2,.va 3,.va 4,.va 5,.va 6,.va 7,.va 8]
def Z6:SX:= .app 731 [.va 0,.va 1,.va 2,.va 3,.va 4,.va 5,.va 6,.va 7,.va 8]
def ei:SX:= .app 730 [.va 0,.va 1,.va 2,.va 3,.va 4,.va 5,.va 6,.va 7,.va 8]
def oP:SX:= zo (.app 761 [.ci 0,.va 4,.va 0,.va 1,.va 2,.va 3,.va 4,zL Z6,Z6,zL ei,ei,zL ei]) 1
def Pd:VT:= .ite (zs (.va 2000) (zL (.app 730 [.va 0,.va 1,.va 2,.va 3,.va 4,.va 5,.va 6,.va 7,.va 8]))) (.need (zp (.va 2000)) (.ret 0 [zi (.va 2000),.op (.mdel [.str,.int .i64,.int .i64]) [.va 2001,.op .row [.op .lget [.app 730 [.va 0,.va 1,.va 2,.va 3,.va 4,.va 5,.va 6,.va 7,.va 8],.va 2000,.ci 0],.op .lget [.app 730 [.va 0,.va 1,.va 2,.va 3,.va 4,.va 5,.va 6,.va 7,.va 8],.va 2000,.ci 1],.op .lget [.app 730 [.va 0,.va 1,.va 2,.va 3,.va 4,.va 5,.va 6,.va 7,.va 8],.va 2000,.ci 2]]]])) (.ret 1 [.va 2000,.va 2001])
def LO:VT:= .ite (zs (.va 2000) (zL (.app 731 [.va 0,.va 1,.va 2,.va 3,.va 4,.va 5,.va 6,.va 7,.va 8]))) (.need (zp (.va 2000)) (.ret 0 [zi (.va 2000),.op .ite [zs (.op (.mfind [.str,.int .i64,.int .i64]) [.va 2001,.op .row [.op .lget [.app 731 [.va 0,.va 1,.va 2,.va 3,.va 4,.va 5,.va 6,.va 7,.va 8],.va 2000,.ci 0],.op .lget [.app 731 [.va 0,.va 1,.va 2,.va 3,.va 4,.va 5,.va 6,.va 7,.va 8],.va 2000,.ci 1],.op .lget [.app 731 [.va 0,.va 1,.va 2,.va 3,.va 4,.va 5,.va 6,.va 7,.va 8],.va 2000,.ci 2]]]) (zl 2001),.op .lset [.va 2001,.op (.mfind [.str,.int .i64,.int .i64]) [.va 2001,.op .row [.op .lget [.app 731 [.va 0,.va 1,.va 2,.va 3,.va 4,.va 5,.va 6,.va 7,.va 8],.va 2000,.ci 0],.op .lget [.app 731 [.va 0,.va 1,.va 2,.va 3,.va 4,.va 5,.va 6,.va 7,.va 8],.va 2000,.ci 1],.op .lget [.app 731 [.va 0,.va 1,.va 2,.va 3,.va 4,.va 5,.va 6,.va 7,.va 8],.va 2000,.ci 2]]],.op .row [.op .lget [.app 731 [.va 0,.va 1,.va 2,.va 3,.va 4,.va 5,.va 6,.va 7,.va 8],.va 2000,.ci 0],.op .lget [.app 731 [.va 0,.va 1,.va 2,.va 3,.va 4,.va 5,.va 6,.va 7,.va 8],.va 2000,.ci 1],.op .lget [.app 731 [.va 0,.va 1,.va 2,.va 3,.va 4,.va 5,.va 6,.va 7,.va 8],.va 2000,.ci 2],.op .lget [.app 731 [.va 0,.va 1,.va 2,.va 3,.va 4,.va 5,.va 6,.va 7,.va 8],.va 2000,.ci 3],.op .lget [.app 731 [.va 0,.va 1,.va 2,.va 3,.va 4,.va 5,.va 6,.va 7,.va 8],.va 2000,.ci 4],.op .lget [.app 731 [.va 0,.va 1,.va 2,.va 3,.va 4,.va 5,.va 6,.va 7,.va 8],.va 2000,.ci 5],.op .lget [.app 731 [.va 0,.va 1,.va 2,.va 3,.va 4,.va 5,.va 6,.va 7,.va 8],.va 2000,.ci 6]]],zc (.va 2001) (.op .row [.op .row [.op .lget [.app 731 [.va 0,.va 1,.va 2,.va 3,.va 4,.va 5,.va 6,.va 7,.va 8],.va 2000,.ci 0],.op .lget [.app 731 [.va 0,.va 1,.va 2,.va 3,.va 4,.va 5,.va 6,.va 7,.va 8],.va 2000,.ci 1],.op .lget [.app 731 [.va 0,.va 1,.va 2,.va 3,.va 4,.va 5,.va 6,.va 7,.va 8],.va 2000,.ci 2],.op .lget [.app 731 [.va 0,.va 1,.va 2,.va 3,.va 4,.va 5,.va 6,.va 7,.va 8],.va 2000,.ci 3],.op .lget [.app 731 [.va 0,.va 1,.va 2,.va 3,.va 4,.va 5,.va 6,.va 7,.va 8],.va 2000,.ci 4],.op .lget [.app 731 [.va 0,.va 1,.va 2,.va 3,.va 4,.va 5,.va 6,.va 7,.va 8],.va 2000,.ci 5],.op .lget [.app 731 [.va 0,.va 1,.va 2,.va 3,.va 4,.va 5,.va 6,.va 7,.va 8],.va 2000,.ci 6]]])]])) (.ret 1 [.va 2000,.va 2001])
def T_put:VT:= .need (zn (zn (zn (zb (zl 4) 400) (.app 431 [.va 4])) (.app 491 [.va 4])) (.app 739 [.va 0,.va 4,.va 6])) (.ite (.op (.cmp .neq) [zR,.ci 0]) (.ret 0 [zR,.va 4]) (.loop ⟨761,[.ci 0,.va 4],2000,[.va 0,.va 1,.va 2,.va 3,.va 4,zL Z6,Z6,zL ei,ei,zL ei]⟩ Pd [.loop ⟨762,[.ci 0,oP],2000,[.va 0,.va 1,.va 2,.va 3,oP,zL Z6,Z6,zL Z6]⟩ LO [.ret 0 [.ci 0,zo (.app 762 [.ci 0,oP,.va 0,.va 1,.va 2,.va 3,oP,zL Z6,Z6,zL Z6]) 1]]]))
def ex(j:Int):SX:= .op .lget [.va 4,.va 2003,.ci j]
def aX:List SX:=[.va 0,.va 1,.va 2,.va 3,.va 2004,ex 0,ex 1,ex 2,ex 3]
def e05:SX:= .app 730 aX
def e06:SX:= .app 731 aX
def e07:SX:= .app 733 aX
def rx(j:Int):SX:= .op .lget [e06,.va 4001,.ci j]
def gx(j:Int):SX:= .op .lget [e05,.va 4001,.ci j]
def tx:SX:= .app 721 [e07,rx 0,rx 1,rx 2]
def e08(x:SX):SX:= zn (zn (zb (zL x) 400) (.app 431 [x])) (.app 491 [x])
def d80:SX:= .app 766 [.cb false,.op .llen [.op .row []],.ci 0,.ci 0,.op .row [],.op .row [],.ci 0,zl 4,.va 4,.va 5,.va 0,.va 1,.va 2,.va 3,.va 0,.va 1,.va 2,.va 3,.op .row []]
def d81:SX:= zo d80 4
def r7:SX:= .app 490 [d81]
end Go.Ev.S9
namespace Go.Ev.S9
open Go Go.Ev
theorem T1(I:Opq)(v0:Nat)(l:List Val)(n:Nat):(I.upd v0 l).w n=if v0<=n then l.getD (n-v0) (.vb false)else I.w n:=rfl
theorem cp(I:Opq)(v0:Nat)(l:List Val):(I.upd v0 l).f=I.f:=rfl
@[simp]theorem S6(n:Int):(Val.vi n).toI=n:=rfl
@[simp]theorem dt5(n:List UInt8):(Val.vs n).toS=n:=rfl
@[simp]theorem ad7(n:Bool):(Val.vb n).toB=n:=rfl
@[simp]theorem af3(n:List Val):(Val.vl n).toL=n:=rfl
@[simp]theorem a21(a b:Int):dA .lss a b=decide (a<b):=rfl
@[simp]theorem a60(a b:Int):dA .leq a b=decide (a<=b):=rfl
@[simp]theorem aj4(a b:Int):dA .gtr a b=decide (b<a):=rfl
@[simp]theorem cI0(a b:Int):dA .geq a b=decide (b<=a):=rfl
@[simp]theorem cI1(a b:Int):dA .eql a b=decide (a=b):=rfl
@[simp]theorem bP7(a b:Int):dA .neq a b= !decide (a=b):=rfl
@[simp]theorem cI2(a b:List UInt8):np .eql a b=decide (a=b):=rfl
@[simp]theorem bP8(a b:List UInt8):np .neq a b= !decide (a=b):=rfl
theorem R3{I:Opq}{e:SX}{x:VT}{r:Option (Nat×List Val)}(h:dB I e=true)(h2:R0 x I=r):R0 (.need e x) I=r:=by rw[R0.eq_3,e8 h,h2]
theorem S3{I:Opq}{e:SX}{x y:VT}{r:Option (Nat×List Val)}(h:dB I e=true)(h2:R0 x I=r):R0 (.ite e x y) I=r:=by rw[R0.eq_2,e8 h,h2]
theorem S4{I:Opq}{e:SX}{x y:VT}{r:Option (Nat×List Val)}(h:dB I e=false)(h2:R0 y I=r):R0 (.ite e x y) I=r:=by simp_all[R0.eq_2,b9]
theorem R4{I:Opq}{hd:LHd}{b:VT}{ks:List VT}{r:Nat×List Val}{x:Option (Nat×List Val)}(h1:S5 (λvs=>R0 b (I.upd hd.v0 vs)) (R7 I hd.s0)=some r)(h2:I.f hd.id (R7 I (hd.s0++hd.fv))=V0 r)(h3:mF ks r.1 I=x):R0 (.loop hd b ks) I=x:=by
 simp_all[R0.eq_5,e8]
theorem iF{x:Int}(h: -9223372036854775808<=x)(h2:x<9223372036854775808):IntKind.i64.wrap x=x:=by
 grind[IntKind.wrap,IntKind.bits,IntKind.signed]
theorem cV{x y:Int}(h: -9223372036854775808<=x+y)(h2:x+y<9223372036854775808):aS .add .i64 x y=x+y:=iF h h2
theorem gv{x y:Int}(h: -9223372036854775808<=x-y)(h2:x-y<9223372036854775808):aS .sub .i64 x y=x-y:=iF h h2
theorem V8{i n:Nat}(h:i<n)(h2:n<=9223372036854775807):aS .add .i64 (i:Int) 1=((i+1:Nat):Int):=by
 grind[cV]
def ci(r:Val)(k:Nat):Int:=(S1 r k).toI
def R9(k s l g:Int):Bool:=
 if k=1 then decide (1<=s)&&decide (s<=1048576)&&decide (l=0)&&decide (g=0)
 else if k=2 then decide (1<=s)&&decide (s<=1048576)&&decide (1<=l)&&decide (l<=1048576)&&decide (g=0)&&decide (s % l=0)&&decide (s/l<=16)
 else decide (k=3)&&decide (1<=g)&&decide (g<=1048576)&&decide (s=0)&&decide (l=0)
def U8(t:Int):Bool:=decide (-1099511627776<=t)&&decide (t<=1099511627776)
def S8(k:Int)(key:List UInt8)(t v:Int):Int:=
 if k<1\/2<k then 80
 else if k=1 then(if key=[]\/32<key.length then 60 else if U8 t then 0 else 61)
 else(if key=[]/\v=0 then(if U8 t then 0 else 61)else 60)
def cx(g:Nat->Int):Nat->Int×Int
 |0=>(0,0)
 |k+1=>let s:=(cx g k).1;let o:=(cx g k).2;let x:=g k;let t:=aS .add .i64 s x
  if 0<=s/\0<=x/\t<0 then(t,aS .add .i64 o 1)else if s<0/\x<0/\0<=t then(t,aS .sub .i64 o 1)else(t,o)
def cT(l:List Val):Int×Int:=cx (λk=>ci (aO l k) 0) l.length
def cO(l:List Val):Int:=if(cT l).2=0 then 0 else 30
def mO(l:List Val):Int:=if(cT l).2=0 then(cT l).1 else 0
def xe(a b c d:Int):Bool:=decide (a=0)&&(decide (b=0)&&(decide (c=0)&&decide (d=0)))
def d82(a b c d:Int):Bool:=xe a b c d||decide (0<a)&&decide (c<=d)&&(decide (1<a)||decide (a=1)&&decide (c=b)&&decide (d=b))
def yk(a b c d:Int):Int:=if b<d then-1 else if d<b then 1 else if a<c then-1 else if c<a then 1 else 0
def Wj(r:Val):Bool:=decide (50<(S1 r 1).toS.length)
def dK5(i n:Int):Int:=if n<=0 then 0 else aS .rem .i64 (aS .add .i64 (aS .rem .i64 i n) n) n
def cu(n d:Int):Int:=n-n % d
def W8(k s l:Int):Int:=if k=2 then l else s
def eS(st step size:Int)(j:Nat):List Val:=[.vl [.vi (st+j*step),.vi (st+j*step+size)]]
def cg(k s l:Int):Nat:=(s/W8 k s l).toNat
def bh(k s l g:Int)(t:Val):List Val:=bif R9 k s l g&&U8 t.toI then(if k=3 then [.vl [t,.vi (t.toI+g)]]else U4 (eS (cu t.toI (W8 k s l)-s+W8 k s l) (W8 k s l) s) (cg k s l))else []
def pf(r:Val):Bool:=xe (ci r 0) (ci r 1) (ci r 2) (ci r 3)
def jG(l:List Val)(c:Nat)(k:Nat):List Val:=bif pf (aO l k)then []else [.vl [S1 (aO l k) c]]
def jS(l:List Val):Nat->List Val
 |0=>[.vi 0,.vi 0,.vi 0,.vi 0]
 |k+1=>bif pf (aO l k)then jS l k else
  (if(U4 (jG l 0) k).length=0 then [S1 (aO l k) 0,S1 (aO l k) 1,.vi (min (ci (aO l k) 2) (ci (aO l k) 2)),.vi (max (ci (aO l k) 3) (ci (aO l k) 3))]
   else [(jS l k).getD 0 default,(jS l k).getD 1 default,.vi (min ((jS l k).getD 2 default).toI (ci (aO l k) 2)),.vi (max ((jS l k).getD 3 default).toI (ci (aO l k) 3))])
def jC(l:List Val):List Val:=U4 (jG l 0) l.length
def jT(l:List Val):List Val:=U4 (jG l 1) l.length
def jE(l:List Val):Int:=if cO (jC l)≠0\/cO (jT l)≠0 then 30 else 0
def jR(l:List Val):List Val:=if cO (jC l)≠0\/cO (jT l)≠0 then [.vi 0,.vi 0,.vi 0,.vi 0]else [.vi (mO (jC l)),.vi (mO (jT l)),(jS l l.length).getD 2 default,(jS l l.length).getD 3 default]
def pR(a b c d v:Val):List Val:=[.vl [a,b,c,d],.vl [.vi 1,v,v,v]]
def kr(a b c d v:Val):List Val:=if jE (pR a b c d v)≠0 then [a,b,c,d]else jR (pR a b c d v)
def ww(l:List Val)(key:List UInt8)(i:Nat):List Val:=bif decide ((S1 (aO l i) 0).toS=key)then [.vl [S1 (aO l i) 1,S1 (aO l i) 2]]else []
def dy(l:List Val)(key:List UInt8):List Val:=U4 (ww l key) l.length
def spanV(a b:Val):Int:=yk (ci a 0) (ci a 1) (ci b 0) (ci b 1)
def R6(r:Val):Int×Int:=(ci r 0,ci r 1)
def eI(l:List Val)(p:Val):Nat:=l.findIdx λr=>dR [.str,.int .i64,.int .i64] r p
def gg(l:List Val)(p:Val):Bool:=decide (eI l p<l.length)
def lR(l:List Val)(p:Val)(j:Nat):Val:=bif gg l p then S1 (aO l (eI l p)) j else .vi 0
def HF(l:List Val)(p:Val):List Val:=[lR l p 3,lR l p 4,lR l p 5,lR l p 6]
def Uh(s e:Int):Bool:= !((!((decide (0<=e))==(decide (0<=s))))&&(!((decide (0<=aS .sub .i64 e s))==(decide (0<=e)))))
def iz(g:Int)(l:List Val)(i:Nat):Bool:=decide (ci (aO l i) 1<=ci (aO l i) 0)||(Uh (ci (aO l i) 0) (ci (aO l i) 1)&&decide (aS .sub .i64 (ci (aO l i) 1) (ci (aO l i) 0)<g))||(decide (0<i)&&decide (ci (aO l i) 0<ci (aO l (i-1)) 1))
def na(t o:Int)(r:Val):Bool:=decide (ci r 0<o)&&decide (t<ci r 1)
def bE(r:Val):Val:= .vl [S1 r 0,S1 r 1]
def vR(l:List Val)(t o:Int)(i:Nat):List Val:=bif na t o (aO l i)then [bE (aO l i)]else []
def tU(l:List Val)(t o:Int)(i:Nat):List Val:=bif na t o (aO l i)then []else [bE (aO l i)]
def gS(l:List Val)(t o:Val):Nat->Val×Val
 |0=>(t,o)
 |i+1=>bif na t.toI o.toI (aO l i)then(.vi (min (gS l t o i).1.toI (ci (aO l i) 0)),.vi (max (gS l t o i).2.toI (ci (aO l i) 1)))else gS l t o i
def sL(l:List Val)(t o:Int):List Val:=U4 (vR l t o) l.length
def EB(l:List Val)(t o:Int):List Val:=U4 (tU l t o) l.length
def jA(l:List Val)(x:Int):Nat->Nat->Nat->Nat
 |0,i,_=>i
 |n+1,i,j=>if i<j then(if ci (aO l ((i+j)/2)) 0<x then jA l x n ((i+j)/2+1) j else jA l x n i ((i+j)/2))else i
def Di(l:List Val)(j:Nat)(a b:Val):List Val:=(l.take j).map bE++[.vl [a,b]]++(l.drop j).map bE
def fc(g t:Int)(l:List Val):Bool:=decide (1<=g)&&decide (g<=1048576)&&U8 t&& !(List.range l.length).any (iz g l)
def lh(g t:Int):Val:= .vi (aS .add .i64 t g)
def eL(g t:Val)(l:List Val):Val×Val:=gS l t (lh g.toI t.toI) l.length
def eP(g t:Val)(l:List Val):List Val:=EB l t.toI (lh g.toI t.toI).toI
def nf(g t:Val)(l:List Val):List Val:=sL l t.toI (lh g.toI t.toI).toI
def kg(g t:Val)(l:List Val):Nat:=jA (eP g t l) (eL g t l).1.toI (eP g t l).length 0 (eP g t l).length
noncomputable def bi(m:List Val)(key:Val):List Val:=dT spanV (dy m key.toS)
noncomputable def gP(g:Val)(m:List Val)(key t:Val):List Val:=bif fc g.toI t.toI (bi m key)then nf g t (bi m key)else []
noncomputable def gJ(g:Val)(m:List Val)(key t:Val):List Val:=bif fc g.toI t.toI (bi m key)then [(eL g t (bi m key)).1,(eL g t (bi m key)).2]else [.vi 0,.vi 0]
def ck(key r:Val):Val:= .vl [key,S1 r 0,S1 r 1]
def ym(key ns ne r:Val):Bool:=decide ((S1 r 0).toS=key.toS)&&(decide ((S1 r 1).toI=ns.toI)&&decide ((S1 r 2).toI=ne.toI))
def jy(key ns ne r:Val):List Val:=bif ym key ns ne r then []else [cC r]
def gK(P:List Val)(key ns ne:Val):List Val:=U4 (λi=>jy key ns ne (aO P i)) P.length
def gQ(m:List Val)(r:Val):Val:= .vl (HF m (cC r))
def gO(m P:List Val)(v:Val):List Val:= .vl [.vi 1,v,v,v]::P.map (gQ m)
noncomputable def fh(g:Val)(m:List Val)(key t:Val):List Val:=(gP g m key t).map (ck key)
noncomputable def ou(g:Val)(m:List Val)(key t v:Val):Int:=jE (gO m (fh g m key t) v)
noncomputable def ko(g:Val)(m:List Val)(key t v:Val):List Val:=if ou g m key t v≠0 then []else gK (fh g m key t) key ((gJ g m key t).getD 0 default) ((gJ g m key t).getD 1 default)
noncomputable def jV(g:Val)(m:List Val)(key t v:Val):List Val:=if ou g m key t v≠0 then []else [.vl [key,(gJ g m key t).getD 0 default,(gJ g m key t).getD 1 default,(jR (gO m (fh g m key t) v)).getD 0 default,(jR (gO m (fh g m key t) v)).getD 1 default,(jR (gO m (fh g m key t) v)).getD 2 default,(jR (gO m (fh g m key t) v)).getD 3 default]]
def mJ(m:List Val)(key r:Val)(j:Nat):Val:=lR m (ck key r) j
def gA(m:List Val)(key v r:Val):Int:=jE (pR (mJ m key r 3) (mJ m key r 4) (mJ m key r 5) (mJ m key r 6) v)
def ws(m:List Val)(key v r:Val):List Val:=kr (mJ m key r 3) (mJ m key r 4) (mJ m key r 5) (mJ m key r 6) v
def kC(m:List Val)(key v r:Val):Val:= .vl [key,S1 r 0,S1 r 1,(ws m key v r).getD 0 default,(ws m key v r).getD 1 default,(ws m key v r).getD 2 default,(ws m key v r).getD 3 default]
def dN(m S:List Val)(key v:Val):Nat:=((List.range S.length).find? λi=>decide (gA m key v (aO S i)≠0)).getD S.length
def cS(m S:List Val)(key v:Val)(k:Nat):List Val:=U4 (λi=>[kC m key v (aO S i)]) k
def gW(m S:List Val)(key v e0:Val):Val:=if dN m S key v<S.length then .vi (gA m key v (aO S (dN m S key v)))else if S.length=0 then e0 else .vi 0
noncomputable def bY(w:List Val):Int:=if S8 (aN w 5).toI (aN w 6).toS (aN w 7).toI (aN w 8).toI≠0 then S8 (aN w 5).toI (aN w 6).toS (aN w 7).toI (aN w 8).toI else if(aN w 5).toI≠1 then 2 else if(aN w 0).toI=3 then ou (aN w 3) (aN w 4).toL (aN w 6) (aN w 7) (aN w 8)else
 (gW (aN w 4).toL (bh (aN w 0).toI (aN w 1).toI (aN w 2).toI (aN w 3).toI (aN w 7)) (aN w 6) (aN w 8) (.vi 0)).toI
noncomputable def dJ(w:List Val):List Val:=if S8 (aN w 5).toI (aN w 6).toS (aN w 7).toI (aN w 8).toI≠0\/(aN w 5).toI≠1 then []else if(aN w 0).toI=3 then ko (aN w 3) (aN w 4).toL (aN w 6) (aN w 7) (aN w 8)else []
noncomputable def cj(X:Nat->List Val->Val)(w:List Val):Val:=if S8 (aN w 5).toI (aN w 6).toS (aN w 7).toI (aN w 8).toI≠0\/(aN w 5).toI≠1 then .vl []else if(aN w 0).toI=3 then .vl (jV (aN w 3) (aN w 4).toL (aN w 6) (aN w 7) (aN w 8))else
 if bY w≠0 then .vl []else X 490 [.vl (cS (aN w 4).toL (bh (aN w 0).toI (aN w 1).toI (aN w 2).toI (aN w 3).toI (aN w 7)) (aN w 6) (aN w 8) (bh (aN w 0).toI (aN w 1).toI (aN w 2).toI (aN w 3).toI (aN w 7)).length)]
def Mf:Val->Bool
 | .vs _=>true
 |_=>false
def cF(m:Val)(P:List Val):Nat->Val
 |0=>m
 |i+1=> .vl ((cF m P i).toL.eraseIdx (eI (cF m P i).toL (cC (aO P i))))
def bW(m:Val)(R:List Val):Nat->Val
 |0=>m
 |i+1=>bif gg (bW m R i).toL (cC (aO R i))then .vl ((bW m R i).toL.set (eI (bW m R i).toL (cC (aO R i))) (W3 (aO R i)))else .vl ((bW m R i).toL++[W3 (aO R i)])
noncomputable def eY(X:Nat->List Val->Val)(w:List Val):Val:=if bY w≠0 then aN w 4 else bW (cF (aN w 4) (dJ w) (dJ w).length) (cj X w).toL (cj X w).toL.length
def qB(r:Val):Val:= .vl [S1 r 0,S1 r 1,S1 r 2,S1 r 3]
def oI(a b c d m r:Val):List Val:=[a,b,c,d,m,S1 r 0,S1 r 1,S1 r 2,S1 r 3]
noncomputable def mQ(X:Nat->List Val->Val)(a b c d:Val)(ops:List Val):Nat->Int×Val×List Val
 |0=>(0,.vl [],[])
 |i+1=>if bY (oI a b c d (mQ X a b c d ops i).2.1 (aO ops i))≠0 then((mQ X a b c d ops i).1,eY X (oI a b c d (mQ X a b c d ops i).2.1 (aO ops i)),(mQ X a b c d ops i).2.2)
  else(aS .add .i64 (mQ X a b c d ops i).1 (bh a.toI b.toI c.toI d.toI (S1 (aO ops i) 2)).length,eY X (oI a b c d (mQ X a b c d ops i).2.1 (aO ops i)),(mQ X a b c d ops i).2.2++[qB (aO ops i)])
def YE(l:List Val):Nat->Int
 |0=>0
 |k+1=>aS .add .i64 (YE l k) (ci (aO l k) 3)
def XJ(T:List Val)(j:Nat):List Val:=U4 (λi=>[qB (aO T (T.length-1-i))]) j
noncomputable def EE(X:Nat->List Val->Val)(a b c d:Val)(U:List Val):Nat->Val
 |0=> .vl []
 |i+1=>eY X (oI a b c d (EE X a b c d U i) (aO U i))
noncomputable def Jx(X:Nat->List Val->Val)(a b c d:Val)(U:List Val)(i:Nat):Int:=bY (oI a b c d (EE X a b c d U i) (aO U i))
noncomputable def vq(X:Nat->List Val->Val)(a b c d:Val)(U:List Val):Nat:=((List.range U.length).find? λi=>decide (Jx X a b c d U i≠0)).getD U.length
noncomputable def ofR(X:Nat->List Val->Val)(a b c d:Val)(U:List Val):Nat×List Val:=if vq X a b c d U+1<U.length then(1,[.vi (Jx X a b c d U (vq X a b c d U)),.vi (Jx X a b c d U (vq X a b c d U)),.vi (vq X a b c d U+1:Nat),EE X a b c d U (vq X a b c d U+1)])
 else(0,[.vi 0,if vq X a b c d U<U.length then .vi (Jx X a b c d U (vq X a b c d U))else .vi 0,.vi U.length,EE X a b c d U U.length])
def isVi:Val->Bool
 | .vi _=>true
 |_=>false
def opOk:Val->Bool
 | .vl [.vi _,.vs _,.vi _,.vi v]=>decide (-9223372036854775808<=v)&&decide (v<9223372036854775808)
 |_=>false
def opsOk:Val->Bool
 | .vl l=>l.all opOk
 |_=>false
noncomputable def FT(X:Nat->List Val->Val):Nat->List Val->Val:=λi a=>match i with
 |700=> .vb (R9 (aN a 0).toI (aN a 1).toI (aN a 2).toI (aN a 3).toI)
 |701=> .vi (S8 (aN a 0).toI (aN a 1).toS (aN a 2).toI (aN a 3).toI)
 |702=> .vi (mO (aN a 0).toL)
 |703=> .vi (cO (aN a 0).toL)
 |704=> .vl (bh (aN a 0).toI (aN a 1).toI (aN a 2).toI (aN a 3).toI (aN a 4))
 |753=>V0 (0,[.vi (cg (aN a 3).toI (aN a 4).toI (aN a 5).toI),.vi ((aN a 1).toI+cg (aN a 3).toI (aN a 4).toI (aN a 5).toI*W8 (aN a 3).toI (aN a 4).toI (aN a 5).toI),.vl (U4 (eS (aN a 1).toI (W8 (aN a 3).toI (aN a 4).toI (aN a 5).toI) (aN a 4).toI) (cg (aN a 3).toI (aN a 4).toI (aN a 5).toI))])
 |705=> .vl [.vl (jR (aN a 0).toL)]
 |706=> .vi (jE (aN a 0).toL)
 |752=>V0 (0,[.vi (jC (aN a 11).toL).length,.vi (jT (aN a 11).toL).length,.vi (aN a 11).toL.length]++jS (aN a 11).toL (aN a 11).toL.length++[.vl (jC (aN a 11).toL),.vl (jT (aN a 11).toL)])
 |707=> .vl [.vl (kr (aN a 0) (aN a 1) (aN a 2) (aN a 3) (aN a 4))]
 |708=> .vi (jE (pR (aN a 0) (aN a 1) (aN a 2) (aN a 3) (aN a 4)))
 |715=> .vl (dT spanV (aN a 0).toL)
 |716=> .vb (decide ((aN a 0).toL.map R6).Nodup)
 |721=> .vl [.vl (HF (aN a 0).toL (.vl [aN a 1,aN a 2,aN a 3]))]
 |722=> .vb (gg (aN a 0).toL (.vl [aN a 1,aN a 2,aN a 3]))
 |723=> .vl (dT spanV (dy (aN a 0).toL (aN a 1).toS))
 |750=>V0 (0,[.vi (aN a 2).toL.length,.vl ((aN a 2).toL.map W3)])
 |757=>V0 (0,[.vi (dy (aN a 3).toL (aN a 2).toS).length,.vl (dy (aN a 3).toL (aN a 2).toS)])
 |711=> .vb (!(List.range (aN a 1).toL.length).any (iz (aN a 0).toI (aN a 1).toL))
 |754=>V0 (fA (.vb false) (λk=>[.vb false,.vi k]) (iz (aN a 2).toI (aN a 5).toL) (aN a 5).toL.length)
 |713=> .vb (decide ((aN a 1).toI=((aN a 0).toL.length:Int))&&decide (0<=(aN a 2).toI)&&decide ((aN a 2).toI<=((aN a 0).toL.length:Int))&&decide ((aN a 0).toL.length<=24))
 |714=> .vl (Di (aN a 0).toL (aN a 2).toI.toNat (aN a 3) (aN a 4))
 |717=> .vl (bif fc (aN a 0).toI (aN a 1).toI (aN a 2).toL then nf (aN a 0) (aN a 1) (aN a 2).toL else [])
 |718=> .vl [.vl (bif fc (aN a 0).toI (aN a 1).toI (aN a 2).toL then [(eL (aN a 0) (aN a 1) (aN a 2).toL).1,(eL (aN a 0) (aN a 1) (aN a 2).toL).2]else [.vi 0,.vi 0])]
 |719=> .vl (bif fc (aN a 0).toI (aN a 1).toI (aN a 2).toL then Di (eP (aN a 0) (aN a 1) (aN a 2).toL) (kg (aN a 0) (aN a 1) (aN a 2).toL) (eL (aN a 0) (aN a 1) (aN a 2).toL).1 (eL (aN a 0) (aN a 1) (aN a 2).toL).2 else [])
 |720=> .vi (bif fc (aN a 0).toI (aN a 1).toI (aN a 2).toL then 0 else 2)
 |755=>V0 (0,[.vi (sL (aN a 13).toL (aN a 3).toI (aN a 4).toI).length,.vi (EB (aN a 13).toL (aN a 3).toI (aN a 4).toI).length,.vi (aN a 13).toL.length,(gS (aN a 13).toL (aN a 3) (aN a 4) (aN a 13).toL.length).1,(gS (aN a 13).toL (aN a 3) (aN a 4) (aN a 13).toL.length).2,.vl (sL (aN a 13).toL (aN a 3).toI (aN a 4).toI),.vl (EB (aN a 13).toL (aN a 3).toI (aN a 4).toI)])
 |756=>V0 (0,[.vi (jA (aN a 3).toL (aN a 4).toI (aN a 3).toL.length 0 (aN a 3).toL.length),.vi (jA (aN a 3).toL (aN a 4).toI (aN a 3).toL.length 0 (aN a 3).toL.length)])
 |724=> .vl ((gP (aN a 0) (aN a 1).toL (aN a 2) (aN a 3)).map (ck (aN a 2)))
 |725=> .vl [.vl (aN a 2::gJ (aN a 0) (aN a 1).toL (aN a 2) (aN a 3))]
 |758=>V0 (0,[.vi (aN a 10).toL.length,.vi (aN a 10).toL.length,.vl ((aN a 10).toL.map (ck (aN a 4)))])
 |727=> .vl (ko (aN a 0) (aN a 1).toL (aN a 2) (aN a 3) (aN a 4))
 |728=> .vl (jV (aN a 0) (aN a 1).toL (aN a 2) (aN a 3) (aN a 4))
 |729=> .vi (ou (aN a 0) (aN a 1).toL (aN a 2) (aN a 3) (aN a 4))
 |759=>V0 (0,[.vi (gK (aN a 14).toL (aN a 10) (aN a 11) (aN a 12)).length,.vi ((aN a 4).toL++(aN a 14).toL.map (gQ (aN a 9).toL)).length,.vi (aN a 14).toL.length,.vl (gK (aN a 14).toL (aN a 10) (aN a 11) (aN a 12)),.vl ((aN a 4).toL++(aN a 14).toL.map (gQ (aN a 9).toL))])
 |730=> .vl (dJ a)
 |731=>cj X a
 |732=> .vi (bY a)
 |760=>V0 (0,[.vi (dN (aN a 8).toL (aN a 14).toL (aN a 10) (aN a 12)),gW (aN a 8).toL (aN a 14).toL (aN a 10) (aN a 12) (aN a 1),.vi (dN (aN a 8).toL (aN a 14).toL (aN a 10) (aN a 12)),.vl (cS (aN a 8).toL (aN a 14).toL (aN a 10) (aN a 12) (dN (aN a 8).toL (aN a 14).toL (aN a 10) (aN a 12)))])
 |739=> .vb ((!decide ((aN a 0).toI=3)||decide ((aN a 1).toL.length<=24))&&Mf (aN a 2))
 |733=>eY X a
 |761=>V0 (0,[.vi (aN a 10).toL.length,cF (aN a 1) (aN a 10).toL (aN a 10).toL.length])
 |762=>V0 (0,[.vi (aN a 8).toL.length,bW (aN a 1) (aN a 8).toL (aN a 8).toL.length])
 |709=> .vi (cu (aN a 0).toI (aN a 1).toI)
 |712=> .vi (yk (aN a 0).toI (aN a 1).toI (aN a 2).toI (aN a 3).toI)
 |734=> .vb (!(List.range (min (aN a 0).toL.length 100)).any (λi=>Wj (aO (aN a 0).toL i))&&decide (((aN a 0).toL.length:Int)<=(aN a 1).toI))
 |765=>V0 (fA (.vb false) (λk=>[.vb false,.vi k]) (λi=>Wj (aO (aN a 4).toL i)) (min (aN a 4).toL.length 100))
 |735=> .vb (d82 (aN a 0).toI (aN a 1).toI (aN a 2).toI (aN a 3).toI)
 |736=> .vb (xe (aN a 0).toI (aN a 1).toI (aN a 2).toI (aN a 3).toI)
 |737=> .vi (dK5 (aN a 0).toI (aN a 1).toI)
 |738=> .vb (isVi (aN a 0)&&(isVi (aN a 1)&&(isVi (aN a 2)&&(isVi (aN a 3)&&(isVi (aN a 5)&&opsOk (aN a 4))))))
 |766=>V0 (0,[.vb false,.vi (mQ X (aN a 10) (aN a 11) (aN a 12) (aN a 13) (aN a 8).toL (aN a 8).toL.length).2.2.length,.vi (mQ X (aN a 10) (aN a 11) (aN a 12) (aN a 13) (aN a 8).toL (aN a 8).toL.length).1,.vi (aN a 8).toL.length,(mQ X (aN a 10) (aN a 11) (aN a 12) (aN a 13) (aN a 8).toL (aN a 8).toL.length).2.1,.vl (mQ X (aN a 10) (aN a 11) (aN a 12) (aN a 13) (aN a 8).toL (aN a 8).toL.length).2.2])
 |767=>V0 (0,[aN a 0,.vi (aN a 22).toL.length])
 |768=>V0 (0,[aN a 0,.vi (aN a 20).toL.length])
 |769=>V0 (0,[aN a 0,.vi (YE (aN a 12).toL (aN a 12).toL.length),.vi (aN a 12).toL.length])
 |770=>V0 (0,[.vi (XJ (aN a 8).toL ((aN a 8).toL.length-(aN a 11).toI.toNat)).length,.vi (((aN a 8).toL.length:Int)-1-(((aN a 8).toL.length-(aN a 11).toI.toNat:Nat):Int)),.vl (XJ (aN a 8).toL ((aN a 8).toL.length-(aN a 11).toI.toNat))])
 |771=>V0 (ofR X (aN a 4) (aN a 5) (aN a 6) (aN a 7) (aN a 10).toL)
 |751=>V0 (0,[.vi (aN a 5).toL.length,.vi (cT (aN a 5).toL).1,.vi (cT (aN a 5).toL).2])
 |_=>X i a
section
variable{X:Nat->List Val->Val}{I:Opq}(hf: ∀i a,I.f i a=FT X i a)
include hf
theorem t_numSum(hn:(I.w 0).toL.length<=1000000):R0 T_numSum I=some (0,[FT X 702 [I.w 0],FT X 703 [I.w 0]]):=by
 have e0:aM I uS=V0 (0,[.vi (I.w 0).toL.length,.vi (cT (I.w 0).toL).1,.vi (cT (I.w 0).toL).2]):=by
  show I.f 751 [.vi 0,.vi 0,.vi 0,.vi 0,.vi (I.w 0).toL.length,I.w 0,.vi (I.w 0).toL.length]=_;rw[hf];rfl
 unfold T_numSum;refine R4 (r:=(0,[.vi (I.w 0).toL.length,.vi (cT (I.w 0).toL).1,.vi (cT (I.w 0).toL).2])) ?_ e0 ?_
 .show S5 _ [.vi ((0:Nat):Int),.vi 0,.vi 0]=_;refine V9 (st:=λk=>[.vi k,.vi (cx (λk=>ci (aO (I.w 0).toL k) 0) k).1,.vi (cx (λk=>ci (aO (I.w 0).toL k) 0) k).2]) (n:=(I.w 0).toL.length) (λk hk=> ?_) ?_
  .have p1:(k:Int)<((I.w 0).toL.length:Int):=by omega
   have p2:(0:Int)<=(k:Int):=by omega
   have p3:=V8 hk (by omega);have p4:(S0 (I.w 0).toL (k:Int) (0:Int)).toI=ci (aO (I.w 0).toL k) 0:=rfl;unfold Ra;simp only[cx];generalize (cx (λk=>ci (aO (I.w 0).toL k) 0) k).1=s;generalize (cx (λk=>ci (aO (I.w 0).toL k) 0) k).2=o;simp[R0,R7,aM,dB,W7,T1,p1,p2,p3,p4];grind
  .unfold Ra;simp[R0,R7,aM,dB,W7,T1,cT]
 .show R0 (.ite _ _ _) I=_;have e1: ∀k:Int,(S0 (aM I uS).toL 1 k)=S1 (.vl [.vi (I.w 0).toL.length,.vi (cT (I.w 0).toL).1,.vi (cT (I.w 0).toL).2]) k.toNat:=λk=>by rw[e0];rfl
  by_cases h:(cT (I.w 0).toL).2=0
  .refine S4 ?_ ?_
   .show(!decide ((S0 (aM I uS).toL 1 2).toI=0))=false;rw[e1];show(!decide ((cT (I.w 0).toL).2=0))=false;grind
   .show some (0,[S0 (aM I uS).toL 1 1,Val.vi 0])=some (0,[Val.vi (mO (I.w 0).toL),.vi (cO (I.w 0).toL)]);rw[e1,mO,cO,e8 h,e8 h];rfl
  .refine S3 ?_ ?_
   .show(!decide ((S0 (aM I uS).toL 1 2).toI=0))=true;rw[e1];show(!decide ((cT (I.w 0).toL).2=0))=true;grind
   .show some (0,[Val.vi 0,Val.vi 30])=some (0,[Val.vi (mO (I.w 0).toL),.vi (cO (I.w 0).toL)]);simp_all[mO,cO,b9]
omit hf in
theorem t_spanP:R0 T_spanP I=some (0,[FT X 712 [I.w 0,I.w 1,I.w 2,I.w 3]]):=by
 show R0 T_spanP I=some (0,[Val.vi (yk (I.w 0).toI (I.w 1).toI (I.w 2).toI (I.w 3).toI)]);unfold T_spanP Hd Ju yk;simp[R0,R7,aM,dB,W7,a21,aj4,ad7,S6,decide_eq_true_eq];grind
omit hf in
theorem t_wRight:R0 T_wRight I=some (0,[FT X 700 [I.w 0,I.w 1,I.w 2,I.w 3]]):=by
 show R0 T_wRight I=some (0,[Val.vb (R9 (I.w 0).toI (I.w 1).toI (I.w 2).toI (I.w 3).toI)]);unfold T_wRight LM KB Qp NO Kk QI Rm R9;generalize ha:(I.w 0).toI=a;generalize hb:(I.w 1).toI=b;generalize hc:(I.w 2).toI=c;generalize hd:(I.w 3).toI=d;by_cases k1:a=1
 .by_cases q1:b<1
  .simp[R0,R7,aM,dB,W7,ha,hb,hc,hd,k1,q1,J2.2 q1]
  by_cases q2:1048576<b
  .simp[R0,R7,aM,dB,W7,ha,hb,hc,hd,k1,q1,q2,J2.2 q2]
  .simp[R0,R7,aM,dB,W7,ha,hb,hc,hd,k1,q1,q2,show 1<=b by omega,show b<=1048576 by omega]
 by_cases k2:a=2
 .by_cases q1:b<1
  .simp[R0,R7,aM,dB,W7,ha,hb,hc,hd,k1,k2,q1];omega
  by_cases q2:1048576<b
  .simp[R0,R7,aM,dB,W7,ha,hb,hc,hd,k1,k2,q1,q2];omega
  by_cases q3:c<1
  .simp[R0,R7,aM,dB,W7,ha,hb,hc,hd,k1,k2,q1,q2,q3];omega
  by_cases q4:1048576<c
  .simp[R0,R7,aM,dB,W7,ha,hb,hc,hd,k1,k2,q1,q2,q3,q4];omega
  have m1:aS .rem .i64 b c=b % c:=by
   exact Q0 (by omega)
  have m2:aS .quo .i64 b c=b/c:=by
   show IntKind.i64.wrap (b.tdiv c)=b/c;have h1:0<=b/c:=Q1 (by omega) (by omega);have h2:b/c<=b:=M6 _ (by omega);grind[iF]
  have c0: ¬c=0:=by omega
  have e1:1<=b:=by omega
  have e2:b<=1048576:=by omega
  have e3:1<=c:=by omega
  have e4:c<=1048576:=by omega
  by_cases q5:d=0<;>by_cases q6:b % c=0<;>simp[R0,R7,aM,dB,W7,ha,hb,hc,hd,k2,q1,q2,q3,q4,q5,q6,m1,m2,c0,e1,e2,e3,e4]
 .by_cases k3:a=3
  .by_cases q1:d<1
   .simp[R0,R7,aM,dB,W7,ha,hb,hc,hd,k1,k2,k3,q1,J2.2 q1]
   by_cases q2:1048576<d
   .simp[R0,R7,aM,dB,W7,ha,hb,hc,hd,k1,k2,k3,q1,q2,J2.2 q2]
   .simp[R0,R7,aM,dB,W7,ha,hb,hc,hd,k1,k2,k3,q1,q2,show 1<=d by omega,show d<=1048576 by omega]
  simp_all[R0,R7,aM,dB,W7]
omit hf in
theorem t_evRight0(h:(I.w 0).toI<1\/2<(I.w 0).toI):R0 T_evRight0 I=some (0,[FT X 701 [I.w 0,I.w 1,I.w 2,I.w 3]]):=by
 show R0 T_evRight0 I=some (0,[Val.vi (S8 (I.w 0).toI (I.w 1).toS (I.w 2).toI (I.w 3).toI)]);unfold T_evRight0 S8;rw[e8 h];by_cases h1:(I.w 0).toI<1
 .exact S3 (e9 h1) rfl
 .exact S4 (j5 h1) (S3 (e9 (show(2:Int)<(I.w 0).toI by omega)) rfl)
omit hf in
theorem t_evRight1(h:(I.w 0).toI=1):R0 T_evRight1 I=some (0,[FT X 701 [I.w 0,I.w 1,I.w 2,I.w 3]]):=by
 show R0 T_evRight1 I=some (0,[Val.vi (S8 (I.w 0).toI (I.w 1).toS (I.w 2).toI (I.w 3).toI)]);rw[h];unfold T_evRight1 S8 U8;generalize hk:(I.w 1).toS=k;generalize ht:(I.w 2).toI=t;by_cases k0:k=[]
 .simp_all[R0,R7,aM,dB,W7]
 .by_cases k1:32<k.length
  .have: ¬((k.length:Int)<=32):=by omega
   simp_all[R0,R7,aM,dB,W7]
  .have:(k.length:Int)<=32:=by omega
   by_cases t1:t< -1099511627776<;>by_cases t2:1099511627776<t<;>simp[R0,R7,aM,dB,W7,hk,ht,k0,k1,this,t1,t2,J2.2,C9.1]<;>omega
omit hf in
theorem t_evRight2(h:(I.w 0).toI=2):R0 T_evRight2 I=some (0,[FT X 701 [I.w 0,I.w 1,I.w 2,I.w 3]]):=by
 show R0 T_evRight2 I=some (0,[Val.vi (S8 (I.w 0).toI (I.w 1).toS (I.w 2).toI (I.w 3).toI)]);rw[h];unfold T_evRight2 S8 U8;generalize hk:(I.w 1).toS=k;generalize ht:(I.w 2).toI=t;generalize hv:(I.w 3).toI=v;by_cases k0:k=[]<;>by_cases k1:v=0<;>simp[R0,R7,aM,dB,W7,hk,ht,hv,k0,k1];grind
omit hf in
theorem t_down(h1:1<=(I.w 1).toI)(h2:(I.w 1).toI<=1048576)(h3: -1099511627776<=(I.w 0).toI)(h4:(I.w 0).toI<=1099511627776):R0 T_down I=some (0,[FT X 709 [I.w 0,I.w 1],.vi 0]):=by
 show R0 T_down I=some (0,[Val.vi (cu (I.w 0).toI (I.w 1).toI),Val.vi 0]);unfold T_down Et Ha Km CR AJ cu;generalize ha:(I.w 0).toI=n at h3 h4;generalize hb:(I.w 1).toI=d at h1 h2;have q0:=G3 n (show d≠0 by omega);have q1:=G4 n (show 0<d by omega);have d0: ¬d<=0:=by omega
 have d1: ¬d=0:=by omega
 have hr:(aS .rem .i64 n d<0/\aS .add .i64 (aS .rem .i64 n d) d=n % d)\/(0<=aS .rem .i64 n d/\aS .rem .i64 n d=n % d):=by
  show(n.tmod d<0/\IntKind.i64.wrap (n.tmod d+d)=n % d)\/(0<=n.tmod d/\n.tmod d=n % d);have t1:n.tmod d=n-d*n.tdiv d:=Int.tmod_def n d;have t2:=M7 n d;by_cases hn:0<=n
  .grind
  .have t3:n.tmod d= -((-n) % d):=by
    rw[show n= -(-n) by omega,Int.neg_tmod,Q0 (by omega)];simp
   have t4:(-n) % d=if n % d=0 then 0 else d-n % d:=by
    grind[Int.neg_emod,Int.dvd_iff_emod_eq_zero]
   by_cases z:n % d=0
   .omega
   .left;rw[t3,t4,b9 z];grind[iF]
 have hs:aS .sub .i64 n (n % d)=n-n % d:=gv (by omega) (by omega);rcases hr with⟨r1,r2⟩|⟨r1,r2⟩
 .by_cases z:0<=n
  .simp_all[R0,R7,aM,dB,W7]
  .have: ¬0<=n-n % d:=by omega
   simp[R0,R7,aM,dB,W7,ha,hb,d0,d1,r1,r2,hs,q0,z,this];omega
 .have r3: ¬aS .rem .i64 n d<0:=by omega
  rw[r2]at r3;by_cases z:0<=n
  .simp[R0,R7,aM,dB,W7,ha,hb,d0,d1,r2,r3,hs,q0,z]
  .have: ¬0<=n-n % d:=by omega
   simp[R0,R7,aM,dB,W7,ha,hb,d0,d1,r2,r3,hs,q0,z,this];omega
end
end Go.Ev.S9
