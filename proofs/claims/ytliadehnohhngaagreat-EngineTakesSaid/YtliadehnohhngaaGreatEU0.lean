import Derived.Test.YtliadehnohhngaaGreatE1
import Derived.Test.YtliadehnohhngaaGreatEQ1
import Derived.Test.YtliadehnohhngaaGreatEQ0
set_option linter.all false
namespace Go.Ev.S9
open Go Go.Ev
def RM:SX:= zs (.V 2) (zm (.V 0) (.V 1))
def UT_late:VT:= .J (eQ (.V 1) (.C 0)) (.J (zb (.V 1) 1048576) (.J (zn (cF (.V 0) (.C (-2199023255552))) (cF (.V 1) (.V 1))) (.W 0 [RM]) (.J (eQ (.V 0) (.C (-1099511627776))) (.J (zb (.V 0) 1099511627776) (.W 0 [RM]) (.W 0 [.cb false])) (.W 0 [.cb false]))) (.W 0 [.cb false])) (.W 0 [.cb false])
def WN:SX:= zs (.V 2) (zm (.V 0) (.V 1))
def UT_rLate:VT:= .J (eQ (.V 1) (.C 0)) (.J (zb (.V 1) 1048576) (.J (cF (.V 0) (.C (-2199023255552))) (.W 0 [WN]) (.J (eQ (.V 0) (.C (-1099511627776))) (.J (zb (.V 0) 1099511627776) (.W 0 [WN]) (.W 0 [.cb false])) (.W 0 [.cb false]))) (.W 0 [.cb false])) (.W 0 [.cb false])
def UT_cRight:VT:= .J (eQ (.V 4) (.C 0)) (.J (zb (.V 4) 1048576) (.J (.Q 700 [.V 0,.V 1,.V 2,.V 3]) (.J (eQ (.V 5) (.C 1)) (.W 0 [zb (.V 5) 4096]) (.W 0 [.cb false])) (.W 0 [.cb false])) (.W 0 [.cb false])) (.W 0 [.cb false])
def UT_rCRight:VT:= .J (.Q 700 [.V 0,.V 1,.V 2,.V 3]) (.J (eQ (.V 4) (.C 0)) (.J (zb (.V 4) 1048576) (.J (eQ (.V 5) (.C 1)) (.W 0 [zb (.V 5) 4096]) (.W 0 [.cb false])) (.W 0 [.cb false])) (.W 0 [.cb false])) (.W 0 [.cb false])
def UT_wNew:VT:= .J (eQ (.V 0) (.C 0)) (.J (zb (.V 0) 1048576) (.W 0 [.C (-2199023255552),.V 0,.C 0]) (.W 0 [.C 0,.C 0,.C 2])) (.W 0 [.C 0,.C 0,.C 2])
def Ro:SX:= eQ (.V 2) (.C (-1099511627776))
def Sc:SX:= dR (zb (.V 2) 1099511627776)
def Wt:SX:= zs (.V 2) (.V 0)
def UT_adv:VT:= .J (eQ (.V 1) (.C 0)) (.J (zb (.V 1) 1048576) (.J (zn (cF (.V 0) (.C (-2199023255552))) (cF (.V 1) (.V 1))) (.J (Ro) (.J (Sc) (.W 0 [.V 0,.V 1,.C 61]) (.J (Wt) (.W 0 [.V 0,.V 1,.C 181]) (.W 0 [.V 2,.V 1,.C 0]))) (.W 0 [.V 0,.V 1,.C 61])) (.J (eQ (.V 0) (.C (-1099511627776))) (.J (dR (zb (.V 0) 1099511627776)) (.W 0 [.V 0,.V 1,.C 2]) (.J (Ro) (.J (Sc) (.W 0 [.V 0,.V 1,.C 61]) (.J (Wt) (.W 0 [.V 0,.V 1,.C 181]) (.W 0 [.V 2,.V 1,.C 0]))) (.W 0 [.V 0,.V 1,.C 61]))) (.W 0 [.V 0,.V 1,.C 2]))) (.W 0 [.V 0,.V 1,.C 2])) (.W 0 [.V 0,.V 1,.C 2])
def Fb:SX:= zb (zl 9) 1000000
def UT_taken:VT:= .J (zs (.C 0) (zl 9)) (.N (Fb) (.W 0 [.V 9])) (.both (.W 0 [co]) (.N (Fb) (.W 0 [.V 9])))
def Lr:VT:= .J (zs (.V 2001) (zl 0)) (.J (zs (.V 2001) (.C 100)) (.N (zp (.V 2001)) (.J (zt (.O .slen [zg 0 2001 2]) 50) (.W 2 [.cb false,.V 2001]) (.J (zs (zg 0 2001 5) (.C (-1000000))) (.W 2 [.cb false,.V 2001]) (.J (zt (zg 0 2001 5) 1000000) (.W 2 [.cb false,.V 2001]) (.W 0 [.V 2000,zi (.V 2001)]))))) (.W 1 [.V 2000,.V 2001])) (.W 1 [.V 2000,.V 2001])
def UT_few:VT:= .loop ⟨960,[.cb false,.C 0],2000,[.C 0,zl 0,.V 0,.V 1]⟩ Lr [.W 0 [eE (zl 0) (.V 1)],.W 0 [zo (.Q 960 [.cb false,.C 0,.C 0,zl 0,.V 0,.V 1]) 0]]
def AJ:SX:= .O (.ar .sub .u64) [.V 11,.C 1]
def UT_cut:VT:= .J (dF (.V 11) (.O (.conv .u64) [zl 10])) (.W 0 [.C 0,.cb false]) (.J (ze (.V 11) 0) (.W 0 [.C 0,.cb true]) (.N (zn (zp AJ) (zs AJ (zl 10))) (.W 0 [cq (.V 10) AJ 0,.cb true])))
def zD:SX:= .O (.ar .sub .u64) [.V 8,.C 1]
def UT_rCut:VT:= .J (ze (.V 8) 0) (.W 0 [.C 0,.cb true]) (.J (dF (.V 8) (.O (.conv .u64) [zl 7])) (.W 0 [.C 0,.cb false]) (.N (zn (zp zD) (zs zD (zl 7))) (.W 0 [cq (.V 7) zD 0,.cb true])))
def UT_pend:VT:= .N (zn (zn (zb (zl 7) 400) (.Q 431 [.V 7])) (.Q 491 [.V 7])) (.N (zn (zb (zl 8) 400) (zb (zL (.Q 726 [.V 7,.V 0])) 400)) (.W 0 [.Q 208 [.V 8,.Q 726 [.V 7,.V 0]]]))
def Oa:SX:= .Q 701 [.V 11,.V 12,.V 13,.V 14]
def KW:SX:= zn (zn (zb (zl 7) 400) (.Q 431 [.V 7])) (.Q 491 [.V 7])
def Qw:SX:= .Q 732 [.V 3,.V 4,.V 5,.V 6,.V 7,.V 11,.V 12,.V 13,.V 14]
def xU:SX:= .Q 733 [.V 3,.V 4,.V 5,.V 6,.V 7,.V 11,.V 12,.V 13,.V 14]
def cM4:SX:= zb (zl 8) 400
def LT:SX:= .Q 953 [.V 0,.V 1,.V 2,.V 3,.V 4,.V 5,.V 6,.V 7,.V 8,.V 9,.V 10]
def cM5:SX:= zL (.Q 208 [.V 8,.Q 726 [xU,.V 0]])
def sY:SX:= zL (.Q 951 [.V 0,.V 1,.V 2,.V 3,.V 4,.V 5,.V 6,.V 7,.V 8,.V 9,.V 10])
def Ml:SX:= .Q 947 [.V 0,.V 1,.V 13]
def cM6:SX:= .Q 726 [.V 7,.Q 946 [.V 0,.V 1,.V 13]]
def c95:SX:= zL (.Q 208 [.V 8,cM6])
def UT_tryE:VT:= .J (cX Oa (.C 0)) (.W 0 [Oa]) (.J (ze (.V 11) 1) (.J (.Q 945 [.V 0,.V 1,.V 13]) (.W 0 [.C 180]) (.N (zn KW (.Q 739 [.V 3,.V 7,.V 12])) (.J (cX Qw (.C 0)) (.W 0 [Qw]) (.N (zn (zn (zb (zL xU) 400) (.Q 431 [xU])) (.Q 491 [xU])) (.N (zn cM4 (zb (zL (.Q 726 [xU,.V 0])) 400)) (.N LT (.J (dF cM5 sY) (.J (dF (.V 15) (zm (.V 2) cM5)) (.W 0 [.C 160]) (.W 0 [.C 0])) (.W 0 [.C 0])))))))) (.J (cX Ml (.C 0)) (.W 0 [Ml]) (.N KW (.N (zn cM4 (zb (zL cM6) 400)) (.N LT (.J (dF c95 sY) (.J (dF (.V 15) (zm (.V 2) c95)) (.W 0 [.C 160]) (.W 0 [.C 0])) (.W 0 [.C 0])))))))
def ul:SX:= .O (.conv .u64) [zl 7]
def Uf:SX:= zp (.Q 938 [.V 7,ul])
def KY:SX:= .O .iadd [.C 0,.Q 938 [.V 7,ul]]
def xi:SX:= .O .lsub [.V 6,.C 0,KY]
def XM:SX:= .Q 828 [.V 0,.V 1,.V 2,.V 3,.Q 830 [xi]]
def TV:SX:= .Q 828 [.V 0,.V 1,.V 2,.V 3,.Q 830 [.V 8]]
def MG:SX:= .Q 832 [XM,.Q 831 [xi]]
def LB:SX:= .Q 832 [TV,.Q 831 [.V 8]]
def UT_rChg:VT:= .N (.Q 937 [.V 7,ul]) (.N (zn Uf (eE (.Q 938 [.V 7,ul]) (zl 6))) (.N (zn (zn (zp (.C 0)) (zn Uf (eE KY (zl 6)))) (zb (zL xi) 100)) (.N (zn (zb (zL (.Q 830 [xi])) 100) (.Q 840 [.V 0,.V 1,.V 2,.V 3,.Q 830 [xi]])) (.N (zn (zb (zL XM) 400) (.Q 431 [XM])) (.N (zb (zl 8) 100) (.N (zn (zb (zL (.Q 830 [.V 8])) 100) (.Q 840 [.V 0,.V 1,.V 2,.V 3,.Q 830 [.V 8]])) (.N (zn (zb (zL TV) 400) (.Q 431 [TV])) (.N (zn (zb (zL MG) 400) (zb (zL LB) 400)) (.W 0 [.Q 208 [MG,LB]])))))))))
def DO:SX:= .Q 701 [.V 8,.V 9,.V 10,.V 11]
def yX:SX:= ze (.V 8) 1
def ED:SX:= .Q 945 [.Q 831 [.V 6],.V 4,.V 10]
def Hf:SX:= zb (zl 6) 1000000
def lK:SX:= zc (.V 6) (.O .row [.O .row [.V 8,.V 9,.V 10,.V 11]])
def Jp:SX:= zb (zL lK) 1000000
def GI:SX:= zb (zL lK) 100
def EH:SX:= zn (zb (zL (.Q 830 [lK])) 100) (.Q 840 [.V 0,.V 1,.V 2,.V 3,.Q 830 [lK]])
def Fw:SX:= dR (.Q 829 [.V 0,.V 1,.V 2,.V 3,.Q 830 [lK]])
def GL:SX:= .Q 957 [.V 0,.V 1,.V 2,.V 3,.V 4,.V 5,.V 6,.V 7,lK]
def Ka:SX:= .Q 957 [.V 0,.V 1,.V 2,.V 3,.V 4,.V 5,.V 6,.V 7,.V 6]
def ZD:SX:= zL (.Q 956 [.V 0,.V 1,.V 2,.V 3,.V 4,.V 5,.V 6,.V 7,lK])
def Ir:SX:= dF ZD (zL (.Q 956 [.V 0,.V 1,.V 2,.V 3,.V 4,.V 5,.V 6,.V 7,.V 6]))
def Gq:SX:= dF (.V 12) (zm (.V 5) ZD)
def UT_rTryE:VT:= .J (cX DO (.C 0)) (.W 0 [DO]) (.N (zb (zl 6) 100) (.J (ze (.V 8) 2) (.J (zs (.V 10) (.Q 831 [.V 6])) (.W 0 [.C 181]) (.J yX (.J ED (.W 0 [.C 180]) (.N Hf (.N Jp (.N GI (.N EH (.J Fw (.W 0 [.C 30]) (.N GL (.N Ka (.J Ir (.J Gq (.W 0 [.C 160]) (.W 0 [.C 0])) (.W 0 [.C 0])))))))))) (.N Hf (.N Jp (.N GI (.N EH (.J Fw (.W 0 [.C 30]) (.N GL (.N Ka (.J Ir (.J Gq (.W 0 [.C 160]) (.W 0 [.C 0])) (.W 0 [.C 0]))))))))))) (.J yX (.J ED (.W 0 [.C 180]) (.N Hf (.N Jp (.N GI (.N EH (.J Fw (.W 0 [.C 30]) (.N GL (.N Ka (.J Ir (.J Gq (.W 0 [.C 160]) (.W 0 [.C 0])) (.W 0 [.C 0])))))))))) (.N Hf (.N Jp (.N GI (.N EH (.J Fw (.W 0 [.C 30]) (.N GL (.N Ka (.J Ir (.J Gq (.W 0 [.C 160]) (.W 0 [.C 0])) (.W 0 [.C 0]))))))))))))
def QF:VT:= .J (zs (.V 5001) (zl 9)) (.N (zp (.V 5001)) (.N (zs (.V 5001) (zl 5002)) (.N (zs (.V 5001) (zl 17)) (.J (dR (zn (cF (zg 5002 5001 0) (zg 17 5001 0)) (zn (.O (.scmp .eql) [zg 5002 5001 1,zg 17 5001 1]) (zn (cF (zg 5002 5001 2) (zg 17 5001 2)) (cF (zg 5002 5001 3) (zg 17 5001 3)))))) (.W 2 [.cb false,.V 5001,.V 5002]) (.W 0 [.V 5000,zi (.V 5001),.O .lset [.V 5002,.V 5001,.O .row [.C 0,.cs [],.C 0,.C 0]]]))))) (.W 1 [.V 5000,.V 5001,.V 5002])
def ev3:VT:= .J (zs (.V 2000) (zL (.Q 726 [.V 7,.V 0]))) (.N (zp (.V 2000)) (.N (zs (.V 2000) (zl 2001)) (.W 0 [zi (.V 2000),.O .lset [.V 2001,.V 2000,.O .row [.cs [63],.C 0,.C 0,.C 0,.C 0,.C 0,.C 0]]]))) (.W 1 [.V 2000,.V 2001])
def ev4:VT:= .J (zs (.V 5000) sY) (.N (zp (.V 5000)) (.N (zs (.V 5000) (zl 5001)) (.W 0 [zi (.V 5000),.O .lset [.V 5001,.V 5000,.O .row [.cs [],.C 0,.C 0,.cb false,.C 0,.C 0,.C 0,.C 0]]]))) (.W 1 [.V 5000,.V 5001])
def Z0:SX:= zb (zl 17) 100
def Z1:SX:= .Q 828 [.V 11,.V 12,.V 13,.V 14,.Q 830 [.V 17]]
def Z2:SX:= .Q 951 [.V 0,.V 1,.V 2,.V 3,.V 4,.V 5,.V 6,.V 7,.V 8,.V 9,.V 10]
def Z3:SX:= zo (.Q 962 [.V 1500,.C 0,.V 9,.V 0,.V 1,.V 2,.C 0,zl 8,.C 0,zl 9,.C 0,zl 10,.V 3,.V 4,.V 5,.V 6,.V 8,.V 9,.V 10,.V 11,.V 12,.V 13,.V 14,.V 15,.V 16,.C 0,zl 17,.C 0,zl 18,.V 17,.V 18,.V 1501,zL (.Q 726 [.V 7,.V 0]),.Q 726 [.V 7,.V 0],sY,Z2,zl 9,.V 9]) 0
def Zi:VT:= .J (zs (.V 1501) (.C 2)) (.N KW (.N LT (.N (zn Fb (.Q 948 [.V 9])) (.N (zn (zb (zL (.Q 726 [.V 7,.V 0])) 400) (.Q 431 [.Q 726 [.V 7,.V 0]])) (.N Z0 (.N (zn (zb (zL (.Q 830 [.V 17])) 100) (.Q 840 [.V 11,.V 12,.V 13,.V 14,.Q 830 [.V 17]])) (.N (zn (zb (zL Z1) 400) (.Q 431 [Z1])) (.N (zb (zL (.Q 726 [.V 7,.V 0])) 1000000) (.J (dR (.Q 3 [.Q 726 [.V 7,.V 0],.Q 832 [Z1,.Q 831 [.V 17]]])) (.W 2 [.cb false,.V 1501]) (.N (zn (zb sY 1000) (.Q 433 [Z2])) (.N (.Q 957 [.V 11,.V 12,.V 13,.V 14,.V 15,.V 16,.V 17,.V 18,.V 17]) (.N (zb sY 1000000) (.J (dR (.Q 201 [Z2,.Q 956 [.V 11,.V 12,.V 13,.V 14,.V 15,.V 16,.V 17,.V 18,.V 17]])) (.W 2 [.cb false,.V 1501]) (.J (cX (zl 9) (zl 17)) (.W 2 [.cb false,.V 1501]) (.loop ⟨962,[.V 1500,.C 0,.V 9],5000,[.V 0,.V 1,.V 2,.C 0,zl 8,.C 0,zl 9,.C 0,zl 10,.V 3,.V 4,.V 5,.V 6,.V 8,.V 9,.V 10,.V 11,.V 12,.V 13,.V 14,.V 15,.V 16,.C 0,zl 17,.C 0,zl 18,.V 17,.V 18,.V 1501,zL (.Q 726 [.V 7,.V 0]),.Q 726 [.V 7,.V 0],sY,Z2,zl 9,.V 9]⟩ QF [.loop ⟨456,[.C 0,.Q 726 [.V 7,.V 0]],2000,[zL (.Q 726 [.V 7,.V 0]),.Q 726 [.V 7,.V 0]]⟩ ev3 [.loop ⟨963,[.C 0,Z2],5000,[.V 0,.V 1,.V 2,.C 0,zl 8,.C 0,zl 9,.C 0,zl 10,.V 3,.V 4,.V 5,.V 6,.V 8,.V 9,.V 10,.V 11,.V 12,.V 13,.V 14,.V 15,.V 16,.C 0,zl 17,.C 0,zl 18,.V 17,.V 18,.V 1501,sY,Z2]⟩ ev4 [.W 0 [Z3,zi (.V 1501)]]],.W 2 [Z3,.V 1501]]))))))))))))))) (.W 1 [.V 1500,.V 1501])
def UT_is:VT:= .N (.Q 937 [.V 10,.V 19]) (.N (.Q 937 [.V 18,.V 19]) (.J (cX (.O (.conv .u64) [zl 10]) (.O (.conv .u64) [zl 18])) (.W 0 [.cb false]) (.N Z0 (.J (cX (.V 0) (.Q 831 [.V 17])) (.W 0 [.cb false]) (.J (cX (.Q 938 [.V 10,.V 19]) (.Q 938 [.V 18,.V 19])) (.W 0 [.cb false]) (.J (dR (.O .beq [.Q 939 [.V 10,.V 19],.Q 939 [.V 18,.V 19]])) (.W 0 [.cb false]) (.loop ⟨961,[.cb false,.C 0],1500,[.V 0,.V 1,.V 2,.C 0,zl 8,.C 0,zl 9,.C 0,zl 10,.V 3,.V 4,.V 5,.V 6,.V 8,.V 9,.V 10,.V 11,.V 12,.V 13,.V 14,.V 15,.V 16,.C 0,zl 17,.C 0,zl 18,.V 17,.V 18]⟩ Zi [.W 0 [.cb true],.W 0 [zo (.Q 961 [.cb false,.C 0,.V 0,.V 1,.V 2,.C 0,zl 8,.C 0,zl 9,.C 0,zl 10,.V 3,.V 4,.V 5,.V 6,.V 8,.V 9,.V 10,.V 11,.V 12,.V 13,.V 14,.V 15,.V 16,.C 0,zl 17,.C 0,zl 18,.V 17,.V 18]) 0]])))))))
def Z4:SX:= zn (zn (zp (.V 1503)) (eE (.V 1503) (zl 1509))) (zn (zn (zp (.V 1504)) (eE (.V 1504) (zl 1510))) (zn (zp (.V 1505)) (eE (.V 1505) (zl 1511))))
def Z5:SX:= .Q 953 [.V 1502,.Q 942 [.V 4],.V 5,.V 0,.V 1,.V 2,.V 3,.V 1508,.O .lsub [.V 1509,.C 0,.V 1503],.O .lsub [.V 1510,.C 0,.V 1504],.O .lsub [.V 1511,.C 0,.V 1505]]
def Z6:SX:= zn (zn (zb (zl 1508) 400) (.Q 431 [.V 1508])) (.Q 491 [.V 1508])
def Z7:SX:= zc (.V 1511) (.O .row [.O .row [.V 1504]])
def Z8:SX:= zc (.V 1513) (.O .row [.O .row [.V 1506]])
def Z9:SX:= zn (zp (.V 1506)) (eE (.V 1506) (zl 1512))
def OJ:SX:= zn (zp (.V 1507)) (eE (.V 1507) (zl 1513))
def rU:SX:= .Q 951 [.V 1502,.Q 942 [.V 4],.V 5,.V 0,.V 1,.V 2,.V 3,.V 1508,.O .lsub [.V 1509,.C 0,.V 1503],.O .lsub [.V 1510,.C 0,.V 1504],.O .lsub [.V 1511,.C 0,.V 1505]]
def oZ:SX:= .Q 954 [.V 0,.V 1,.V 2,.V 3,.V 4,.V 5,.O .lsub [.V 1512,.C 0,.V 1506],.O .lsub [.V 1513,.C 0,.V 1507],zg 6 1501 1,zg 6 1501 2,zg 6 1501 3,zg 6 1501 4,zg 6 1501 5]
def UP:SX:= .Q 954 [.V 1502,.Q 942 [.V 4],.V 5,.V 0,.V 1,.V 2,.V 3,.V 1508,.O .lsub [.V 1509,.C 0,.V 1503],.O .lsub [.V 1510,.C 0,.V 1504],.O .lsub [.V 1511,.C 0,.V 1505],zg 6 1501 1,zg 6 1501 2,zg 6 1501 3,zg 6 1501 4,zg 6 1501 5]
def VF:SX:= .Q 958 [.V 1502,.Q 942 [.V 4],.V 5,.V 0,.V 1,.V 2,.V 3,.V 1508,.O .lsub [.V 1509,.C 0,.V 1503],.O .lsub [.V 1510,.C 0,.V 1504],.O .lsub [.V 1511,.C 0,.V 1505],.V 0,.V 1,.V 2,.V 3,.V 4,.V 5,.O .lsub [.V 1512,.C 0,.V 1506],.O .lsub [.V 1513,.C 0,.V 1507],.V 7]
def Nm:SX:= .Q 701 [zg 6 1501 1,zg 6 1501 2,zg 6 1501 3,zg 6 1501 4]
def VP:SX:= ze (zg 6 1501 1) 1
def XZ:SX:= .Q 945 [.V 1502,.Q 942 [.V 4],zg 6 1501 3]
def Xy:SX:= zn Z6 (.Q 739 [.V 0,.V 1508,zg 6 1501 2])
def Nz:SX:= .Q 732 [.V 0,.V 1,.V 2,.V 3,.V 1508,zg 6 1501 1,zg 6 1501 2,zg 6 1501 3,zg 6 1501 4]
def na:SX:= .Q 733 [.V 0,.V 1,.V 2,.V 3,.V 1508,zg 6 1501 1,zg 6 1501 2,zg 6 1501 3,zg 6 1501 4]
def SC:SX:= zn (zn (zb (zL na) 400) (.Q 431 [na])) (.Q 491 [na])
def Z22:SX:= zb (zL (.O .lsub [.V 1509,.C 0,.V 1503])) 400
def TJ:SX:= zn Z22 (zb (zL (.Q 726 [na,.V 1502])) 400)
def Ov:SX:= zL (.Q 208 [.O .lsub [.V 1509,.C 0,.V 1503],.Q 726 [na,.V 1502]])
def Z25:SX:= dF (zg 6 1501 5) (zm (.V 5) Ov)
def dM:SX:= .O .row [.O .row [zg 6 1501 1,zg 6 1501 2,zg 6 1501 3,zg 6 1501 4]]
def vZ:SX:= zn (cF (.V 1504) (zl 1510)) (zb (zL (zc (.V 1510) dM)) 1000000)
def Z28:SX:= .Q 958 [.V 1502,.Q 942 [.V 4],.V 5,.V 0,.V 1,.V 2,.V 3,na,.O .lsub [.V 1509,.C 0,.V 1503],zc (.V 1510) dM,.O .lsub [.V 1511,.C 0,.V 1505],.V 0,.V 1,.V 2,.V 3,.V 4,.V 5,.O .lsub [.V 1512,.C 0,.V 1506],.O .lsub [.V 1513,.C 0,.V 1507],.V 7]
def QH:SX:= .Q 947 [.V 1502,.Q 942 [.V 4],zg 6 1501 3]
def pW:SX:= .Q 946 [.V 1502,.Q 942 [.V 4],zg 6 1501 3]
def Vx:SX:= zn Z22 (zb (zL (.Q 726 [.V 1508,pW])) 400)
def QT:SX:= zL (.Q 208 [.O .lsub [.V 1509,.C 0,.V 1503],.Q 726 [.V 1508,pW]])
def Zl:SX:= dF (zg 6 1501 5) (zm (.V 5) QT)
def Z34:SX:= .Q 958 [pW,.Q 942 [.V 4],.V 5,.V 0,.V 1,.V 2,.V 3,.V 1508,.O .lsub [.V 1509,.C 0,.V 1503],zc (.V 1510) dM,.O .lsub [.V 1511,.C 0,.V 1505],.V 0,.V 1,.V 2,.V 3,.V 4,.V 5,.O .lsub [.V 1512,.C 0,.V 1506],.O .lsub [.V 1513,.C 0,.V 1507],.V 7]
def Z35:SX:= .Q 958 [.V 1502,.Q 942 [.V 4],.V 5,.V 0,.V 1,.V 2,.V 3,na,.O .lsub [.V 1509,.C 0,.V 1503],zc (.V 1510) dM,.O .lsub [.V 1511,.C 0,.V 1505],.V 0,.V 1,.V 2,.V 3,.V 4,.V 5,zc (.V 1512) dM,.O .lsub [.V 1513,.C 0,.V 1507],.V 7]
def Z36:SX:= .Q 958 [pW,.Q 942 [.V 4],.V 5,.V 0,.V 1,.V 2,.V 3,.V 1508,.O .lsub [.V 1509,.C 0,.V 1503],zc (.V 1510) dM,.O .lsub [.V 1511,.C 0,.V 1505],.V 0,.V 1,.V 2,.V 3,.V 4,.V 5,zc (.V 1512) dM,.O .lsub [.V 1513,.C 0,.V 1507],.V 7]
def UD:VT:= .J (zs (.V 1501) (zl 6)) (.N (zp (.V 1501)) (.J (zg 6 1501 0) (.N (zn Z4 Z5) (.N Z6 (.N (zn (cF (.V 1505) (zl 1511)) (zb (zL Z7) 1000000)) (.N (zn (cF (.V 1507) (zl 1513)) (zb (zl 1513) 1000000)) (.N (zp (.V 1506)) (.N (zb (zL Z8) 1000000) (.N (zn (zn Z9 (zn OJ Z9)) (.Q 957 [.V 0,.V 1,.V 2,.V 3,.V 4,.V 5,.O .lsub [.V 1512,.C 0,.V 1506],.O .lsub [.V 1513,.C 0,.V 1507],.O .lsub [.V 1512,.C 0,.V 1506]])) (.J (cX (.O (.conv .u64) [zL Z7]) (.O (.conv .u64) [zL Z8])) (.W 2 [.cb false,.V 1501,.V 1502,zL (.Q 726 [.V 1508,.V 1502]),.V 1504,zL Z7,.V 1506,zL Z8,.V 1508,.Q 726 [.V 1508,.V 1502],.V 1510,Z7,.V 1512,Z8]) (.N (zn (zb (zL rU) 1000) (.Q 433 [rU])) (.N (zb (zL rU) 1000000) (.J (dR (.Q 201 [rU,.Q 956 [.V 0,.V 1,.V 2,.V 3,.V 4,.V 5,.O .lsub [.V 1512,.C 0,.V 1506],.O .lsub [.V 1513,.C 0,.V 1507],.O .lsub [.V 1512,.C 0,.V 1506]]])) (.W 2 [.cb false,.V 1501,.V 1502,zL (.Q 726 [.V 1508,.V 1502]),.V 1504,zL Z7,.V 1506,zL Z8,.V 1508,.Q 726 [.V 1508,.V 1502],.V 1510,Z7,.V 1512,Z8]) (.N (.Q 958 [.V 1502,.Q 942 [.V 4],.V 5,.V 0,.V 1,.V 2,.V 3,.V 1508,.Q 726 [.V 1508,.V 1502],.O .lsub [.V 1510,.C 0,.V 1504],Z7,.V 0,.V 1,.V 2,.V 3,.V 4,.V 5,.O .lsub [.V 1512,.C 0,.V 1506],Z8,.V 7]) (.W 0 [.V 1500,zi (.V 1501),.V 1502,zL (.Q 726 [.V 1508,.V 1502]),.V 1504,zL Z7,.V 1506,zL Z8,.V 1508,.Q 726 [.V 1508,.V 1502],.V 1510,Z7,.V 1512,Z8]))))))))))))) (.N (zn Z4 (.Q 955 [.V 1502,.Q 942 [.V 4],.V 5,.V 0,.V 1,.V 2,.V 3,.V 1508,.O .lsub [.V 1509,.C 0,.V 1503],.O .lsub [.V 1510,.C 0,.V 1504],.O .lsub [.V 1511,.C 0,.V 1505],zg 6 1501 1,zg 6 1501 2,zg 6 1501 3,zg 6 1501 4,zg 6 1501 5])) (.N (zn (zn Z9 OJ) (.Q 955 [.V 0,.V 1,.V 2,.V 3,.V 4,.V 5,.O .lsub [.V 1512,.C 0,.V 1506],.O .lsub [.V 1513,.C 0,.V 1507],zg 6 1501 1,zg 6 1501 2,zg 6 1501 3,zg 6 1501 4,zg 6 1501 5])) (.J (cX oZ (.C 0)) (.J (cX UP oZ) (.W 2 [.cb false,.V 1501,.V 1502,.V 1503,.V 1504,.V 1505,.V 1506,.V 1507,.V 1508,.V 1509,.V 1510,.V 1511,.V 1512,.V 1513]) (.N VF (.J (cX Nm (.C 0)) (.J (cX Nm oZ) (.W 2 [.cb false,.V 1501,.V 1502,.V 1503,.V 1504,.V 1505,.V 1506,.V 1507,.V 1508,.V 1509,.V 1510,.V 1511,.V 1512,.V 1513]) (.W 0 [.V 1500,zi (.V 1501),.V 1502,.V 1503,.V 1504,.V 1505,.V 1506,.V 1507,.V 1508,.V 1509,.V 1510,.V 1511,.V 1512,.V 1513])) (.J VP (.J XZ (.J (cX (.C 180) oZ) (.W 2 [.cb false,.V 1501,.V 1502,.V 1503,.V 1504,.V 1505,.V 1506,.V 1507,.V 1508,.V 1509,.V 1510,.V 1511,.V 1512,.V 1513]) (.W 0 [.V 1500,zi (.V 1501),.V 1502,.V 1503,.V 1504,.V 1505,.V 1506,.V 1507,.V 1508,.V 1509,.V 1510,.V 1511,.V 1512,.V 1513])) (.N Xy (.J (cX Nz (.C 0)) (.J (cX Nz oZ) (.W 2 [.cb false,.V 1501,.V 1502,.V 1503,.V 1504,.V 1505,.V 1506,.V 1507,.V 1508,.V 1509,.V 1510,.V 1511,.V 1512,.V 1513]) (.W 0 [.V 1500,zi (.V 1501),.V 1502,.V 1503,.V 1504,.V 1505,.V 1506,.V 1507,.V 1508,.V 1509,.V 1510,.V 1511,.V 1512,.V 1513])) (.N SC (.N TJ (.N Z5 (.J (dF Ov (zL rU)) (.J Z25 (.J (cX (.C 160) oZ) (.W 2 [.cb false,.V 1501,.V 1502,.V 1503,.V 1504,.V 1505,.V 1506,.V 1507,.V 1508,.V 1509,.V 1510,.V 1511,.V 1512,.V 1513]) (.W 0 [.V 1500,zi (.V 1501),.V 1502,.V 1503,.V 1504,.V 1505,.V 1506,.V 1507,.V 1508,.V 1509,.V 1510,.V 1511,.V 1512,.V 1513])) (.N vZ (.J (cX (.C 0) oZ) (.W 2 [.cb false,.V 1501,.V 1502,.V 1503,zL (zc (.V 1510) dM),.V 1505,.V 1506,.V 1507,na,.V 1509,zc (.V 1510) dM,.V 1511,.V 1512,.V 1513]) (.N Z28 (.W 0 [.V 1500,zi (.V 1501),.V 1502,.V 1503,zL (zc (.V 1510) dM),.V 1505,.V 1506,.V 1507,na,.V 1509,zc (.V 1510) dM,.V 1511,.V 1512,.V 1513]))))) (.N vZ (.J (cX (.C 0) oZ) (.W 2 [.cb false,.V 1501,.V 1502,.V 1503,zL (zc (.V 1510) dM),.V 1505,.V 1506,.V 1507,na,.V 1509,zc (.V 1510) dM,.V 1511,.V 1512,.V 1513]) (.N Z28 (.W 0 [.V 1500,zi (.V 1501),.V 1502,.V 1503,zL (zc (.V 1510) dM),.V 1505,.V 1506,.V 1507,na,.V 1509,zc (.V 1510) dM,.V 1511,.V 1512,.V 1513]))))))))))) (.J (cX QH (.C 0)) (.J (cX QH oZ) (.W 2 [.cb false,.V 1501,.V 1502,.V 1503,.V 1504,.V 1505,.V 1506,.V 1507,.V 1508,.V 1509,.V 1510,.V 1511,.V 1512,.V 1513]) (.W 0 [.V 1500,zi (.V 1501),.V 1502,.V 1503,.V 1504,.V 1505,.V 1506,.V 1507,.V 1508,.V 1509,.V 1510,.V 1511,.V 1512,.V 1513])) (.N Z6 (.N Vx (.N Z5 (.J (dF QT (zL rU)) (.J Zl (.J (cX (.C 160) oZ) (.W 2 [.cb false,.V 1501,.V 1502,.V 1503,.V 1504,.V 1505,.V 1506,.V 1507,.V 1508,.V 1509,.V 1510,.V 1511,.V 1512,.V 1513]) (.W 0 [.V 1500,zi (.V 1501),.V 1502,.V 1503,.V 1504,.V 1505,.V 1506,.V 1507,.V 1508,.V 1509,.V 1510,.V 1511,.V 1512,.V 1513])) (.N vZ (.J (cX (.C 0) oZ) (.W 2 [.cb false,.V 1501,pW,.V 1503,zL (zc (.V 1510) dM),.V 1505,.V 1506,.V 1507,.V 1508,.V 1509,zc (.V 1510) dM,.V 1511,.V 1512,.V 1513]) (.N Z34 (.W 0 [.V 1500,zi (.V 1501),pW,.V 1503,zL (zc (.V 1510) dM),.V 1505,.V 1506,.V 1507,.V 1508,.V 1509,zc (.V 1510) dM,.V 1511,.V 1512,.V 1513]))))) (.N vZ (.J (cX (.C 0) oZ) (.W 2 [.cb false,.V 1501,pW,.V 1503,zL (zc (.V 1510) dM),.V 1505,.V 1506,.V 1507,.V 1508,.V 1509,zc (.V 1510) dM,.V 1511,.V 1512,.V 1513]) (.N Z34 (.W 0 [.V 1500,zi (.V 1501),pW,.V 1503,zL (zc (.V 1510) dM),.V 1505,.V 1506,.V 1507,.V 1508,.V 1509,zc (.V 1510) dM,.V 1511,.V 1512,.V 1513]))))))))))))) (.N (zn (cF (.V 1506) (zl 1512)) (zb (zl 1512) 1000000)) (.N (zb (zL (zc (.V 1512) dM)) 1000000) (.J (cX UP (.C 0)) (.W 2 [.cb false,.V 1501,.V 1502,.V 1503,.V 1504,.V 1505,.V 1506,.V 1507,.V 1508,.V 1509,.V 1510,.V 1511,.V 1512,.V 1513]) (.N VF (.J (cX Nm (.C 0)) (.W 2 [.cb false,.V 1501,.V 1502,.V 1503,.V 1504,.V 1505,.V 1506,.V 1507,.V 1508,.V 1509,.V 1510,.V 1511,.V 1512,.V 1513]) (.J VP (.J XZ (.W 2 [.cb false,.V 1501,.V 1502,.V 1503,.V 1504,.V 1505,.V 1506,.V 1507,.V 1508,.V 1509,.V 1510,.V 1511,.V 1512,.V 1513]) (.N Xy (.J (cX Nz (.C 0)) (.W 2 [.cb false,.V 1501,.V 1502,.V 1503,.V 1504,.V 1505,.V 1506,.V 1507,.V 1508,.V 1509,.V 1510,.V 1511,.V 1512,.V 1513]) (.N SC (.N TJ (.N Z5 (.J (dF Ov (zL rU)) (.J Z25 (.W 2 [.cb false,.V 1501,.V 1502,.V 1503,.V 1504,.V 1505,.V 1506,.V 1507,.V 1508,.V 1509,.V 1510,.V 1511,.V 1512,.V 1513]) (.N vZ (.N Z35 (.W 0 [.V 1500,zi (.V 1501),.V 1502,.V 1503,zL (zc (.V 1510) dM),.V 1505,zL (zc (.V 1512) dM),.V 1507,na,.V 1509,zc (.V 1510) dM,.V 1511,zc (.V 1512) dM,.V 1513])))) (.N vZ (.N Z35 (.W 0 [.V 1500,zi (.V 1501),.V 1502,.V 1503,zL (zc (.V 1510) dM),.V 1505,zL (zc (.V 1512) dM),.V 1507,na,.V 1509,zc (.V 1510) dM,.V 1511,zc (.V 1512) dM,.V 1513])))))))))) (.J (cX QH (.C 0)) (.W 2 [.cb false,.V 1501,.V 1502,.V 1503,.V 1504,.V 1505,.V 1506,.V 1507,.V 1508,.V 1509,.V 1510,.V 1511,.V 1512,.V 1513]) (.N Z6 (.N Vx (.N Z5 (.J (dF QT (zL rU)) (.J Zl (.W 2 [.cb false,.V 1501,.V 1502,.V 1503,.V 1504,.V 1505,.V 1506,.V 1507,.V 1508,.V 1509,.V 1510,.V 1511,.V 1512,.V 1513]) (.N vZ (.N Z36 (.W 0 [.V 1500,zi (.V 1501),pW,.V 1503,zL (zc (.V 1510) dM),.V 1505,zL (zc (.V 1512) dM),.V 1507,.V 1508,.V 1509,zc (.V 1510) dM,.V 1511,zc (.V 1512) dM,.V 1513])))) (.N vZ (.N Z36 (.W 0 [.V 1500,zi (.V 1501),pW,.V 1503,zL (zc (.V 1510) dM),.V 1505,zL (zc (.V 1512) dM),.V 1507,.V 1508,.V 1509,zc (.V 1510) dM,.V 1511,zc (.V 1512) dM,.V 1513]))))))))))))))))))) (.W 1 [.V 1500,.V 1501,.V 1502,.V 1503,.V 1504,.V 1505,.V 1506,.V 1507,.V 1508,.V 1509,.V 1510,.V 1511,.V 1512,.V 1513])
def NY:SX:= dR (.Q 944 [.V 0,.V 1,.V 2,.V 3,.V 4,.V 5])
def jO:SX:= .Q 965 [.cb false,.C 0,.Q 941 [.V 4],zL co,zL co,zL co,zL co,zL co,co,co,co,co,co,co,.C 0,zl 6,.V 6,.V 7,.Q 941 [.V 4],.Q 942 [.V 4],.V 5,zL co,zL co,zL co,.V 0,.V 1,.V 2,.V 3,co,co,co,.V 0,.V 1,.V 2,.V 3,.V 4,.V 5,zL co,zL co,co,co]
def HP:SX:= zo jO 3
def Of:SX:= zo jO 9
def IQ:SX:= zo jO 4
def Lg:SX:= zo jO 10
def FB:SX:= zo jO 5
def Lz:SX:= zo jO 11
def HU:SX:= zo jO 6
def Pd:SX:= zo jO 12
def Ke:SX:= zo jO 7
def NT:SX:= zo jO 13
def UT_takes:VT:= .J (dR (.Q 950 [.V 6,.C 20])) (.W 0 [.cb true]) (.J NY (.W 0 [NY]) (.J (dR (.Q 700 [.V 0,.V 1,.V 2,.V 3])) (.X) (.loop ⟨965,[.cb false,.C 0,.Q 941 [.V 4],zL co,zL co,zL co,zL co,zL co,co,co,co,co,co,co],1500,[.C 0,zl 6,.V 6,.V 7,.Q 941 [.V 4],.Q 942 [.V 4],.V 5,zL co,zL co,zL co,.V 0,.V 1,.V 2,.V 3,co,co,co,.V 0,.V 1,.V 2,.V 3,.V 4,.V 5,zL co,zL co,co,co]⟩ UD [.N (zn (zn (zn (zp HP) (eE HP (zL Of))) (zn (zn (zp IQ) (eE IQ (zL Lg))) (zn (zn (zp FB) (eE FB (zL Lz))) (zn (zn (zp HU) (eE HU (zL Pd))) (zn (zp Ke) (eE Ke (zL NT))))))) (.Q 958 [zo jO 2,.Q 942 [.V 4],.V 5,.V 0,.V 1,.V 2,.V 3,zo jO 8,.O .lsub [Of,.C 0,HP],.O .lsub [Lg,.C 0,IQ],.O .lsub [Lz,.C 0,FB],.V 0,.V 1,.V 2,.V 3,.V 4,.V 5,.O .lsub [Pd,.C 0,HU],.O .lsub [NT,.C 0,Ke],.V 7])) (.W 0 [.cb true]),.W 0 [zo jO 0]])))
def GF(tk:List eL)(o:eL):dX (tk++[o])=dX tk++(if o.1=1 then [(o.2.1,o.2.2.1,o.2.2.2)]else []):=by unfold dX;by_cases h:o.1=1;simp[h];simp[h]
def KF: ∀tk:List eL,(dX tk).length<=tk.length:=λtk=>List.length_filterMap_le _ tk
def dC6{tk:List eL}{i:Nat}(h:i<tk.length):cg (tk.map cH) i=cH tk[i]:=by grind[pt]
def Cw(tk:List eL):lO (tk.map cH)=(dX tk).map cP:=by
 have h:=Er (λr=>bif decide (ci r 0=1)then [wC r]else []) (tk.map cH);unfold lO;rw[show ej5 (tk.map cH)=λi=>(λr=>bif decide (ci r 0=1)then [wC r]else []) (cg (tk.map cH) i)from rfl,h];induction tk with
 |nil=>rfl
 |cons o r ih=>
  have ih:=ih (Er (λr=>bif decide (ci r 0=1)then [wC r]else []) (r.map cH));rw[m8,B2,ih];by_cases h:o.1=1;simp[dX,h,cH,ci,Y5,wC,cP];simp_all[dX,cH,ci,Y5]
def Ic(tk:List eL)(o:eL):tq (tk++[o])=if o.1=2 then o.2.2.1 else tq tk:=by unfold tq;rw[List.foldl_append];rfl
theorem cM7(tk:List eL): ∀n,n<=tk.length->pb (tk.map cH) n= .D (tq (tk.take n))
 |0,_=>rfl
 |n+1,h=>by
  have ht:tk.take (n+1)=tk.take n++[tk[n]]:=by rw[T7 (by omega)]
  rw[ht,Ic];show(if ci (cg (tk.map cH) n) 0=2 then Y5 (cg (tk.map cH) n) 2 else pb (tk.map cH) n)=_;rw[dC6 (by omega),cM7 tk n (by omega)];show(if tk[n].1=2 then Val.D tk[n].2.2.1 else _)=_;grind
def Fj(tk:List eL):mZ [.A (tk.map cH)]= .D (tq tk):=by show pb (tk.map cH) (tk.map cH).length=_;grind[cM7]
def cM8(tk:List eL)(n:Nat):(tk.map cH).take n=(tk.take n).map cH:=by simp
section
variable{k s w g:Int}{evs:List dw}{m:U0}(H:TBL k s w g evs m)
include H
def x490:F0 490 [.A m]= .A (S7.srt false m):=oS.x490u _ m (λr hr=>BM (H.T.nrm r hr)) (K7 _) H.T.nd
def Mx(x:Int):eI F0 [.A m,.D x]=oU [li F0 [.D k,.D s,.D w,.D g,.A (evs.map cP)],.D x]:=by rw[H.rows];show Val.A ((F0 490 [.A m]).L.filter (ia x))= .A (sA (S7.srt false m) x);rw[x490 H,d48 _ _ (λr hr=>H.rows7 hr)];rfl
def EU(x:Int): ∃L,eI F0 [.A m,.D x]= .A L/\L.length<=400/\ ∀r∈L,rowS r:=by refine⟨(S7.srt false m).filter (ia x),?_,?_,λr hr=>H.rowsS (l9.1 hr).1⟩;rfl;refine l7 (K3 _ _) ?_;rw[S7.srt_len];exact H.ok.2.2.1
end
def Jy{k s w g:Int}{tk:List eL}{m:U0}(H:TBL k s w g (dX tk) m):oU [li F0 [.D k,.D s,.D w,.D g,oG [.A (tk.map cH)]],mZ [.A (tk.map cH)]]=eI F0 [.A m,.D (tq tk)]:=by rw[Mx H,Fj];show oU [li F0 [.D k,.D s,.D w,.D g,.A (lO (tk.map cH))],_]=_;rw[Cw]
def en4(cu:HQ):(vH [.A (cu.map eA),.D (cu.map eA).length]).I=jn cu:=by
 show(if((cu.map eA).length:Int)=0\/((cu.map eA).length:Int)<((cu.map eA).length:Int)then Val.D 0 else Y5 (cg (cu.map eA) (((cu.map eA).length:Int)-1).toNat) 0).I=_;rw[k6];by_cases h:cu=[];subst h;rfl
 have hp:0<cu.length:=M8.2 h;rw[b9 (by omega),show((cu.length:Int)-1).toNat=cu.length-1 by omega];have:cg (cu.map eA) (cu.length-1)=eA (jn cu):=by rw[pt (by rw[k6];omega),J1];unfold jn;rw[List.getLastD_eq_getLast?,List.getLast?_eq_getElem?,m7 (by omega)];rfl
 rw[this];rfl
def dW0{ek t v:Int}{ks:qw}(h:Y4 ek ks t v=0)(h1:ek≠1):ek=2/\dW t=true:=by unfold Y4 at h;grind
section
variable{k s w g lt cp mk:Int}{m:U0}{T:Val}{tk:List eL}{cu:HQ}(E:EN F0 k s w g lt cp mk m T tk cu)
include E
def EN.told:oU [li F0 [.D k,.D s,.D w,.D g,oG [.A ((tk.map cH).take (jn cu))]],mZ [.A ((tk.map cH).take (jn cu))]]=T:=by rw[cM8,Fj];show oU [li F0 [.D k,.D s,.D w,.D g,.A (lO ((tk.take (jn cu)).map cH))],_]=_;rw[Cw,E.hT];rfl
def EN.chg(l:Val):nF F0 (fS k s w g lt cp tk cu++[l])=F0 208 [T,oU [li F0 [.D k,.D s,.D w,.D g,oG [l]],mZ [l]]]:=by show F0 208 [oU [li F0 [.D k,.D s,.D w,.D g,oG [.A ((tk.map cH).take (vH [.A (cu.map eA),.D (cu.map eA).length]).I.toNat)]],mZ [.A ((tk.map cH).take (vH [.A (cu.map eA),.D (cu.map eA).length]).I.toNat)]],_]=_;rw[en4,Int.toNat_natCast,E.told];rfl
omit E in
def Ty:sm F0 (fP k s w g lt cp mk m T tk cu)=F0 208 [T,eI F0 [.A m,.D mk]]:=rfl
def EN.same:nF F0 (fS k s w g lt cp tk cu++[.A (tk.map cH)])=sm F0 (fP k s w g lt cp mk m T tk cu):=by rw[E.chg,Jy E.hH,Ty,E.hk]
def EN.tList: ∃L,T= .A L/\L.length<=400/\ ∀r∈L,rowS r:=by obtain⟨mc,h⟩:=E.hmc;obtain⟨L,h1,h2,h3⟩:=EU h (tq (tk.take (jn cu)));exact⟨L,by rw[E.hT,<-h1,Mx h];rfl,h2,h3⟩
def EN.wat:uO mk lt=true:=by
 unfold uO;rw[i6 E.hlt.1,i6 E.hlt.2];rcases E.hm with h|h
 rw[i6 h];rfl;grind
def EN.put{o:eL}(hv:inI o.2.2.2)(h1:o.1=1)(h0:dD (cL k s w g m o.1 o.2.1 o.2.2.1 o.2.2.2)=0)(h20:tk.length<20):
 ∃m',fx F0 (cL k s w g m o.1 o.2.1 o.2.2.1 o.2.2.2)= .A m'/\TBL k s w g (dX (tk++[o])) m':=by
 have hl:=KF tk;obtain⟨m',evs',a1,a2,_,a4,_⟩:=dC4 E.hH (by omega) hv (ek:=o.1) (ks:=o.2.1) (t:=o.2.2.1);rw[b9 (by simp[h0])]at a4;have:evs'=dX (tk++[o]):=by
  rw[GF,c9 h1];have h2:(dX tk).map cP++[Val.A [.D o.1,.vs o.2.1,.D o.2.2.1,.D o.2.2.2]]=(dX tk++[(o.2.1,o.2.2.1,o.2.2.2)]).map cP:=by rw[r9,h1];rfl
  rw[h2]at a4;exact(List.map_inj_right (λx y h=>by obtain⟨a,b,c⟩:=x;obtain⟨rfl,rfl,rfl⟩:=h;rfl)).1 a4.symm
 grind
def EN.try_same{o:eL}{st:Int}(hv:inI o.2.2.2)(h20:tk.length<20):lX F0 (fP k s w g lt cp mk m T tk cu++eZ o st)=Kg F0 (fS k s w g lt cp tk cu++eZ o st):=by
 have hop:xC (fS k s w g lt cp tk cu++eZ o st)= .A ((tk++[o]).map cH):=by rw[r9];rfl
 have hP:lX F0 (fP k s w g lt cp mk m T tk cu++eZ o st)=if Y4 o.1 o.2.1 o.2.2.1 o.2.2.2≠0 then Y4 o.1 o.2.1 o.2.2.1 o.2.2.2
  else if o.1=1 then(if(iQ [.D mk,.D lt,.D o.2.2.1]).Z then 180 else if dD (cL k s w g m o.1 o.2.1 o.2.2.1 o.2.2.2)≠0 then dD (cL k s w g m o.1 o.2.1 o.2.2.1 o.2.2.2)
   else gu (F0 208 [T,eI F0 [fx F0 (cL k s w g m o.1 o.2.1 o.2.2.1 o.2.2.2),.D mk]]).L.length (F0 208 [T,eI F0 [.A m,.D mk]]).L.length cp st)
  else if fR mk lt o.2.2.1≠0 then fR mk lt o.2.2.1
  else gu (F0 208 [T,eI F0 [.A m,om [.D mk,.D lt,.D o.2.2.1]]]).L.length (F0 208 [T,eI F0 [.A m,.D mk]]).L.length cp st:=rfl
 have hR:Kg F0 (fS k s w g lt cp tk cu++eZ o st)=if Y4 o.1 o.2.1 o.2.2.1 o.2.2.2≠0 then Y4 o.1 o.2.1 o.2.2.1 o.2.2.2
  else if o.1=2/\o.2.2.1<(mZ [.A (tk.map cH)]).I then 181
  else if o.1=1/\(iQ [mZ [.A (tk.map cH)],.D lt,.D o.2.2.1]).Z=true then 180
  else if(rj [.D k,.D s,.D w,.D g,oG [xC (fS k s w g lt cp tk cu++eZ o st)]]).Z=false then 30
  else gu (nF F0 (fS k s w g lt cp tk cu++[xC (fS k s w g lt cp tk cu++eZ o st)])).L.length (nF F0 (fS k s w g lt cp tk cu++[.A (tk.map cH)])).L.length cp st:=rfl
 rw[hP,hR,hop,Fj,<-E.hk,E.same,Ty,E.chg];by_cases h0:Y4 o.1 o.2.1 o.2.2.1 o.2.2.2=0
 have n0: ¬(Y4 o.1 o.2.1 o.2.2.1 o.2.2.2≠0):=λh=>h h0
 rw[b9 n0,b9 n0];have h829:(rj [.D k,.D s,.D w,.D g,oG [.A ((tk++[o]).map cH)]]).Z=eY k s w g ((dX (tk++[o])).map cP):=by show eY k s w g (lO ((tk++[o]).map cH))=_;rw[Cw]
 by_cases h1:o.1=1
 have hA: ¬(o.1=2/\o.2.2.1<(Val.D mk).I):=λh=>by omega
 rw[c9 h1,b9 hA];by_cases hl:(iQ [.D mk,.D lt,.D o.2.2.1]).Z=true;rw[c9 hl,c9 ⟨h1,hl⟩]
 have hB: ¬(o.1=1/\(iQ [Val.D mk,Val.D lt,Val.D o.2.2.1]).Z=true):=λh=>hl h.2
 rw[b9 hl,b9 hB,h829];have hlen:=KF tk;have hrt:=dV9 E.hH (by omega) hv (ek:=o.1) (ks:=o.2.1) (t:=o.2.2.1);have e:xj (aQ k s w g (dX tk) o.1 o.2.1 o.2.2.1 o.2.2.2)=if Y4 o.1 o.2.1 o.2.2.1 o.2.2.2≠0 then Y4 o.1 o.2.1 o.2.2.1 o.2.2.2 else if o.1≠1 then 2 else if eY k s w g ((dX tk).map cP++[.A [.D o.1,.vs o.2.1,.D o.2.2.1,.D o.2.2.2]])=true then 0 else 30:=rfl
 have hm:(dX tk).map cP++[Val.A [.D o.1,.vs o.2.1,.D o.2.2.1,.D o.2.2.2]]=(dX (tk++[o])).map cP:=by rw[GF,c9 h1,r9,h1];rfl
 rw[e,b9 n0,b9 (λh=>h h1),hm]at hrt;by_cases hk:eY k s w g ((dX (tk++[o])).map cP)=true
 rw[c9 hk]at hrt;obtain⟨m',a1,a2⟩:=E.put hv h1 hrt.symm h20;have hC: ¬(eY k s w g ((dX (tk++[o])).map cP)=false):=by rw[hk];simp
 have hD: ¬(o.1=2):=by omega
 rw[b9 (λh=>h hrt.symm),b9 hC,Jy a2,a1,Ic,b9 hD,<-E.hk]
 rw[b9 hk]at hrt;have hC:eY k s w g ((dX (tk++[o])).map cP)=false:=by simpa using hk
 have hD:dD (cL k s w g m o.1 o.2.1 o.2.2.1 o.2.2.2)≠0:=by rw[<-hrt];decide
 rw[c9 hD,c9 hC,<-hrt]
 obtain⟨h2,ht⟩:=dW0 h0 h1;have hH:dX (tk++[o])=dX tk:=by rw[GF,b9 h1,o9]
 have hadv:fR mk lt o.2.2.1=if o.2.2.1<mk then 181 else 0:=by unfold fR;rw[if_pos E.wat,if_pos ht]
 rw[b9 h1,hadv];by_cases hr:o.2.2.1<mk;have hA:o.1=2/\o.2.2.1<(Val.D mk).I:=⟨h2,hr⟩;rw[c9 hr,c9 hA];rfl
 have hA: ¬(o.1=2/\o.2.2.1<(Val.D mk).I):=λh=>hr h.2
 have hB: ¬(o.1=1/\(iQ [Val.D mk,Val.D lt,Val.D o.2.2.1]).Z=true):=λh=>h1 h.1
 have hC: ¬(eY k s w g ((dX tk).map cP)=false):=by rw[E.hH.okw];simp
 have hT:TBL k s w g (dX (tk++[o])) m:=by rw[hH];exact E.hH
 rw[b9 hr,b9 (λh=>h rfl),b9 hA,b9 hB,h829,hH,b9 hC,Jy hT,Ic,c9 h2];have:om [.D mk,.D lt,.D o.2.2.1]= .D o.2.2.1:=by show(if fR mk lt o.2.2.1=0 then Val.D o.2.2.1 else Val.D mk)=_;rw[hadv,b9 hr,c9 rfl]
 rw[this];omega
end
def en0{k s w g lt cp:Int}(hR:cY k s w g=true)(hl:0<=lt/\lt<=1048576)(hc:1<=cp/\cp<=4096):EN F0 k s w g lt cp (-2199023255552) [] (.A []) [] []:=by have h0:TBL k s w g (dX []) []:=dC5 hR;refine⟨h0,rfl,.inl rfl,hl,hc,λo h=>(by cases h),p8 _,λc h=>(by cases h),p8 _,⟨[],h0⟩,?_⟩;rfl
def bH5(cu:HQ)(c:Nat):jn (cu++[c])=c:=by simp[jn]
section
variable{k s w g lt cp mk:Int}{m:U0}{T:Val}{tk:List eL}{cu:HQ}(E:EN F0 k s w g lt cp mk m T tk cu)
include E
def EN.last:jn cu<=tk.length:=by
 unfold jn;rcases V0 cu with h|⟨l,c,h⟩
 grind;subst h;simpa using E.hcu c (by simp)
def EN.pub(hc:cu.length<20):EN F0 k s w g lt cp mk m (eI F0 [.A m,.D mk]) tk (cu++[tk.length]):=by
 refine⟨E.hH,E.hk,E.hm,E.hlt,E.hcp,E.hok,E.hln,λc h=> ?_,by grind,⟨m,by rw[bH5,A6];exact E.hH⟩,?_⟩
 rcases x6.1 h with h|h
 exact E.hcu c h;grind;rw[bH5,Mx E.hH];unfold Nj;rw[A6,E.hk]
def EN.more{o:eL}{m':U0}{mk':Int}(h20:tk.length<20)(hv:inI o.2.2.2)(h0:Y4 o.1 o.2.1 o.2.2.1 o.2.2.2=0)(hT:TBL k s w g (dX (tk++[o])) m')(hk:mk'=tq (tk++[o]))(hm:mk'= -2199023255552\/dW mk'=true):
 EN F0 k s w g lt cp mk' m' T (tk++[o]) cu:=by
 have ht:(tk++[o]).take (jn cu)=tk.take (jn cu):=T5 E.last;refine⟨hT,hk,hm,E.hlt,E.hcp,λx h=> ?_,by grind,λc h=> ?_,E.hcl,?_,?_⟩
 rcases x6.1 h with h|h
 exact E.hok x h;grind;rw[k7];exact l7 (E.hcu c h) (E2 _ _);rw[ht];exact E.hmc;rw[E.hT];grind[Nj]
def EN.acc{o:eL}{st:Int}(h:lX F0 (fP k s w g lt cp mk m T tk cu++eZ o st)=0):Y4 o.1 o.2.1 o.2.2.1 o.2.2.2=0/\(o.1=1->(iQ [.D mk,.D lt,.D o.2.2.1]).Z=false/\dD (cL k s w g m o.1 o.2.1 o.2.2.1 o.2.2.2)=0)/\(o.1≠1->fR mk lt o.2.2.1=0):=by
 have _:=E;have hP:lX F0 (fP k s w g lt cp mk m T tk cu++eZ o st)=if Y4 o.1 o.2.1 o.2.2.1 o.2.2.2≠0 then Y4 o.1 o.2.1 o.2.2.1 o.2.2.2
  else if o.1=1 then(if(iQ [.D mk,.D lt,.D o.2.2.1]).Z then 180 else if dD (cL k s w g m o.1 o.2.1 o.2.2.1 o.2.2.2)≠0 then dD (cL k s w g m o.1 o.2.1 o.2.2.1 o.2.2.2)
   else gu (F0 208 [T,eI F0 [fx F0 (cL k s w g m o.1 o.2.1 o.2.2.1 o.2.2.2),.D mk]]).L.length (F0 208 [T,eI F0 [.A m,.D mk]]).L.length cp st)
  else if fR mk lt o.2.2.1≠0 then fR mk lt o.2.2.1
  else gu (F0 208 [T,eI F0 [.A m,om [.D mk,.D lt,.D o.2.2.1]]]).L.length (F0 208 [T,eI F0 [.A m,.D mk]]).L.length cp st:=rfl
 grind
def EN.ev{o:eL}{st:Int}(hv:inI o.2.2.2)(h20:tk.length<20)(h1:o.1=1)(h:lX F0 (fP k s w g lt cp mk m T tk cu++eZ o st)=0):
 ∃m',fx F0 (cL k s w g m o.1 o.2.1 o.2.2.1 o.2.2.2)= .A m'/\EN F0 k s w g lt cp mk m' T (tk++[o]) cu:=by
 obtain⟨h0,h2,_⟩:=E.acc h;obtain⟨m',a1,a2⟩:=E.put hv h1 (h2 h1).2 h20;exact⟨m',a1,E.more h20 hv h0 a2 (by rw[Ic,b9 (by omega)];exact E.hk) E.hm⟩
def EN.mrk{o:eL}{st:Int}(hv:inI o.2.2.2)(h20:tk.length<20)(h1:o.1≠1)(h:lX F0 (fP k s w g lt cp mk m T tk cu++eZ o st)=0):
 EN F0 k s w g lt cp o.2.2.1 m T (tk++[o]) cu/\om [.D mk,.D lt,.D o.2.2.1]= .D o.2.2.1:=by
 obtain⟨h0,_,h3⟩:=E.acc h;obtain⟨h2,ht⟩:=dW0 h0 h1;have hT:TBL k s w g (dX (tk++[o])) m:=by rw[GF,b9 h1,o9];exact E.hH
 refine⟨E.more h20 hv h0 hT (by rw[Ic,c9 h2]) (.inr ht),?_⟩;show(if fR mk lt o.2.2.1=0 then Val.D o.2.2.1 else Val.D mk)=_;grind
end
structure ESok (k s w g lt cp:Int) (i:Nat) (x:ES):Prop where
 E:EN F0 k s w g lt cp x.mark x.m x.T x.tk x.cu
 n:x.tk.length<=i
 c:x.cu.length<=i
def dC7{k s w g lt cp:Int}{i:Nat}{x:ES}(h:ESok k s w g lt cp i x)(hi:i<20){y:ActM}(hv:inI y.2.1.2.2.2):ESok k s w g lt cp (i+1) (x.step F0 k s w g lt cp y):=by
 obtain⟨E,n,c⟩:=h;unfold ES.step;split;exact⟨E.pub (by omega),by grind,by grind⟩;split;exact⟨E,by omega,by omega⟩
 rename_i h1 h2;have h2:lX F0 (fP k s w g lt cp x.mark x.m x.T x.tk x.cu++eZ y.2.1 y.2.2)=0:=Classical.byContradiction λh=>h2 h
 have hl:(x.tk++[y.2.1]).length<=i+1:=by grind
 split;rename_i h3;obtain⟨m',a1,a2⟩:=E.ev hv (by omega) h3 h2;refine⟨?_,hl,by show x.cu.length<=i+1;omega⟩;show EN F0 k s w g lt cp x.mark (fx F0 (cL k s w g x.m y.2.1.1 y.2.1.2.1 y.2.1.2.2.1 y.2.1.2.2.2)).L x.T (x.tk++[y.2.1]) x.cu;simp_all;rename_i h3;exact⟨(E.mrk hv (by omega) h3 h2).1,hl,by grind⟩
def dW1{k s w g lt cp:Int}(hR:cY k s w g=true)(hl:0<=lt/\lt<=1048576)(hc:1<=cp/\cp<=4096): ∀(l:List ActM),l.length<=20->(∀y∈l,inI y.2.1.2.2.2)->ESok k s w g lt cp l.length (ES.run F0 k s w g lt cp l):=by
 intro l hn hv;suffices h: ∀i,i<=l.length->ESok k s w g lt cp i (ES.run F0 k s w g lt cp (l.take i)) by have:=h l.length (j5 _);rwa[A6]at this
 intro i;induction i with
 |zero=>intro _;exact⟨en0 hR hl hc,j5 _,j5 _⟩
 |succ i ih=>
  intro hi;unfold ES.run;rw[T7 (by omega),I6];exact dC7 (ih (by omega)) (by omega) (hv _ (C6 _))
section
variable{I:Opq}
def tu_late:W5 UT_late I=some (0,[iQ [I.w 0,I.w 1,I.w 2]]):=by show _=some (0,[Val.B (uO (I.w 0).I (I.w 1).I&&decide ((I.w 2).I<cr .sub .i64 (I.w 0).I (I.w 1).I))]);unfold UT_late RM uO dW;generalize ha:(I.w 0).I=a;generalize hb:(I.w 1).I=b;generalize hc:(I.w 2).I=c;simp[W5,Y6,bZ,dB,cB,ha,hb,hc];grind
def tu_rLate:W5 UT_rLate I=some (0,[iQ [I.w 0,I.w 1,I.w 2]]):=by show _=some (0,[Val.B (uO (I.w 0).I (I.w 1).I&&decide ((I.w 2).I<cr .sub .i64 (I.w 0).I (I.w 1).I))]);unfold UT_rLate WN uO dW;generalize ha:(I.w 0).I=a;generalize hb:(I.w 1).I=b;generalize hc:(I.w 2).I=c;simp[W5,Y6,bZ,dB,cB,ha,hb,hc];grind
def tu_adv:W5 UT_adv I=some (0,[om [I.w 0,I.w 1,I.w 2],I.w 1,ZB [I.w 0,I.w 1,I.w 2]]):=by show _=some (0,[if fR (I.w 0).I (I.w 1).I (I.w 2).I=0 then I.w 2 else I.w 0,I.w 1,Val.D (fR (I.w 0).I (I.w 1).I (I.w 2).I)]);unfold UT_adv Ro Sc Wt fR uO dW;generalize ha:(I.w 0).I=a;generalize hb:(I.w 1).I=b;generalize hc:(I.w 2).I=c;simp[W5,Y6,bZ,dB,cB,ha,hb,hc];grind
def tu_wNew:W5 UT_wNew I=some (0,[el4 [I.w 0],el5 [I.w 0],el6 [I.w 0]]):=by show _=some (0,[Val.D (if oP (I.w 0).I then-2199023255552 else 0),if oP (I.w 0).I then I.w 0 else .D 0,Val.D (if oP (I.w 0).I then 0 else 2)]);unfold UT_wNew oP;generalize ha:(I.w 0).I=a;simp[W5,Y6,bZ,dB,cB,ha];grind
def tu_cRight(f700: ∀a,I.f 700 a= .B (cY (ce a 0).I (ce a 1).I (ce a 2).I (ce a 3).I)):W5 UT_cRight I=some (0,[YX [I.w 0,I.w 1,I.w 2,I.w 3,I.w 4,I.w 5]]):=by
 show _=some (0,[Val.B (yZ (I.w 0).I (I.w 1).I (I.w 2).I (I.w 3).I (I.w 4).I (I.w 5).I)]);have h7:dB I (.Q 700 [.V 0,.V 1,.V 2,.V 3])=cY (I.w 0).I (I.w 1).I (I.w 2).I (I.w 3).I:=by show(I.f 700 [I.w 0,I.w 1,I.w 2,I.w 3]).Z=_;rw[f700];rfl
 unfold UT_cRight yZ;generalize cY (I.w 0).I (I.w 1).I (I.w 2).I (I.w 3).I=r at*
 generalize ha:(I.w 4).I=a;generalize hb:(I.w 5).I=b;simp only[W5,h7];simp[Y6,bZ,dB,cB,ha,hb];grind
def tu_rCRight(f700: ∀a,I.f 700 a= .B (cY (ce a 0).I (ce a 1).I (ce a 2).I (ce a 3).I)):W5 UT_rCRight I=some (0,[YX [I.w 0,I.w 1,I.w 2,I.w 3,I.w 4,I.w 5]]):=by
 show _=some (0,[Val.B (yZ (I.w 0).I (I.w 1).I (I.w 2).I (I.w 3).I (I.w 4).I (I.w 5).I)]);have h7:dB I (.Q 700 [.V 0,.V 1,.V 2,.V 3])=cY (I.w 0).I (I.w 1).I (I.w 2).I (I.w 3).I:=by show(I.f 700 [I.w 0,I.w 1,I.w 2,I.w 3]).Z=_;rw[f700];rfl
 unfold UT_rCRight yZ;generalize cY (I.w 0).I (I.w 1).I (I.w 2).I (I.w 3).I=r at*
 generalize ha:(I.w 4).I=a;generalize hb:(I.w 5).I=b;simp only[W5,h7];simp[Y6,bZ,dB,cB,ha,hb];grind
def tu_taken(h:(ZY [I.w 9]).Z=true)(hn:(I.w 9).L.length<=1000000):W5 UT_taken I=some (0,[I.w 9]):=by
 have hv: ∃l,I.w 9= .A l:=by
  cases hw:I.w 9 with
  |A l=>exact⟨l,rfl⟩
  |_=>rw[hw]at h;cases h
 obtain⟨l,hl⟩:=hv;have hd:dB I Fb=true:=by show decide (((I.w 9).L.length:Int)<=1000000)=true;exact i6 (by omega)
 have hneed:W5 (.N Fb (.W 0 [.V 9])) I=some (0,[I.w 9]):=W6 hd rfl;by_cases h0:0<(I.w 9).L.length;exact cD (by show decide ((0:Int)<((I.w 9).L.length:Int))=true;exact i6 (by omega)) hneed
 refine Y9 (by show decide ((0:Int)<((I.w 9).L.length:Int))=false;exact j7 (by omega)) ?_;have he:W5 (.W 0 [co]) I=some (0,[I.w 9]):=by show some (0,[Val.A []])=_;rw[hl]at h0⊢;have:l=[]:=C7 (by have: ¬0<l.length:=h0;omega);rw[this]
 rw[W5,hneed,he,c9 rfl]
def Yb{n:Nat}(h:n<=1000):IntKind.u64.wrap (n:Int)=n:=by grind[IntKind.wrap,IntKind.bits,IntKind.signed]
def tu_cut(h:(RO [I.w 10,I.w 11]).Z=true):W5 UT_cut I=some (0,[vH [I.w 10,I.w 11],JE [I.w 10,I.w 11]]):=by
 obtain⟨h1,h2⟩:=W7 (show(decide ((I.w 10).L.length<=1000)&&decide (0<=(I.w 11).I))=true from h);have h1:=j6 h1;have e9:JE [I.w 10,I.w 11]= .B (decide ((I.w 11).I<=((I.w 10).L.length:Int))):=rfl;have e8:vH [I.w 10,I.w 11]=if(I.w 11).I=0\/((I.w 10).L.length:Int)<(I.w 11).I then .D 0 else Y5 (cg (I.w 10).L ((I.w 11).I-1).toNat) 0:=rfl
 have hc:(bZ I (.O (.conv .u64) [zl 10])).I=((I.w 10).L.length:Int):=Yb h1;rw[e8,e9];by_cases c1:((I.w 10).L.length:Int)<(I.w 11).I;refine cD (by show decide ((bZ I (.O (.conv .u64) [zl 10])).I<(I.w 11).I)=true;grind) ?_;rw[c9 (.inr c1),j7 (by omega)];rfl;refine Y9 (by show decide ((bZ I (.O (.conv .u64) [zl 10])).I<(I.w 11).I)=false;grind) ?_;rw[i6 (p:=(I.w 11).I<=_) (by omega)];by_cases c2:(I.w 11).I=0;refine cD (by show decide ((I.w 11).I=0)=true;grind) ?_;rw[c9 (.inl c2)];rfl
 refine Y9 (by show decide ((I.w 11).I=0)=false;grind) ?_;have hs:(bZ I AJ).I=(I.w 11).I-1:=by show cr .sub .u64 (I.w 11).I 1=_;grind[cr,IntKind.wrap,IntKind.bits,IntKind.signed]
 rw[b9 (λh=>h.elim c2 c1)];refine W6 (by show(decide (0<=(bZ I AJ).I)&&decide ((bZ I AJ).I<((I.w 10).L.length:Int)))=true;grind) ?_;show some (0,[ck (I.w 10).L (bZ I AJ).I 0,Val.B true])=_;rw[hs];rfl
def tu_rCut(h:(RO [I.w 7,I.w 8]).Z=true):W5 UT_rCut I=some (0,[vH [I.w 7,I.w 8],JE [I.w 7,I.w 8]]):=by
 obtain⟨h1,h2⟩:=W7 (show(decide ((I.w 7).L.length<=1000)&&decide (0<=(I.w 8).I))=true from h);have h1:=j6 h1;have e9:JE [I.w 7,I.w 8]= .B (decide ((I.w 8).I<=((I.w 7).L.length:Int))):=rfl;have e8:vH [I.w 7,I.w 8]=if(I.w 8).I=0\/((I.w 7).L.length:Int)<(I.w 8).I then .D 0 else Y5 (cg (I.w 7).L ((I.w 8).I-1).toNat) 0:=rfl
 have hc:(bZ I (.O (.conv .u64) [zl 7])).I=((I.w 7).L.length:Int):=Yb h1;rw[e8,e9];by_cases c2:(I.w 8).I=0;refine cD (by show decide ((I.w 8).I=0)=true;grind) ?_;rw[c9 (.inl c2),i6 (by omega)];rfl;refine Y9 (by show decide ((I.w 8).I=0)=false;grind) ?_;by_cases c1:((I.w 7).L.length:Int)<(I.w 8).I;refine cD (by show decide ((bZ I (.O (.conv .u64) [zl 7])).I<(I.w 8).I)=true;grind) ?_;rw[c9 (.inr c1),j7 (by omega)];rfl
 refine Y9 (by show decide ((bZ I (.O (.conv .u64) [zl 7])).I<(I.w 8).I)=false;grind) ?_;have hs:(bZ I zD).I=(I.w 8).I-1:=by show cr .sub .u64 (I.w 8).I 1=_;grind[cr,IntKind.wrap,IntKind.bits,IntKind.signed]
 rw[b9 (λh=>h.elim c2 c1),i6 (p:=(I.w 8).I<=_) (by omega)];refine W6 (by show(decide (0<=(bZ I zD).I)&&decide ((bZ I zD).I<((I.w 7).L.length:Int)))=true;grind) ?_;show some (0,[ck (I.w 7).L (bZ I zD).I 0,Val.B true])=_;rw[hs];rfl
end
def WC{a0 a1 a2 a3 a4 a5 a6 a7 a8 a9 b:Val}{k s w g lt cp mk:Int}{m:U0}{T:Val}{tk:List eL}{cu:HQ}{r r':U0}(h:a0::a1::a2::a3::a4::a5::a6::a7::a8::a9::b::r=fP k s w g lt cp mk m T tk cu++r'):
 a0= .D mk/\a1= .D lt/\a2= .D cp/\a3= .D k/\a4= .D s/\a5= .D w/\a6= .D g/\a7= .A m/\a8=T/\a9= .A (tk.map cH)/\b= .A (cu.map eA)/\r=r':=by
 simp_all[fP]
def Se{a0 a1 a2 a3 a4 a5 a6 a7:Val}{k s w g lt cp:Int}{tk:List eL}{cu:HQ}{r r':U0}(h:a0::a1::a2::a3::a4::a5::a6::a7::r=fS k s w g lt cp tk cu++r'):
 a0= .D k/\a1= .D s/\a2= .D w/\a3= .D g/\a4= .D lt/\a5= .D cp/\a6= .A (tk.map cH)/\a7= .A (cu.map eA)/\r=r':=by
 simp_all[fS]
def op5{a b c d e:Val}{o:eL}{st:Int}(h:[a,b,c,d,e]=eZ o st):a= .D o.1/\b= .vs o.2.1/\c= .D o.2.2.1/\d= .D o.2.2.2/\e= .D st:=by grind[eZ]
section
variable{I:Opq}(hf: ∀i a,I.f i a=F i a)
include hf
def Ia{k s w g lt cp mk:Int}{m:U0}{T:Val}{tk:List eL}{cu:HQ}(E:EN F0 k s w g lt cp mk m T tk cu){x y z:SX}{x':Int}{m':U0}{evs:List dw}(H:TBL k s w g evs m')(hx:bZ I x=T)(hy:bZ I y= .A m')(hz:bZ I z= .D x'):
 dB I (zn (zb (zL x) 400) (zb (zL (.Q 726 [y,z])) 400))=true:=by
 obtain⟨L,h1,h2,_⟩:=E.tList;obtain⟨L',h3,h4,_⟩:=EU H x';have e:bZ I (.Q 726 [y,z])= .A L':=by show I.f 726 [bZ I y,bZ I z]=_;rw[hf,hy,hz];exact h3
 rw[dG,cJ,cJ,cK,cK,hx,e,h1,cG];exact and2 (i6 (by show(L.length:Int)<=400;omega)) (i6 (by show(L'.length:Int)<=400;omega))
def tu_pend(hn:(F 953 [I.w 0,I.w 1,I.w 2,I.w 3,I.w 4,I.w 5,I.w 6,I.w 7,I.w 8,I.w 9,I.w 10]).Z=true):
 W5 UT_pend I=some (0,[F 951 [I.w 0,I.w 1,I.w 2,I.w 3,I.w 4,I.w 5,I.w 6,I.w 7,I.w 8,I.w 9,I.w 10]]):=by
 obtain⟨k,s,w,g,lt,cp,mk,m,T,tk,cu,he,E⟩:=bP_iff.1 hn;obtain⟨w0,w1,w2,w3,w4,w5,w6,w7,w8,w9,w10,_⟩:=WC (r:=[]) (r':=[]) (by exact he);refine W6 (EY hf fe_x (by rw[cM,w7]) E.hH.ok) (W6 (Ia hf E E.hH w8 w7 w0) ?_);show some (0,[I.f 208 [I.w 8,I.f 726 [I.w 7,I.w 0]]])=_;rw[hf,hf];rfl
def TZ{k s w g:Int}{tk:List eL}{m':U0}(H:TBL k s w g (dX tk) m'){e:SX}(he:bZ I e= .A (tk.map cH))(h21:tk.length<=21){x:SX}(hx:bZ I x=bZ I (.Q 830 [e]))
 {a b c d:SX} (ha:bZ I a= .D k) (hb:bZ I b= .D s) (hc:bZ I c= .D w) (hd:bZ I d= .D g):
 dB I (zb (zL e) 100)=true/\dB I (zn (zb (zL x) 100) (.Q 840 [a,b,c,d,x]))=true/\
 dB I (zn (zb (zL (.Q 828 [a,b,c,d,x])) 400) (.Q 431 [.Q 828 [a,b,c,d,x]]))=true/\
 bZ I (.Q 832 [.Q 828 [a,b,c,d,x],.Q 831 [e]])=eI F0 [.A m',.D (tq tk)]/\bZ I (.Q 829 [a,b,c,d,x])= .B true:=by
 have h30:bZ I x= .A ((dX tk).map cP):=by rw[hx];show I.f 830 [bZ I e]=_;rw[hf,he];exact congrArg Val.A (Cw tk)
 have h28:bZ I (.Q 828 [a,b,c,d,x])= .A (S7.srt false m'):=by show I.f 828 [bZ I a,bZ I b,bZ I c,bZ I d,bZ I x]=_;rw[hf,ha,hb,hc,hd,h30];exact H.rows
 have hl:=KF tk;refine⟨?_,?_,?_,?_,?_⟩;rw[cJ,cK,he,cG];exact i6 (by show((tk.map cH).length:Int)<=100;grind);rw[dG,cJ,cK,h30,cG];refine and2 (i6 (by show(((dX tk).map cP).length:Int)<=100;grind)) ?_;show(I.f 840 [bZ I a,bZ I b,bZ I c,bZ I d,bZ I x]).Z=true;rw[hf,h30];exact H.n840 ha hb hc hd
 rw[dG,cJ,cK,h28,cG];refine and2 (i6 (by show((S7.srt false m').length:Int)<=400;rw[S7.srt_len];have:=H.ok.2.2.1;omega)) ?_;show(I.f 431 [bZ I (.Q 828 [a,b,c,d,x])]).Z=true;rw[hf,h28];exact oS.x431 _ λr hr=>H.rowsS hr
 show I.f 832 [bZ I (.Q 828 [a,b,c,d,x]),I.f 831 [bZ I e]]=_;rw[hf,hf,he,h28,<-Jy H];show oU [.A (S7.srt false m'),mZ [.A (tk.map cH)]]=oU [li F0 [.D k,.D s,.D w,.D g,.A (lO (tk.map cH))],_];rw[Cw,H.rows];show I.f 829 [bZ I a,bZ I b,bZ I c,bZ I d,bZ I x]=_;rw[hf,ha,hb,hc,hd,h30];exact congrArg Val.B H.okw
def Vt{k s w g:Int}{evs:List dw}{m':U0}(H:TBL k s w g evs m'){e:SX}{x:Int}(he:bZ I e=eI F0 [.A m',.D x]):dB I (zb (zL e) 400)=true:=by have _:=hf;obtain⟨L,h1,h2,_⟩:=EU H x;rw[cJ,cK,he,h1,cG];exact i6 (by show(L.length:Int)<=400;omega)
def tu_rChg(hn:(F 957 [I.w 0,I.w 1,I.w 2,I.w 3,I.w 4,I.w 5,I.w 6,I.w 7,I.w 8]).Z=true):
 W5 UT_rChg I=some (0,[F 956 [I.w 0,I.w 1,I.w 2,I.w 3,I.w 4,I.w 5,I.w 6,I.w 7,I.w 8]]):=by
 obtain⟨k,s,w,g,lt,cp,mk,m,T,tk,cu,tk',m',he,E,H',h21⟩:=bP_iff.1 hn;obtain⟨w0,w1,w2,w3,w4,w5,w6,w7,h8⟩:=Se he;have w8:I.w 8= .A (tk'.map cH):=by simpa using h8
 obtain⟨mc,Hc⟩:=E.hmc;have hcl:=E.hcl;have hlen:(bZ I ul)= .D (cu.map eA).length:=by show Val.D (IntKind.u64.wrap ((I.w 7).L.length:Int))=_;rw[w7];exact congrArg Val.D (Yb (by show(cu.map eA).length<=1000;rw[k6];omega))
 have h938:(bZ I (.Q 938 [.V 7,ul])).I=jn cu:=by show(I.f 938 [I.w 7,bZ I ul]).I=_;rw[hf,w7,hlen];exact en4 cu
 have h2:(bZ I KY).I=jn cu:=by show(0:Int)+(bZ I (.Q 938 [.V 7,ul])).I=_;omega
 have h3:bZ I xi= .A ((tk.take (jn cu)).map cH):=by show Val.A (((I.w 6).L.drop (0:Int).toNat).take ((bZ I KY).I-0).toNat)=_;rw[h2,w6];show Val.A (((tk.map cH).drop 0).take ((jn cu:Int)-0).toNat)=_;rw[G1,show((jn cu:Int)-0).toNat=jn cu by omega,cM8]
 have hln:=E.hln;have hla:=E.last;obtain⟨a1,a2,a3,a4,_⟩:=TZ hf Hc (e:=xi) h3 (by rw[l5];omega) (x:= .Q 830 [xi]) rfl (a:= .V 0) (b:= .V 1) (c:= .V 2) (d:= .V 3) w0 w1 w2 w3;obtain⟨b1,b2,b3,b4,_⟩:=TZ hf H' (e:= .V 8) w8 h21 (x:= .Q 830 [.V 8]) rfl (a:= .V 0) (b:= .V 1) (c:= .V 2) (d:= .V 3) w0 w1 w2 w3;have c1:dB I Uf=true:=by show decide ((0:Int)<=(bZ I (.Q 938 [.V 7,ul])).I)=true;exact i6 (by omega)
 have l6:((I.w 6).L.length:Int)=tk.length:=by rw[w6];show((tk.map cH).length:Int)=_;rw[k6]
 refine W6 ?_ (W6 ?_ (W6 ?_ (W6 a2 (W6 a3 (W6 b1 (W6 b2 (W6 b3 (W6 ?_ ?_))))))));show(I.f 937 [I.w 7,bZ I ul]).Z=true;rw[hf,w7,hlen];show(decide ((cu.map eA).length<=1000)&&decide ((0:Int)<=((cu.map eA).length:Int)))=true;rw[k6];exact and2 (i6 (by omega)) (i6 (by omega));rw[dG];refine and2 c1 ?_;rw[cJ,h938,cK,cM,l6];exact i6 (by omega);rw[dG,dG,dG];refine and2 (and2 rfl (and2 c1 ?_)) a1;rw[cJ,h2,cK,cM,l6];exact i6 (by omega);exact and2 (Vt hf Hc a4) (Vt hf H' b4);show some (0,[I.f 208 [bZ I MG,bZ I LB]])=_;rw[hf,show bZ I MG=_ from a4,show bZ I LB=_ from b4];have e9:[I.w 0,I.w 1,I.w 2,I.w 3,I.w 4,I.w 5,I.w 6,I.w 7,I.w 8]=fS k s w g lt cp tk cu++[.A (tk'.map cH)]:=he;rw[e9];show some (0,[F0 208 [_,_]])=some (0,[nF F0 _]);rw[E.chg,Jy H',E.hT];unfold Nj;rw[<-Mx Hc]
end
section
variable{I:Opq}(hf: ∀i a,I.f i a=F i a)
include hf
def VJ{n1 n2 cp st:SX}{a b:Nat}{c d:Int}(h1:(bZ I n1).I=a)(h2:(bZ I n2).I=b)(h3:(bZ I cp).I=c)(h4:(bZ I st).I=d):
 W5 (.J (dF n1 n2) (.J (dF st (zm cp n1)) (.W 0 [.C 160]) (.W 0 [.C 0])) (.W 0 [.C 0])) I=some (0,[.D (gu a b c d)]):=by
 have _:=hf;have e2:dB I (dF st (zm cp n1))=decide (cr .sub .i64 c a<d):=by rw[tD,h4];show decide (cr .sub .i64 (bZ I cp).I (bZ I n1).I<d)=_;grind
 unfold gu;by_cases c1:b<a;refine cD (by grind[tD,decide_eq_true]) ?_;by_cases c2:cr .sub .i64 c a<d;rw[c9 ⟨c1,c2⟩];exact cD (by grind) rfl;rw[b9 λh=>c2 h.2];exact Y9 (by grind) rfl;rw[b9 λh=>c1 h.1];exact Y9 (by grind[tD,decide_eq_false]) rfl
def tu_tryE(hn:(F 955 [I.w 0,I.w 1,I.w 2,I.w 3,I.w 4,I.w 5,I.w 6,I.w 7,I.w 8,I.w 9,I.w 10,I.w 11,I.w 12,I.w 13,I.w 14,I.w 15]).Z=true):
 W5 UT_tryE I=some (0,[F 954 [I.w 0,I.w 1,I.w 2,I.w 3,I.w 4,I.w 5,I.w 6,I.w 7,I.w 8,I.w 9,I.w 10,I.w 11,I.w 12,I.w 13,I.w 14,I.w 15]]):=by
 obtain⟨k,s,w,g,lt,cp,mk,m,T,tk,cu,o,st,he,E,hv,h20⟩:=bP_iff.1 hn;have he:[I.w 0,I.w 1,I.w 2,I.w 3,I.w 4,I.w 5,I.w 6,I.w 7,I.w 8,I.w 9,I.w 10,I.w 11,I.w 12,I.w 13,I.w 14,I.w 15]=fP k s w g lt cp mk m T tk cu++eZ o st:=by simp_all[absurd,congrArg,List.length,fS,eZ]
 obtain⟨w0,w1,w2,w3,w4,w5,w6,w7,w8,w9,w10,hr⟩:=WC he;obtain⟨w11,w12,w13,w14,w15⟩:=op5 hr;rw[he];show _=some (0,[Val.D (lX F0 (fP k s w g lt cp mk m T tk cu++eZ o st))]);have hP:lX F0 (fP k s w g lt cp mk m T tk cu++eZ o st)=if Y4 o.1 o.2.1 o.2.2.1 o.2.2.2≠0 then Y4 o.1 o.2.1 o.2.2.1 o.2.2.2
  else if o.1=1 then(if(iQ [.D mk,.D lt,.D o.2.2.1]).Z then 180 else if dD (cL k s w g m o.1 o.2.1 o.2.2.1 o.2.2.2)≠0 then dD (cL k s w g m o.1 o.2.1 o.2.2.1 o.2.2.2)
   else gu (F0 208 [T,eI F0 [fx F0 (cL k s w g m o.1 o.2.1 o.2.2.1 o.2.2.2),.D mk]]).L.length (F0 208 [T,eI F0 [.A m,.D mk]]).L.length cp st)
  else if fR mk lt o.2.2.1≠0 then fR mk lt o.2.2.1
  else gu (F0 208 [T,eI F0 [.A m,om [.D mk,.D lt,.D o.2.2.1]]]).L.length (F0 208 [T,eI F0 [.A m,.D mk]]).L.length cp st:=rfl
 have d0:bZ I Oa= .D (Y4 o.1 o.2.1 o.2.2.1 o.2.2.2):=by show I.f 701 [I.w 11,I.w 12,I.w 13,I.w 14]=_;rw[hf,w11,w12,w13,w14];rfl
 have d2:bZ I Qw= .D (dD (cL k s w g m o.1 o.2.1 o.2.2.1 o.2.2.2)):=by show I.f 732 [I.w 3,I.w 4,I.w 5,I.w 6,I.w 7,I.w 11,I.w 12,I.w 13,I.w 14]=_;rw[hf,w3,w4,w5,w6,w7,w11,w12,w13,w14];rfl
 have d3:bZ I xU=fx F0 (cL k s w g m o.1 o.2.1 o.2.2.1 o.2.2.2):=by show I.f 733 [I.w 3,I.w 4,I.w 5,I.w 6,I.w 7,I.w 11,I.w 12,I.w 13,I.w 14]=_;rw[hf,w3,w4,w5,w6,w7,w11,w12,w13,w14];rfl
 have d8:bZ I Ml= .D (fR mk lt o.2.2.1):=by show I.f 947 [I.w 0,I.w 1,I.w 13]=_;rw[hf,w0,w1,w13];rfl
 have dL:dB I (.Q 945 [.V 0,.V 1,.V 13])=(iQ [.D mk,.D lt,.D o.2.2.1]).Z:=by show(I.f 945 [I.w 0,I.w 1,I.w 13]).Z=_;rw[hf,w0,w1,w13];rfl
 have d46:bZ I (.Q 946 [.V 0,.V 1,.V 13])=om [.D mk,.D lt,.D o.2.2.1]:=by show I.f 946 [I.w 0,I.w 1,I.w 13]=_;rw[hf,w0,w1,w13];rfl
 have d7:(bZ I sY).I=((F0 208 [T,eI F0 [.A m,.D mk]]).L.length:Int):=by show((I.f 951 [I.w 0,I.w 1,I.w 2,I.w 3,I.w 4,I.w 5,I.w 6,I.w 7,I.w 8,I.w 9,I.w 10]).L.length:Int)=_;rw[hf,w0,w1,w2,w3,w4,w5,w6,w7,w8,w9,w10];rfl
 have n1:dB I KW=true:=EY hf fe_x (by rw[cM,w7]) E.hH.ok;have n5:dB I LT=true:=by show(I.f 953 [I.w 0,I.w 1,I.w 2,I.w 3,I.w 4,I.w 5,I.w 6,I.w 7,I.w 8,I.w 9,I.w 10]).Z=true;rw[hf,w0,w1,w2,w3,w4,w5,w6,w7,w8,w9,w10];exact bP_iff.2 ⟨k,s,w,g,lt,cp,mk,m,T,tk,cu,rfl,E⟩
 rw[hP];by_cases h0:Y4 o.1 o.2.1 o.2.2.1 o.2.2.2=0
 have n0: ¬(Y4 o.1 o.2.1 o.2.2.1 o.2.2.2≠0):=λh=>h h0
 rw[b9 n0];refine Y9 (by rw[jU,d0,cG];simp_all) ?_;by_cases h1:o.1=1;rw[c9 h1];refine cD (by simp_all[dY,cM,cG,i6]) ?_;by_cases hl:(iQ [.D mk,.D lt,.D o.2.2.1]).Z=true;rw[c9 hl];exact cD (dL.trans hl) rfl;rw[b9 hl];refine Y9 (dL.trans (by grind)) (W6 ?_ ?_);refine and2 n1 ?_;show(I.f 739 [I.w 3,I.w 7,I.w 12]).Z=true;rw[hf,w3,w7,w12];show((!decide (k=3)||decide (m.length<=24))&&true)=true;by_cases h3:k=3;rw[i6 (E.hH.ok.2.2.2 h3)];simp;grind;by_cases h2:dD (cL k s w g m o.1 o.2.1 o.2.2.1 o.2.2.2)=0
 have n2: ¬(dD (cL k s w g m o.1 o.2.1 o.2.2.1 o.2.2.2)≠0):=λh=>h h2
 rw[b9 n2];obtain⟨m',a1,a2⟩:=E.put hv h1 h2 h20;have d3':bZ I xU= .A m':=d3.trans a1;refine Y9 (by rw[jU,d2,cG];simp_all) (W6 (EY hf fe_x d3' a2.ok) (W6 (Ia hf E a2 w8 d3' w0) (W6 n5 ?_)));refine VJ hf ?_ d7 (by rw[cM,w2];rfl) (by rw[cM,w15];rfl);show((I.f 208 [I.w 8,I.f 726 [bZ I xU,I.w 0]]).L.length:Int)=_;rw[hf,hf,d3,w8,w0];rfl;have n2:dD (cL k s w g m o.1 o.2.1 o.2.2.1 o.2.2.2)≠0:=h2;rw[c9 n2];refine cD (by rw[jU,d2,cG];simp_all) ?_;show some (0,[bZ I Qw])=_;rw[d2];rw[b9 h1];refine Y9 (by simp_all[dY,cM,cG,j7]) ?_;by_cases h2:fR mk lt o.2.2.1=0
 have n2: ¬(fR mk lt o.2.2.1≠0):=λh=>h h2
 rw[b9 n2];have e46:om [.D mk,.D lt,.D o.2.2.1]= .D o.2.2.1:=by show(if fR mk lt o.2.2.1=0 then Val.D o.2.2.1 else Val.D mk)=_;grind
 refine Y9 (by rw[jU,d8,cG];simp_all) (W6 n1 (W6 (Ia hf E E.hH w8 w7 (d46.trans e46)) (W6 n5 ?_)));refine VJ hf ?_ d7 (by rw[cM,w2];rfl) (by rw[cM,w15];rfl);show((I.f 208 [I.w 8,I.f 726 [I.w 7,bZ I (.Q 946 [.V 0,.V 1,.V 13])]]).L.length:Int)=_;rw[hf,hf,d46,w8,w7];rfl;have n2:fR mk lt o.2.2.1≠0:=h2;rw[c9 n2];refine cD (by rw[jU,d8,cG];simp_all) ?_;show some (0,[bZ I Ml])=_;rw[d8];have n0:Y4 o.1 o.2.1 o.2.2.1 o.2.2.2≠0:=h0;rw[c9 n0];refine cD (by rw[jU,d0,cG];simp_all) ?_;show some (0,[bZ I Oa])=_;rw[d0]
end
def yS:VT:= .N Hf (.N Jp (.N GI (.N EH (.J Fw (.W 0 [.C 30]) (.N GL (.N Ka (.J Ir (.J Gq (.W 0 [.C 160]) (.W 0 [.C 0])) (.W 0 [.C 0]))))))))
def bU9:UT_rTryE= .J (cX DO (.C 0)) (.W 0 [DO]) (.N (zb (zl 6) 100) (.J (ze (.V 8) 2) (.J (zs (.V 10) (.Q 831 [.V 6])) (.W 0 [.C 181]) (.J yX (.J ED (.W 0 [.C 180]) yS) yS)) (.J yX (.J ED (.W 0 [.C 180]) yS) yS))):=rfl
section
variable{I:Opq}(hf: ∀i a,I.f i a=F i a)
include hf
def tu_rTryE(hn:(F 955 [I.w 0,I.w 1,I.w 2,I.w 3,I.w 4,I.w 5,I.w 6,I.w 7,I.w 8,I.w 9,I.w 10,I.w 11,I.w 12]).Z=true):
 W5 UT_rTryE I=some (0,[F 954 [I.w 0,I.w 1,I.w 2,I.w 3,I.w 4,I.w 5,I.w 6,I.w 7,I.w 8,I.w 9,I.w 10,I.w 11,I.w 12]]):=by
 obtain⟨k,s,w,g,lt,cp,mk,m,T,tk,cu,o,st,he,E,hv,h20⟩:=bP_iff.1 hn;have he:[I.w 0,I.w 1,I.w 2,I.w 3,I.w 4,I.w 5,I.w 6,I.w 7,I.w 8,I.w 9,I.w 10,I.w 11,I.w 12]=fS k s w g lt cp tk cu++eZ o st:=by simp_all[absurd,congrArg,List.length,fP,eZ]
 obtain⟨w0,w1,w2,w3,w4,w5,w6,w7,hr⟩:=Se he;obtain⟨w8,w9,w10,w11,w12⟩:=op5 hr;rw[he];show _=some (0,[Val.D (Kg F0 (fS k s w g lt cp tk cu++eZ o st))]);have hop:xC (fS k s w g lt cp tk cu++eZ o st)= .A ((tk++[o]).map cH):=by show Val.A (tk.map cH++[cH o])=_;grind
 have hR:Kg F0 (fS k s w g lt cp tk cu++eZ o st)=if Y4 o.1 o.2.1 o.2.2.1 o.2.2.2≠0 then Y4 o.1 o.2.1 o.2.2.1 o.2.2.2
  else if o.1=2/\o.2.2.1<(mZ [.A (tk.map cH)]).I then 181
  else if o.1=1/\(iQ [mZ [.A (tk.map cH)],.D lt,.D o.2.2.1]).Z=true then 180
  else if(rj [.D k,.D s,.D w,.D g,oG [xC (fS k s w g lt cp tk cu++eZ o st)]]).Z=false then 30
  else gu (nF F0 (fS k s w g lt cp tk cu++[xC (fS k s w g lt cp tk cu++eZ o st)])).L.length (nF F0 (fS k s w g lt cp tk cu++[.A (tk.map cH)])).L.length cp st:=rfl
 rw[hop,Fj,<-E.hk]at hR;have d0:bZ I DO= .D (Y4 o.1 o.2.1 o.2.2.1 o.2.2.2):=by show I.f 701 [I.w 8,I.w 9,I.w 10,I.w 11]=_;rw[hf,w8,w9,w10,w11];rfl
 have d831:bZ I (.Q 831 [.V 6])= .D mk:=by show I.f 831 [I.w 6]=_;rw[hf,w6,E.hk];exact Fj tk
 have dL:dB I ED=(iQ [.D mk,.D lt,.D o.2.2.1]).Z:=by show(I.f 945 [bZ I (.Q 831 [.V 6]),I.w 4,I.w 10]).Z=_;rw[hf,d831,w4,w10];rfl
 have l6:((I.w 6).L.length:Int)=tk.length:=by simp_all
 have d4:bZ I lK= .A ((tk++[o]).map cH):=by show Val.A ((I.w 6).L++[Val.A [I.w 8,I.w 9,I.w 10,I.w 11]])=_;rw[w6,w8,w9,w10,w11,r9];rfl
 have l4:((bZ I lK).L.length:Int)=tk.length+1:=by simp_all
 have hC:Y4 o.1 o.2.1 o.2.2.1 o.2.2.2=0->W5 yS I=some (0,[.D (if(rj [.D k,.D s,.D w,.D g,oG [.A ((tk++[o]).map cH)]]).Z=false then 30 else gu (nF F0 (fS k s w g lt cp tk cu++[.A ((tk++[o]).map cH)])).L.length (nF F0 (fS k s w g lt cp tk cu++[.A (tk.map cH)])).L.length cp st)]):=λh0=>by
  have hev: ∀x∈dX (tk++[o]),dW x.2.1=true/\inI x.2.2/\Y4 1 x.1 x.2.1 x.2.2=0:=λx hx=>by
   rw[GF]at hx;rcases x6.1 hx with h|h
   exact⟨(E.hH.tm x h).1,(E.hH.tm x h).2,E.hH.V x h⟩;by_cases h1:o.1=1;rw[c9 h1]at h;rw[o7.1 h];exact⟨(wF h0 h1).2,hv,h1▸h0⟩;grind
  have h30:bZ I (.Q 830 [lK])= .A ((dX (tk++[o])).map cP):=by show I.f 830 [bZ I lK]=_;rw[hf,d4];exact congrArg Val.A (Cw (tk++[o]))
  have hlo:=KF (tk++[o]);have hlo:(dX (tk++[o])).length<=tk.length+1:=by grind
  have h829:(rj [.D k,.D s,.D w,.D g,oG [.A ((tk++[o]).map cH)]]).Z=eY k s w g ((dX (tk++[o])).map cP):=by show eY k s w g (lO ((tk++[o]).map cH))=_;rw[Cw]
  have d8:dB I Fw= !eY k s w g ((dX (tk++[o])).map cP):=by show(!(I.f 829 [I.w 0,I.w 1,I.w 2,I.w 3,bZ I (.Q 830 [lK])]).Z)=_;rw[hf,w0,w1,w2,w3,h30];rfl
  rw[h829];refine W6 ?_ (W6 ?_ (W6 ?_ (W6 ?_ ?_)));show decide (((I.w 6).L.length:Int)<=1000000)=true;grind;show decide (((bZ I lK).L.length:Int)<=1000000)=true;grind;show decide (((bZ I lK).L.length:Int)<=100)=true;grind;unfold EH;rw[dG,cJ,cK,h30,cG];refine and2 (i6 (by show(((dX (tk++[o])).map cP).length:Int)<=100;grind)) ?_;show(I.f 840 [I.w 0,I.w 1,I.w 2,I.w 3,bZ I (.Q 830 [lK])]).Z=true;rw[hf,h30,w0,w1,w2,w3];show(cY k s w g&&(decide (((dX (tk++[o])).map cP).length<=24)&&((dX (tk++[o])).map cP).all ug))=true;rw[E.hH.R,i6 (by grind),xn (λx hx=>⟨(hev x hx).1,(hev x hx).2.1⟩) (λx hx=>(hev x hx).2.2)];rfl;by_cases hk:eY k s w g ((dX (tk++[o])).map cP)=true
  have hk': ¬(eY k s w g ((dX (tk++[o])).map cP)=false):=by grind
  rw[b9 hk'];have hT: ∃m',TBL k s w g (dX (tk++[o])) m':=
   ⟨_,E.hH.R,Rm E.hH.R (λx hx=>⟨(hev x hx).1,(hev x hx).2.1⟩) (by omega) (λx hx=>(hev x hx).2.2) hk,λx hx=>⟨(hev x hx).1,(hev x hx).2.1⟩,λx hx=>(hev x hx).2.2,by omega⟩
  have p9: ∀{tk':List eL} {m'':U0},TBL k s w g (dX tk') m''->tk'.length<=21->(F 957 (fS k s w g lt cp tk cu++[.A (tk'.map cH)])).Z=true:=λ{tk' m''} H h=>bP_iff.2 ⟨k,s,w,g,lt,cp,mk,m,T,tk,cu,tk',m'',rfl,E,H,h⟩
  have w8s: ∀x:Val,[I.w 0,I.w 1,I.w 2,I.w 3,I.w 4,I.w 5,I.w 6,I.w 7,x]=fS k s w g lt cp tk cu++[x]:=λx=>by rw[w0,w1,w2,w3,w4,w5,w6,w7];rfl
  refine Y9 (by grind) (W6 ?_ (W6 ?_ ?_));show(I.f 957 [I.w 0,I.w 1,I.w 2,I.w 3,I.w 4,I.w 5,I.w 6,I.w 7,bZ I lK]).Z=true;grind;show(I.f 957 [I.w 0,I.w 1,I.w 2,I.w 3,I.w 4,I.w 5,I.w 6,I.w 7,I.w 6]).Z=true;rw[hf,w8s,w6];exact p9 E.hH (by omega);refine VJ hf ?_ ?_ (by rw[cM,w5];rfl) (by rw[cM,w12];rfl);show((I.f 956 [I.w 0,I.w 1,I.w 2,I.w 3,I.w 4,I.w 5,I.w 6,I.w 7,bZ I lK]).L.length:Int)=_;rw[hf,w8s,d4];rfl;show((I.f 956 [I.w 0,I.w 1,I.w 2,I.w 3,I.w 4,I.w 5,I.w 6,I.w 7,I.w 6]).L.length:Int)=_;rw[hf,w8s,w6];rfl
  have hk':eY k s w g ((dX (tk++[o])).map cP)=false:=by grind
  rw[c9 hk'];exact cD (by grind) rfl
 rw[hR,bU9];by_cases h0:Y4 o.1 o.2.1 o.2.2.1 o.2.2.2=0
 have n0: ¬(Y4 o.1 o.2.1 o.2.2.1 o.2.2.2≠0):=λh=>h h0
 rw[b9 n0];refine Y9 (by rw[jU,d0,cG];show(!decide (Y4 o.1 o.2.1 o.2.2.1 o.2.2.2=0))=false;rw[i6 h0];rfl) (W6 (by rw[cJ,cK,cM,l6,cG];exact i6 (by omega)) ?_);have hl2:dB I (zs (.V 10) (.Q 831 [.V 6]))=decide (o.2.2.1<mk):=by rw[cW,d831,cM,w10];rfl
 have e1:dB I yX=decide (o.1=1):=by unfold yX;rw[dY,cM,w8,cG];rfl
 have hI:W5 (.J yX (.J ED (.W 0 [.C 180]) yS) yS) I=some (0,[.D (if o.1=1/\(iQ [.D mk,.D lt,.D o.2.2.1]).Z=true then 180 else if(rj [.D k,.D s,.D w,.D g,oG [.A ((tk++[o]).map cH)]]).Z=false then 30 else gu (nF F0 (fS k s w g lt cp tk cu++[.A ((tk++[o]).map cH)])).L.length (nF F0 (fS k s w g lt cp tk cu++[.A (tk.map cH)])).L.length cp st)]):=by by_cases h1:o.1=1;refine cD (by rw[e1];exact i6 h1) ?_;by_cases hl:(iQ [.D mk,.D lt,.D o.2.2.1]).Z=true;rw[c9 ⟨h1,hl⟩];exact cD (dL.trans hl) rfl;rw[b9 λh=>hl h.2];exact Y9 (dL.trans (by simpa using hl)) (hC h0);rw[b9 λh=>h1 h.1];exact Y9 (by rw[e1];exact j7 h1) (hC h0)
 by_cases h2:o.1=2;refine cD (by rw[dY,cM,w8,cG];exact i6 h2) ?_;by_cases h3:o.2.2.1<mk;have hA:o.1=2/\o.2.2.1<(Val.D mk).I:=⟨h2,h3⟩;rw[c9 hA];exact cD (by rw[hl2];exact i6 h3) rfl
 have hA: ¬(o.1=2/\o.2.2.1<(Val.D mk).I):=λh=>h3 h.2
 rw[b9 hA];exact Y9 (by rw[hl2];exact j7 h3) hI;simp_all[b9,Y9,dY,cM,cG,j7];have n0:Y4 o.1 o.2.1 o.2.2.1 o.2.2.2≠0:=h0;rw[c9 n0];refine cD (by rw[jU,d0,cG];simp_all) ?_;show some (0,[bZ I DO])=_;rw[d0]
