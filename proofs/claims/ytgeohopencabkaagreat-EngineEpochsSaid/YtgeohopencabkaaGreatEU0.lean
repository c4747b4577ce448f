import Derived.Test.YtgeohopencabkaaGreatE1
import Derived.Test.YtgeohopencabkaaGreatEQ1
import Derived.Test.YtgeohopencabkaaGreatEQ0
set_option linter.all false
namespace Go.Ev.S9
open Go Go.Ev
def Sf:SX:= zs aT (zm aN aO)
def UT_late:VT:= .J (fT aO aM) (.J (zb aO 1048576) (.J (zn (cG aN (.C (-2199023255552))) (cG aO aO)) (.W 0 [Sf]) (.J (fT aN (.C (-1099511627776))) (.J (zb aN 1099511627776) (.W 0 [Sf]) (.W 0 [.cb false])) (.W 0 [.cb false]))) (.W 0 [.cb false])) (.W 0 [.cb false])
def UT_cRight:VT:= .J (fT aS aM) (.J (zb aS 1048576) (.J (.Q 700 [aN,aO,aT,aU]) (.J (fT bd aZ) (.W 0 [zb bd 4096]) (.W 0 [.cb false])) (.W 0 [.cb false])) (.W 0 [.cb false])) (.W 0 [.cb false])
def UT_wNew:VT:= .J (fT aN aM) (.J (zb aN 1048576) (.W 0 [.C (-2199023255552),aN,aM]) (.W 0 [aM,aM,bC])) (.W 0 [aM,aM,bC])
def OK:SX:= fT aT (.C (-1099511627776))
def Rz:SX:= cY (zb aT 1099511627776)
def Tf:SX:= zs aT aN
def UT_adv:VT:= .J (fT aO aM) (.J (zb aO 1048576) (.J (zn (cG aN (.C (-2199023255552))) (cG aO aO)) (.J (OK) (.J (Rz) (.W 0 [aN,aO,bS]) (.J (Tf) (.W 0 [aN,aO,.C 181]) (.W 0 [aT,aO,aM]))) (.W 0 [aN,aO,bS])) (.J (fT aN (.C (-1099511627776))) (.J (cY (zb aN 1099511627776)) (.W 0 [aN,aO,bC]) (.J (OK) (.J (Rz) (.W 0 [aN,aO,bS]) (.J (Tf) (.W 0 [aN,aO,.C 181]) (.W 0 [aT,aO,aM]))) (.W 0 [aN,aO,bS]))) (.W 0 [aN,aO,bC]))) (.W 0 [aN,aO,bC])) (.W 0 [aN,aO,bC])
def KD:SX:= zb (zl 9) 1000000
def UT_taken:VT:= .J (zs aM (zl 9)) (.N (KD) (.W 0 [bE])) (.both (.W 0 [ck]) (.N (KD) (.W 0 [bE])))
def wM:VT:= .J (zs aR (zl 0)) (.J (zs aR (.C 100)) (.N (zp aR) (.J (zt (.O .slen [zg 0 2001 2]) 50) (.W 2 [.cb false,aR]) (.J (zs (zg 0 2001 5) (.C (-1000000))) (.W 2 [.cb false,aR]) (.J (zt (zg 0 2001 5) 1000000) (.W 2 [.cb false,aR]) (.W 0 [aV,zi aR]))))) (.W 1 [aV,aR])) (.W 1 [aV,aR])
def UT_few:VT:= .loop ⟨960,[.cb false,aM],2000,[aM,zl 0,aN,aO]⟩ wM [.W 0 [fW (zl 0) aO],.W 0 [zo (.Q 960 [.cb false,aM,aM,zl 0,aN,aO]) 0]]
def Aa:SX:= .O (.ar .sub .u64) [bM,aZ]
def UT_cut:VT:= .J (dO bM (.O (.conv .u64) [zl 10])) (.W 0 [aM,.cb false]) (.J (ze bM 0) (.W 0 [aM,.cb true]) (.N (zn (zp Aa) (zs Aa (zl 10))) (.W 0 [cr bF Aa 0,.cb true])))
def UT_pend:VT:= .N (zn (zn (zb (zl 7) 400) (.Q 431 [bh])) (.Q 491 [bh])) (.N (zn (zb (zl 8) 400) (zb (zL (.Q 726 [bh,aN])) 400)) (.W 0 [.Q 208 [bi,.Q 726 [bh,aN]]]))
def Z0:SX:= zn (zn (zp bq) (fW bq (zl 1512))) (zn (zn (zp bA) (fW bA (zl 1513))) (zn (zp bt) (fW bt (zl 1514))))
def Z1:SX:= zL (.O .lsub [bB,aM,bA])
def Z2:SX:= zn (zb Z1 1000000) (.Q 948 [.O .lsub [bB,aM,bA]])
def Z3:SX:= .Q 953 [bc,.Q 942 [aS],bd,aN,aO,aT,aU,be,.O .lsub [bu,aM,bq],.O .lsub [bB,aM,bA],.O .lsub [bx,aM,bt]]
def Z4:SX:= .Q 701 [zg 6 1505 1,zg 6 1505 2,zg 6 1505 3,zg 6 1505 4]
def Z5:SX:= cG Z1 (zi Z1)
def Z6:SX:= .Q 951 [bc,.Q 942 [aS],bd,aN,aO,aT,aU,be,.O .lsub [bu,aM,bq],.O .lsub [bB,aM,bA],.O .lsub [bx,aM,bt]]
def Z7:SX:= zb (zL Z6) 1000000
def Z8:SX:= za bz (zL Z6)
def Z9:SX:= zn (zn (zb (zl 1511) 400) (.Q 431 [be])) (.Q 491 [be])
def TP:SX:= .Q 732 [aN,aO,aT,aU,be,zg 6 1505 1,zg 6 1505 2,zg 6 1505 3,zg 6 1505 4]
def iC:SX:= .Q 733 [aN,aO,aT,aU,be,zg 6 1505 1,zg 6 1505 2,zg 6 1505 3,zg 6 1505 4]
def IG:SX:= zb (zL (.O .lsub [bu,aM,bq])) 400
def Qy:SX:= zL (.Q 208 [.O .lsub [bu,aM,bq],.Q 726 [iC,bc]])
def di:SX:= zc bB (.O .row [.O .row [zg 6 1505 1,zg 6 1505 2,zg 6 1505 3,zg 6 1505 4]])
def BY:SX:= zn (cG bA (zl 1513)) (zb (zL di) 1000000)
def Dt:SX:= cY (.O .beq [.cb true,cG (zL di) (zi Z1)])
def Z17:SX:= .Q 953 [bc,.Q 942 [aS],bd,aN,aO,aT,aU,iC,.O .lsub [bu,aM,bq],di,.O .lsub [bx,aM,bt]]
def Z18:SX:= dO (za bz (zL (.Q 951 [bc,.Q 942 [aS],bd,aN,aO,aT,aU,iC,.O .lsub [bu,aM,bq],di,.O .lsub [bx,aM,bt]]))) bd
def VJ:SX:= .Q 947 [bc,.Q 942 [aS],zg 6 1505 3]
def ji:SX:= .Q 946 [bc,.Q 942 [aS],zg 6 1505 3]
def UX:SX:= zL (.Q 208 [.O .lsub [bu,aM,bq],.Q 726 [be,ji]])
def Z22:SX:= .Q 953 [ji,.Q 942 [aS],bd,aN,aO,aT,aU,be,.O .lsub [bu,aM,bq],di,.O .lsub [bx,aM,bt]]
def Z23:SX:= dO (za bz (zL (.Q 951 [ji,.Q 942 [aS],bd,aN,aO,aT,aU,be,.O .lsub [bu,aM,bq],di,.O .lsub [bx,aM,bt]]))) bd
def ed:SX:= zc bx (.O .row [.O .row [bA]])
def uw:SX:= .Q 938 [ed,.O (.conv .u64) [zL ed]]
def nO:SX:= .O .lsub [.O .lsub [bB,aM,bA],aM,uw]
def vL:SX:= .Q 222 [.O .lsub [bn,aM,bj],Z6]
def tR:VT:= .J (zs bm (zl 6)) (.N (zp bm) (.J (cY (zg 6 1505 0)) (.N (zn Z0 Z2) (.N Z3 (.J (ew Z4 aM) (.J (cY (.O .beq [ze Z4 0,Z5])) (.W 2 [.cb false,bz,bv,bw,bj,bm,bc,bq,bA,bt,bn,be,bu,bB,bx]) (.N Z7 (.J (cY (.Q 201 [Z6,Z6])) (.W 2 [.cb false,bz,bv,bw,bj,bm,bc,bq,bA,bt,bn,be,bu,bB,bx]) (.J (zs bc bv) (.W 2 [.cb false,bz,bv,bw,bj,bm,bc,bq,bA,bt,bn,be,bu,bB,bx]) (.J (dO Z8 bd) (.W 2 [.cb false,bz,bv,bw,bj,bm,bc,bq,bA,bt,bn,be,bu,bB,bx]) (.W 0 [bH,bz,bc,bw,bj,zi bm,bc,bq,bA,bt,bn,be,bu,bB,bx])))))) (.J (ze (zg 6 1505 1) 1) (.J (.Q 945 [bc,.Q 942 [aS],zg 6 1505 3]) (.J (cY (.O .beq [.cb false,Z5])) (.W 2 [.cb false,bz,bv,bw,bj,bm,bc,bq,bA,bt,bn,be,bu,bB,bx]) (.N Z7 (.J (cY (.Q 201 [Z6,Z6])) (.W 2 [.cb false,bz,bv,bw,bj,bm,bc,bq,bA,bt,bn,be,bu,bB,bx]) (.J (zs bc bv) (.W 2 [.cb false,bz,bv,bw,bj,bm,bc,bq,bA,bt,bn,be,bu,bB,bx]) (.J (dO Z8 bd) (.W 2 [.cb false,bz,bv,bw,bj,bm,bc,bq,bA,bt,bn,be,bu,bB,bx]) (.W 0 [bH,bz,bc,bw,bj,zi bm,bc,bq,bA,bt,bn,be,bu,bB,bx])))))) (.N (zn Z9 (.Q 739 [aN,be,zg 6 1505 2])) (.J (ew TP aM) (.J (cY (.O .beq [ze TP 0,Z5])) (.W 2 [.cb false,bz,bv,bw,bj,bm,bc,bq,bA,bt,bn,be,bu,bB,bx]) (.N Z7 (.J (cY (.Q 201 [Z6,Z6])) (.W 2 [.cb false,bz,bv,bw,bj,bm,bc,bq,bA,bt,bn,be,bu,bB,bx]) (.J (zs bc bv) (.W 2 [.cb false,bz,bv,bw,bj,bm,bc,bq,bA,bt,bn,be,bu,bB,bx]) (.J (dO Z8 bd) (.W 2 [.cb false,bz,bv,bw,bj,bm,bc,bq,bA,bt,bn,be,bu,bB,bx]) (.W 0 [bH,bz,bc,bw,bj,zi bm,bc,bq,bA,bt,bn,be,bu,bB,bx])))))) (.N (zn (zn (zb (zL iC) 400) (.Q 431 [iC])) (.Q 491 [iC])) (.N (zn IG (zb (zL (.Q 726 [iC,bc])) 400)) (.J (dO Qy (zL Z6)) (.J (dO bz (zm bd Qy)) (.J (cY (.O .beq [.cb false,Z5])) (.W 2 [.cb false,bz,bv,bw,bj,bm,bc,bq,bA,bt,bn,be,bu,bB,bx]) (.N Z7 (.J (cY (.Q 201 [Z6,Z6])) (.W 2 [.cb false,bz,bv,bw,bj,bm,bc,bq,bA,bt,bn,be,bu,bB,bx]) (.J (zs bc bv) (.W 2 [.cb false,bz,bv,bw,bj,bm,bc,bq,bA,bt,bn,be,bu,bB,bx]) (.J (dO Z8 bd) (.W 2 [.cb false,bz,bv,bw,bj,bm,bc,bq,bA,bt,bn,be,bu,bB,bx]) (.W 0 [bH,bz,bc,bw,bj,zi bm,bc,bq,bA,bt,bn,be,bu,bB,bx])))))) (.N BY (.N (.Q 948 [di]) (.J Dt (.W 2 [.cb false,bz,bv,bw,bj,bm,bc,bq,zL di,bt,bn,iC,bu,di,bx]) (.J (zs bc bv) (.W 2 [.cb false,bz,bv,bw,bj,bm,bc,bq,zL di,bt,bn,iC,bu,di,bx]) (.N Z17 (.J Z18 (.W 2 [.cb false,bz,bv,bw,bj,bm,bc,bq,zL di,bt,bn,iC,bu,di,bx]) (.W 0 [bH,bz,bc,bw,bj,zi bm,bc,bq,zL di,bt,bn,iC,bu,di,bx])))))))) (.N BY (.N (.Q 948 [di]) (.J Dt (.W 2 [.cb false,bz,bv,bw,bj,bm,bc,bq,zL di,bt,bn,iC,bu,di,bx]) (.J (zs bc bv) (.W 2 [.cb false,bz,bv,bw,bj,bm,bc,bq,zL di,bt,bn,iC,bu,di,bx]) (.N Z17 (.J Z18 (.W 2 [.cb false,bz,bv,bw,bj,bm,bc,bq,zL di,bt,bn,iC,bu,di,bx]) (.W 0 [bH,bz,bc,bw,bj,zi bm,bc,bq,zL di,bt,bn,iC,bu,di,bx]))))))))))))) (.J (ew VJ aM) (.J (cY (.O .beq [ze VJ 0,Z5])) (.W 2 [.cb false,bz,bv,bw,bj,bm,bc,bq,bA,bt,bn,be,bu,bB,bx]) (.N Z7 (.J (cY (.Q 201 [Z6,Z6])) (.W 2 [.cb false,bz,bv,bw,bj,bm,bc,bq,bA,bt,bn,be,bu,bB,bx]) (.J (zs bc bv) (.W 2 [.cb false,bz,bv,bw,bj,bm,bc,bq,bA,bt,bn,be,bu,bB,bx]) (.J (dO Z8 bd) (.W 2 [.cb false,bz,bv,bw,bj,bm,bc,bq,bA,bt,bn,be,bu,bB,bx]) (.W 0 [bH,bz,bc,bw,bj,zi bm,bc,bq,bA,bt,bn,be,bu,bB,bx])))))) (.N Z9 (.N (zn IG (zb (zL (.Q 726 [be,ji])) 400)) (.J (dO UX (zL Z6)) (.J (dO bz (zm bd UX)) (.J (cY (.O .beq [.cb false,Z5])) (.W 2 [.cb false,bz,bv,bw,bj,bm,bc,bq,bA,bt,bn,be,bu,bB,bx]) (.N Z7 (.J (cY (.Q 201 [Z6,Z6])) (.W 2 [.cb false,bz,bv,bw,bj,bm,bc,bq,bA,bt,bn,be,bu,bB,bx]) (.J (zs bc bv) (.W 2 [.cb false,bz,bv,bw,bj,bm,bc,bq,bA,bt,bn,be,bu,bB,bx]) (.J (dO Z8 bd) (.W 2 [.cb false,bz,bv,bw,bj,bm,bc,bq,bA,bt,bn,be,bu,bB,bx]) (.W 0 [bH,bz,bc,bw,bj,zi bm,bc,bq,bA,bt,bn,be,bu,bB,bx])))))) (.N BY (.N (.Q 948 [di]) (.J Dt (.W 2 [.cb false,bz,bv,bw,bj,bm,ji,bq,zL di,bt,bn,be,bu,di,bx]) (.J (zs ji bv) (.W 2 [.cb false,bz,bv,bw,bj,bm,ji,bq,zL di,bt,bn,be,bu,di,bx]) (.N Z22 (.J Z23 (.W 2 [.cb false,bz,bv,bw,bj,bm,ji,bq,zL di,bt,bn,be,bu,di,bx]) (.W 0 [bH,bz,ji,bw,bj,zi bm,ji,bq,zL di,bt,bn,be,bu,di,bx])))))))) (.N BY (.N (.Q 948 [di]) (.J Dt (.W 2 [.cb false,bz,bv,bw,bj,bm,ji,bq,zL di,bt,bn,be,bu,di,bx]) (.J (zs ji bv) (.W 2 [.cb false,bz,bv,bw,bj,bm,ji,bq,zL di,bt,bn,be,bu,di,bx]) (.N Z22 (.J Z23 (.W 2 [.cb false,bz,bv,bw,bj,bm,ji,bq,zL di,bt,bn,be,bu,di,bx]) (.W 0 [bH,bz,ji,bw,bj,zi bm,ji,bq,zL di,bt,bn,be,bu,di,bx]))))))))))))))) (.N (zn Z0 Z3) (.N Z9 (.N (zn (cG bt (zl 1514)) (zb (zL ed) 1000000)) (.N (zn (zn (zp bj) (fW bj (zl 1510))) (zn (zn (zb (zL (.O .lsub [bn,aM,bj])) 400) (zb (zL Z6) 800)) (zn (zn (.Q 431 [.O .lsub [bn,aM,bj]]) (.Q 433 [Z6])) (.Q 233 [.O .lsub [bn,aM,bj],Z6])))) (.N (.Q 937 [ed,.O (.conv .u64) [zL ed]]) (.N Z2 (.J (ew (.Q 232 [.O .lsub [bn,aM,bj],Z6]) aM) (.W 2 [.cb false,Z8,bv,bw,bj,bm,bc,zL (.Q 726 [be,bc]),bA,zL ed,bn,be,.Q 726 [be,bc],bB,ed]) (.J (cY (.Q 939 [ed,.O (.conv .u64) [zL ed]])) (.W 2 [.cb false,Z8,bv,bw,bj,bm,bc,zL (.Q 726 [be,bc]),bA,zL ed,bn,be,.Q 726 [be,bc],bB,ed]) (.J (zs uw bw) (.W 2 [.cb false,Z8,bv,bw,bj,bm,bc,zL (.Q 726 [be,bc]),bA,zL ed,bn,be,.Q 726 [be,bc],bB,ed]) (.J (ew uw Z1) (.W 2 [.cb false,Z8,bv,bw,bj,bm,bc,zL (.Q 726 [be,bc]),bA,zL ed,bn,be,.Q 726 [be,bc],bB,ed]) (.N (.Q 953 [bc,.Q 942 [aS],bd,aN,aO,aT,aU,be,.Q 726 [be,bc],.O .lsub [bB,aM,bA],ed]) (.J (ew (zL (.Q 951 [bc,.Q 942 [aS],bd,aN,aO,aT,aU,be,.Q 726 [be,bc],.O .lsub [bB,aM,bA],ed])) aM) (.W 2 [.cb false,Z8,bv,bw,bj,bm,bc,zL (.Q 726 [be,bc]),bA,zL ed,bn,be,.Q 726 [be,bc],bB,ed]) (.N (zn (zp uw) (fW uw Z1)) (.N (zn (zb (zL nO) 100) (.Q 838 [aN,aO,aT,aU,nO])) (.J (ew (.Q 837 [aN,aO,aT,aU,nO]) aM) (.W 2 [.cb false,Z8,bv,bw,bj,bm,bc,zL (.Q 726 [be,bc]),bA,zL ed,bn,be,.Q 726 [be,bc],bB,ed]) (.N (zb (zL vL) 1000000) (.J (cY (.Q 3 [vL,.Q 836 [aN,aO,aT,aU,nO]])) (.W 2 [.cb false,Z8,bv,bw,bj,bm,bc,zL (.Q 726 [be,bc]),bA,zL ed,bn,be,.Q 726 [be,bc],bB,ed]) (.N (zb (zL (.Q 726 [be,bc])) 1000000) (.J (cY (.Q 3 [.Q 726 [be,bc],.Q 836 [aN,aO,aT,aU,nO]])) (.W 2 [.cb false,Z8,bv,bw,bj,bm,bc,zL (.Q 726 [be,bc]),bA,zL ed,bn,be,.Q 726 [be,bc],bB,ed]) (.W 0 [bH,Z8,bv,uw,zL vL,zi bm,bc,zL (.Q 726 [be,bc]),bA,zL ed,vL,be,.Q 726 [be,bc],bB,ed])))))))))))))))))))))) (.W 1 [bH,bz,bv,bw,bj,bm,bc,bq,bA,bt,bn,be,bu,bB,bx])
def UT_epochs:VT:= .J (cY (.Q 950 [bf,bT])) (.W 0 [.cb true]) (.J (cY (.Q 944 [aN,aO,aT,aU,aS,bd])) (.W 0 [.cb true]) (.J (cY (.Q 700 [aN,aO,aT,aU])) (.X) (.loop ⟨985,[.cb false,aM,.Q 941 [aS],aM,zL ck,aM,.Q 941 [aS],zL ck,zL ck,zL ck,ck,ck,ck,ck,ck],1500,[aM,zl 6,bf,aN,aO,aT,aU,aS,bd,.Q 941 [aS],.Q 942 [aS],bd,zL ck,zL ck,zL ck,aN,aO,aT,aU,ck,ck,ck]⟩ tR [.W 0 [.cb true],.W 0 [zo (.Q 985 [.cb false,aM,.Q 941 [aS],aM,zL ck,aM,.Q 941 [aS],zL ck,zL ck,zL ck,ck,ck,ck,ck,ck,aM,zl 6,bf,aN,aO,aT,aU,aS,bd,.Q 941 [aS],.Q 942 [aS],bd,zL ck,zL ck,zL ck,aN,aO,aT,aU,ck,ck,ck]) 0]])))
def ZW(tk:List eh)(o:eh):jc (tk++[o])=jc tk++(if o.1=1 then [(o.2.1,o.2.2.1,o.2.2.2)]else []):=by unfold jc;by_cases h:o.1=1;simp[h];simp[h]
def dB3: ∀tk:List eh,(jc tk).length<=tk.length:=λtk=>List.length_filterMap_le _ tk
def dB4{tk:List eh}{i:Nat}(h:i<tk.length):cg (tk.map cJ) i=cJ tk[i]:=by grind[mb]
def cL0(tk:List eh):tw (tk.map cJ)=(jc tk).map cK:=by
 have h:=Cz (λr=>bif decide (ci r 0=1)then [yQ r]else []) (tk.map cJ);unfold tw;rw[show xy (tk.map cJ)=λi=>(λr=>bif decide (ci r 0=1)then [yQ r]else []) (cg (tk.map cJ) i)from rfl,h];induction tk with
 |nil=>rfl
 |cons o r ih=>
  have ih:=ih (Cz (λr=>bif decide (ci r 0=1)then [yQ r]else []) (r.map cJ));rw[m8,A5,ih];by_cases h:o.1=1;simp[jc,h,cJ,ci,X1,yQ,cK];simp_all[jc,cJ,ci,X1]
def OL(tk:List eh)(o:eh):rN (tk++[o])=if o.1=2 then o.2.2.1 else rN tk:=by unfold rN;rw[List.foldl_append];rfl
theorem Yw(tk:List eh): ∀n,n<=tk.length->iz (tk.map cJ) n= .D (rN (tk.take n))
 |0,_=>rfl
 |n+1,h=>by
  have ht:tk.take (n+1)=tk.take n++[tk[n]]:=by rw[U3 (by omega)]
  rw[ht,OL];show(if ci (cg (tk.map cJ) n) 0=2 then X1 (cg (tk.map cJ) n) 2 else iz (tk.map cJ) n)=_;rw[dB4 (by omega),Yw tk n (by omega)];show(if tk[n].1=2 then Val.D tk[n].2.2.1 else _)=_;grind
def Tc(tk:List eh):sM [.A (tk.map cJ)]= .D (rN tk):=by show iz (tk.map cJ) (tk.map cJ).length=_;grind[Yw]
def dB5(tk:List eh)(n:Nat):(tk.map cJ).take n=(tk.take n).map cJ:=by simp
section
variable{k s w g:Int}{evs:List cU}{m:U7}(H:TBL k s w g evs m)
include H
def x490:F0 490 [.A m]= .A (S7.srt false m):=wj.x490u _ m (λr hr=>Bn (H.T.nrm r hr)) (G5 _) H.T.nd
def Nb(x:Int):dy F0 [.A m,.D x]=qD [kU F0 [.D k,.D s,.D w,.D g,.A (evs.map cK)],.D x]:=by rw[H.rows];show Val.A ((F0 490 [.A m]).L.filter (fy x))= .A (Ht (S7.srt false m) x);rw[x490 H,d58 _ _ (λr hr=>H.rows7 hr)];rfl
def c63(x:Int): ∃L,dy F0 [.A m,.D x]= .A L/\L.length<=400/\ ∀r∈L,rowS r:=by refine⟨(S7.srt false m).filter (fy x),?_,?_,λr hr=>H.rowsS (l7.1 hr).1⟩;rfl;refine p9 (J1 _ _) ?_;rw[S7.srt_len];exact H.ok.2.2.1
end
def dB6{k s w g:Int}{tk:List eh}{m:U7}(H:TBL k s w g (jc tk) m):qD [kU F0 [.D k,.D s,.D w,.D g,uY [.A (tk.map cJ)]],sM [.A (tk.map cJ)]]=dy F0 [.A m,.D (rN tk)]:=by rw[Nb H,Tc];show qD [kU F0 [.D k,.D s,.D w,.D g,.A (tw (tk.map cJ))],_]=_;rw[cL0]
def er3(cu:uq):(wL [.A (cu.map eB),.D (cu.map eB).length]).I=iJ cu:=by
 show(if((cu.map eB).length:Int)=0\/((cu.map eB).length:Int)<((cu.map eB).length:Int)then Val.D 0 else X1 (cg (cu.map eB) (((cu.map eB).length:Int)-1).toNat) 0).I=_;rw[k7];by_cases h:cu=[];subst h;rfl
 have hp:0<cu.length:=P4.2 h;rw[b9 (by omega),show((cu.length:Int)-1).toNat=cu.length-1 by omega];have:cg (cu.map eB) (cu.length-1)=eB (iJ cu):=by rw[mb (by rw[k7];omega),G8];unfold iJ;rw[List.getLastD_eq_getLast?,List.getLast?_eq_getElem?,m7 (by omega)];rfl
 rw[this];rfl
def dU3{ek t v:Int}{ks:zR}(h:X5 ek ks t v=0)(h1:ek≠1):ek=2/\ei t=true:=by unfold X5 at h;grind
section
variable{k s w g lt cp mk:Int}{m:U7}{T:Val}{tk:List eh}{cu:uq}(E:EN F0 k s w g lt cp mk m T tk cu)
include E
def EN.told:qD [kU F0 [.D k,.D s,.D w,.D g,uY [.A ((tk.map cJ).take (iJ cu))]],sM [.A ((tk.map cJ).take (iJ cu))]]=T:=by rw[dB5,Tc];show qD [kU F0 [.D k,.D s,.D w,.D g,.A (tw ((tk.take (iJ cu)).map cJ))],_]=_;rw[cL0,E.hT];rfl
def EN.chg(l:Val):Hj F0 (EW k s w g lt cp tk cu++[l])=F0 208 [T,qD [kU F0 [.D k,.D s,.D w,.D g,uY [l]],sM [l]]]:=by show F0 208 [qD [kU F0 [.D k,.D s,.D w,.D g,uY [.A ((tk.map cJ).take (wL [.A (cu.map eB),.D (cu.map eB).length]).I.toNat)]],sM [.A ((tk.map cJ).take (wL [.A (cu.map eB),.D (cu.map eB).length]).I.toNat)]],_]=_;rw[er3,Int.toNat_natCast,E.told];rfl
omit E in
def Pt:im F0 (gp k s w g lt cp mk m T tk cu)=F0 208 [T,dy F0 [.A m,.D mk]]:=rfl
def EN.same:Hj F0 (EW k s w g lt cp tk cu++[.A (tk.map cJ)])=im F0 (gp k s w g lt cp mk m T tk cu):=by rw[E.chg,dB6 E.hH,Pt,E.hk]
def EN.tList: ∃L,T= .A L/\L.length<=400/\ ∀r∈L,rowS r:=by obtain⟨mc,h⟩:=E.hmc;obtain⟨L,h1,h2,h3⟩:=c63 h (rN (tk.take (iJ cu)));exact⟨L,by rw[E.hT,<-h1,Nb h];rfl,h2,h3⟩
def EN.put{o:eh}(hv:inI o.2.2.2)(h1:o.1=1)(h0:dp (cE k s w g m o.1 o.2.1 o.2.2.1 o.2.2.2)=0)(h20:tk.length<20):
 ∃m',dR F0 (cE k s w g m o.1 o.2.1 o.2.2.1 o.2.2.2)= .A m'/\TBL k s w g (jc (tk++[o])) m':=by
 have hl:=dB3 tk;obtain⟨m',evs',a1,a2,_,a4,_⟩:=dB1 E.hH (by omega) hv (ek:=o.1) (ks:=o.2.1) (t:=o.2.2.1);rw[b9 (by simp[h0])]at a4;have:evs'=jc (tk++[o]):=by
  rw[ZW,i6 h1];have h2:(jc tk).map cK++[Val.A [.D o.1,.vs o.2.1,.D o.2.2.1,.D o.2.2.2]]=(jc tk++[(o.2.1,o.2.2.1,o.2.2.2)]).map cK:=by rw[s6,h1];rfl
  rw[h2]at a4;exact(List.map_inj_right (λx y h=>by obtain⟨a,b,c⟩:=x;obtain⟨rfl,rfl,rfl⟩:=h;rfl)).1 a4.symm
 grind
end
def en0{k s w g lt cp:Int}(hR:X9 k s w g=true)(hl:0<=lt/\lt<=1048576)(hc:1<=cp/\cp<=4096):EN F0 k s w g lt cp (-2199023255552) [] (.A []) [] []:=by have h0:TBL k s w g (jc []) []:=cK5 hR;refine⟨h0,rfl,.inl rfl,hl,hc,λo h=>(by cases h),s8 _,λc h=>(by cases h),s8 _,⟨[],h0⟩,?_⟩;rfl
def RM(cu:uq)(c:Nat):iJ (cu++[c])=c:=by simp[iJ]
section
variable{k s w g lt cp mk:Int}{m:U7}{T:Val}{tk:List eh}{cu:uq}(E:EN F0 k s w g lt cp mk m T tk cu)
include E
def EN.last:iJ cu<=tk.length:=by
 unfold iJ;rcases V7 cu with h|⟨l,c,h⟩
 grind;subst h;simpa using E.hcu c (by simp)
def EN.pub(hc:cu.length<20):EN F0 k s w g lt cp mk m (dy F0 [.A m,.D mk]) tk (cu++[tk.length]):=by
 refine⟨E.hH,E.hk,E.hm,E.hlt,E.hcp,E.hok,E.hln,λc h=> ?_,by grind,⟨m,by rw[RM,B1];exact E.hH⟩,?_⟩
 rcases t8.1 h with h|h
 exact E.hcu c h;grind;rw[RM,Nb E.hH];unfold Ps;rw[B1,E.hk]
def EN.more{o:eh}{m':U7}{mk':Int}(h20:tk.length<20)(hv:inI o.2.2.2)(h0:X5 o.1 o.2.1 o.2.2.1 o.2.2.2=0)(hT:TBL k s w g (jc (tk++[o])) m')(hk:mk'=rN (tk++[o]))(hm:mk'= -2199023255552\/ei mk'=true):
 EN F0 k s w g lt cp mk' m' T (tk++[o]) cu:=by
 have ht:(tk++[o]).take (iJ cu)=tk.take (iJ cu):=T9 E.last;refine⟨hT,hk,hm,E.hlt,E.hcp,λx h=> ?_,by grind,λc h=> ?_,E.hcl,?_,?_⟩
 rcases t8.1 h with h|h
 exact E.hok x h;grind;rw[k9];exact p9 (E.hcu c h) (D8 _ _);rw[ht];exact E.hmc;rw[E.hT];grind[Ps]
def EN.acc{o:eh}{st:Int}(h:iI F0 (gp k s w g lt cp mk m T tk cu++gw o st)=0):X5 o.1 o.2.1 o.2.2.1 o.2.2.2=0/\(o.1=1->(nW [.D mk,.D lt,.D o.2.2.1]).Z=false/\dp (cE k s w g m o.1 o.2.1 o.2.2.1 o.2.2.2)=0)/\(o.1≠1->gU mk lt o.2.2.1=0):=by
 have _:=E;have hP:iI F0 (gp k s w g lt cp mk m T tk cu++gw o st)=if X5 o.1 o.2.1 o.2.2.1 o.2.2.2≠0 then X5 o.1 o.2.1 o.2.2.1 o.2.2.2
  else if o.1=1 then(if(nW [.D mk,.D lt,.D o.2.2.1]).Z then 180 else if dp (cE k s w g m o.1 o.2.1 o.2.2.1 o.2.2.2)≠0 then dp (cE k s w g m o.1 o.2.1 o.2.2.1 o.2.2.2)
   else gS (F0 208 [T,dy F0 [dR F0 (cE k s w g m o.1 o.2.1 o.2.2.1 o.2.2.2),.D mk]]).L.length (F0 208 [T,dy F0 [.A m,.D mk]]).L.length cp st)
  else if gU mk lt o.2.2.1≠0 then gU mk lt o.2.2.1
  else gS (F0 208 [T,dy F0 [.A m,og [.D mk,.D lt,.D o.2.2.1]]]).L.length (F0 208 [T,dy F0 [.A m,.D mk]]).L.length cp st:=rfl
 grind
def EN.ev{o:eh}{st:Int}(hv:inI o.2.2.2)(h20:tk.length<20)(h1:o.1=1)(h:iI F0 (gp k s w g lt cp mk m T tk cu++gw o st)=0):
 ∃m',dR F0 (cE k s w g m o.1 o.2.1 o.2.2.1 o.2.2.2)= .A m'/\EN F0 k s w g lt cp mk m' T (tk++[o]) cu:=by
 obtain⟨h0,h2,_⟩:=E.acc h;obtain⟨m',a1,a2⟩:=E.put hv h1 (h2 h1).2 h20;exact⟨m',a1,E.more h20 hv h0 a2 (by rw[OL,b9 (by omega)];exact E.hk) E.hm⟩
def EN.mrk{o:eh}{st:Int}(hv:inI o.2.2.2)(h20:tk.length<20)(h1:o.1≠1)(h:iI F0 (gp k s w g lt cp mk m T tk cu++gw o st)=0):
 EN F0 k s w g lt cp o.2.2.1 m T (tk++[o]) cu/\og [.D mk,.D lt,.D o.2.2.1]= .D o.2.2.1:=by
 obtain⟨h0,_,h3⟩:=E.acc h;obtain⟨h2,ht⟩:=dU3 h0 h1;have hT:TBL k s w g (jc (tk++[o])) m:=by rw[ZW,b9 h1,x5];exact E.hH
 refine⟨E.more h20 hv h0 hT (by rw[OL,i6 h2]) (.inr ht),?_⟩;show(if gU mk lt o.2.2.1=0 then Val.D o.2.2.1 else Val.D mk)=_;grind
end
structure ESok (k s w g lt cp:Int) (i:Nat) (x:ES):Prop where
 E:EN F0 k s w g lt cp x.mark x.m x.T x.tk x.cu
 n:x.tk.length<=i
 c:x.cu.length<=i
def dB7{k s w g lt cp:Int}{i:Nat}{x:ES}(h:ESok k s w g lt cp i x)(hi:i<20){y:ActM}(hv:inI y.2.1.2.2.2):ESok k s w g lt cp (i+1) (x.step F0 k s w g lt cp y):=by
 obtain⟨E,n,c⟩:=h;unfold ES.step;split;exact⟨E.pub (by omega),by grind,by grind⟩;split;exact⟨E,by omega,by omega⟩
 rename_i h1 h2;have h2:iI F0 (gp k s w g lt cp x.mark x.m x.T x.tk x.cu++gw y.2.1 y.2.2)=0:=Classical.byContradiction λh=>h2 h
 have hl:(x.tk++[y.2.1]).length<=i+1:=by grind
 split;rename_i h3;obtain⟨m',a1,a2⟩:=E.ev hv (by omega) h3 h2;refine⟨?_,hl,by show x.cu.length<=i+1;omega⟩;show EN F0 k s w g lt cp x.mark (dR F0 (cE k s w g x.m y.2.1.1 y.2.1.2.1 y.2.1.2.2.1 y.2.1.2.2.2)).L x.T (x.tk++[y.2.1]) x.cu;simp_all;rename_i h3;exact⟨(E.mrk hv (by omega) h3 h2).1,hl,by grind⟩
