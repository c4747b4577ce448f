import Derived.Test.YtgeohopencabkaaGreatRows
import Derived.Test.YtgeohopencabkaaGreatEV1
import Derived.Test.YtgeohopencabkaaGreatE43
import Derived.ProofKit
set_option linter.all false
namespace Go.Proofs.YtgeohopencabkaaGreat.Ctr
open Go Go.Ev Go.Shelf
def aac(t g:Nat)(a:Fr):Bool:=match a.slot t with
 | .func (.func f) _ _=>Nat.beq f g
 |_=>false
noncomputable def nU:Env:=⟨Tryz.prog,λf=>bif Nat.beq f 108 then some (.mapsClone)else bif Nat.beq f 150 then some (.overlaps 173 4)else none,λ_=>false,λ_=>false,λ_ _ _=> .X,λ_ _=>none,λ_ _ _ _=>none⟩
abbrev dt:wD:=[.str,.int .i64,.int .i64,.int .i64,.int .i64,.int .i64,.int .i64]
abbrev ou:wD:=[.str,.int .i64,.int .i64]
abbrev kJ:wD:=[.int .i64,.int .i64]
abbrev wd:wD:=[.int .i64,.int .i64,.int .i64,.int .i64]
abbrev rX:wD:=[.str,.int .i64,.int .i64,.bool,.int .i64,.int .i64,.int .i64,.int .i64]
abbrev BA:wD:=[.int .u8,.str,.int .i64,.int .i64]
abbrev cT6:wD:=[.bool,.int .u8,.str,.int .i64,.int .i64,.int .i64]
abbrev Kn:AV:= .agg [.Z .u8 bd,.K bf,.Z .i64 bh,.Z .i64 bi]
abbrev RW:AV:= .agg [.Z .u8 aN,.Z .i64 aO,.Z .i64 aT,.Z .i64 aU]
abbrev UP:AV:= .agg [.Z .i64 aN,.Z .i64 aO]
abbrev Ap:AV:= .agg [.Z .i64 bp,.Z .i64 bG]
abbrev Fu:AV:= .agg [.Z .u8 aN,.K aO,.Z .i64 aT,.Z .i64 aU]
abbrev DM:AV:= .agg [.Z .i64 bp,.Z .i64 bG,.Z .i64 bN,.Z .i64 bV]
abbrev Du:AV:= .agg [.Z .u8 aN,.Z .i64 aO,.Z .i64 aT,.Z .i64 aU,.Z .i64 aS,.Z .i64 bd]
abbrev lC:Blk:= .cells 97 0 [.Z .u8 aN,.Z .i64 aO,.Z .i64 aT,.Z .i64 aU,.map 1]
abbrev yH:Blk:= .cells 97 0 [.Z .u8 aU,.Z .i64 aS,.Z .i64 bd,.Z .i64 bf,.map 2]
abbrev mz:Blk:= .marr false ou wd aS
abbrev yP:Blk:= .marr false ou wd bh
noncomputable def EJ(f:FuncId)(r:Nat)(a:Fr)(h:Heap):Option LSpec:=bif Nat.beq f 125&&Nat.beq r 1 then some (ep ⟨452,2000,[11,12,13,14,15,16,17,18,19,20,21,22,23,24,25,26,27,28,29,30,31,32,33,34,35,36,37],[],[10],[0],[0,1,2,3],[(.exit 0,[])],[],[],false,[]⟩ a h)else bif Nat.beq f 109&&Nat.beq r 2 then some (ep ⟨458,2000,[18,19,20,21,22,23,24,25,26,27,28,29,30,31,32,33,34,35,36,37,38,39,40,41,42,43,44,45,46,47,48,49],[],[10,11],[0],[0,2,4],[(.exit 0,[])],[],[],false,[]⟩ a h)else bif Nat.beq f 85&&Nat.beq r 1 then some (ep ⟨460,2000,[9,12,13,14,15,16,17,18,19,20,21,22,23,24,25,26,27,28,29,30,31,32,33,34,35,36,37,38,39,40,41,42,43,44,45,46,47,48,49,50,51,52],[],[8],[0],[0,1,2,3],[(.exit 0,[])],[],[],false,[]⟩ a h)else bif Nat.beq f 85&&Nat.beq r 4 then some (ep ⟨461,3000,[18,19,20,21,22,23,24,25,26,27,28,29,30,31,32,33,34,35,36,37,38,39,40,41,42,43,44,45,46,47,48,49,50,51,52],[],[9],[0],[0,1,2,3,8],[(.exit 2,[])],[],[],false,[]⟩ a h)else bif Nat.beq f 86&&Nat.beq r 3 then some (ep ⟨462,2000,[12,31,32,33,34,35,36,37,38,39,40,41,42,43,44,45,46,47,48,49,50,51,52,53],[],[10,11],[],[0,1,4],[(.exit 0,[])],[],[],false,[]⟩ a h)else bif Nat.beq f 86&&Nat.beq r 9 then some (ep ⟨463,3000,[55,56,57,58,59,60,61,62,63,64,65,66,67,68,69,70,71,72,73,74,75,76],[],[13],[0],[0,10],[(.exit 2,[])],[],[],false,[]⟩ a h)else bif Nat.beq f 86&&Nat.beq r 15 then some (ep ⟨464,2000,[16,83,84,85,86,87,88,89,90,91,92,93,94,95,96,97,98,99,100,101,102,103,104,105,106],[],[14,15],[],[0,2,4],[(.exit 4,[])],[],[],false,[]⟩ a h)else bif Nat.beq f 86&&Nat.beq r 21 then some (ep ⟨465,3000,[108,109,110,111,112,113,114,115,116,117,118,119,120,121,122,123,124,125,126,127,128],[],[17],[0],[0,14],[(.exit 6,[])],[],[],false,[]⟩ a h)else bif Nat.beq f 86&&Nat.beq r 33 then some (ep ⟨466,2000,[23,149,150,151,152,153,154,155,156,157,158,159,160,161,162,163,164,165,166,167,168,169,170,171,172,173,174],[],[20,21],[],[0,1,2,3,4,18,19,22],[(.exit 8,[])],[],[],false,[]⟩ a h)else bif Nat.beq f 72&&Nat.beq r 2 then some (ep ⟨467,2000,[11,12,13,14,15,16,17,18,19,20,21,22],[],[7,8],[0],[0,1,2,6],[(.exit 0,[])],[],[],false,[]⟩ a h)else bif Nat.beq f 72&&Nat.beq r 7 then some (ep ⟨468,3000,[7,8,9,28,29,30,31,32,33,34,35,36,37,38,39,40,41,42,43,44,45,46,47,48,49,50,51,52,53,54,55,56,57,58,59,60,61,62],[],[6],[0],[0,1,2],[(.exit 2,[])],[],[],false,[]⟩ a h)else bif Nat.beq f 72&&Nat.beq r 9 then some (ep ⟨469,4000,[33,34,35,36,37,38,39,40,41,42,43,44,45,46,47,48],[],[7,8],[0],[0,1,2,6],[(.exit 4,[])],[],[],false,[]⟩ a h)else bif Nat.beq f 38&&Nat.beq r 4 then some (ep ⟨107,2000,[5,14,15,16,17,18,19,20,21,22,23,24,25],[],[4,13],[],[0,1,12],[(.exit 0,[]),(.ret,[])],[],[],false,[]⟩ a h)else bif Nat.beq f 59&&Nat.beq r 5 then some (ep ⟨750,2000,[4,5,13,14,15,16,17,18,19,20,21,22,23],[(3,none,89,dt)],[3],[],[12],[(.exit 0,[])],[],[],true,[]⟩ a h)else bif Nat.beq f 117&&Nat.beq r 4 then some (ep ⟨751,2000,[8,13,14,15,16,17,18,19],[],[12],[4,5],[4,5,6,10,11],[(.exit 0,[])],[],[],false,[]⟩ a h)else bif Nat.beq f 94&&Nat.beq r 4 then some (ep ⟨752,2000,[8,14,15,16,17,18,19,20,21,22,23,24,25,26,27,28,29,30,31,32,33,34,35,36,37,38,39,40,41,42,43,44,45],[(4,none,2,[.int .i64]),(5,none,2,[.int .i64])],[4,5,13],[6],[2,6,11,12],[(.exit 0,[])],[],[],false,[]⟩ a h)else bif Nat.beq f 75&&Nat.beq r 8 then some (ep ⟨753,2000,[43,44,45,46,47,48,49,50,51,52,53,54,55,56,57,58],[(7,none,138,kJ)],[7,8],[],[2,5],[(.exit 1,[])],[],[],false,[]⟩ a h)else bif Nat.beq f 133&&Nat.beq r 2 then some (ep ⟨754,2000,[5,6,7,8,12,13,14,15,16,17,18,19,20,21,22,23,24,25,26,27,28,29,30,31,32,33,34,35,36,37,38,39,40,41,42,43,44,45,46,47,48,49,50,51,52],[],[4,11],[],[0,1,9,10],[(.exit 0,[]),(.ret,[])],[],[],false,[]⟩ a h)else bif Nat.beq f 115&&Nat.beq r 6 then some (ep ⟨755,2000,[12,36,37,38,39,40,41,42,43,44,45,46,47,48,49,50,51,52,53,54,55,56,57,58,59,60,61,62],[(6,none,174,kJ),(8,none,174,kJ)],[6,8,35],[7],[7,10,33,34],[(.exit 0,[])],[],[],false,[]⟩ a h)else bif Nat.beq f 135&&Nat.beq r 3 then some (ep ⟨756,2000,[11,15,16,17,18,19,20,21,22,23,24,25,26,27,28,29,30,31,32,33,34],[],[9,10],[],[0,2,4,8],[(.exit 0,[])],[],[],false,[]⟩ a h)else bif Nat.beq f 116&&Nat.beq r 2 then some (ep ⟨757,2000,[5,11,12,13,14,15,16,17,18,19,20,21,22,23,24,25,26],[(4,none,174,kJ)],[4],[],[1,10],[(.exit 0,[])],[],[],true,[]⟩ a h)else bif Nat.beq f 93&&Nat.beq r 3 then some (ep ⟨758,2000,[11,32,33,34,35,36,37,38,39,40,41,42,43,44,45],[(4,none,65,ou)],[4,31],[],[3,5,7,29,30],[(.exit 0,[])],[],[],false,[]⟩ a h)else bif Nat.beq f 74&&Nat.beq r 4 then some (ep ⟨759,2000,[11,26,27,28,29,30,31,32,33,34,35,36,37,38,39,40,41,42,43,44,45],[(4,none,65,ou),(9,none,67,wd)],[4,9,25],[],[0,8,23,24],[(.exit 0,[])],[],[],false,[]⟩ a h)else bif Nat.beq f 57&&Nat.beq r 11 then some (ep ⟨760,2000,[8,9,44,45,46,47,48,49,50,51,52,53,54,55,56,57,58,59,60,61,62,63,64,65,66,67,68,69,70,71,72,73,74,75],[(5,none,89,dt)],[5,6,43],[],[0,3,41,42],[(.exit 1,[])],[],[],false,[]⟩ a h)else bif Nat.beq f 36&&Nat.beq r 5 then some (ep ⟨761,2000,[9,25,26,27,28,29,30,31,32,33],[],[24],[1000],[0,6,22,23],[(.exit 0,[])],[],[],false,[]⟩ a h)else bif Nat.beq f 36&&Nat.beq r 10 then some (ep ⟨762,2000,[11,37,38,39,40,41,42,43,44,45,46,47,48],[],[36],[1000],[0,34,35],[(.exit 2,[])],[],[],false,[]⟩ a h)else bif Nat.beq f 77&&Nat.beq r 2 then some (ep ⟨763,2000,[5,9,10,11,12,13,14,15,16,17,18],[],[4,8],[],[0,1,7],[(.exit 0,[]),(.ret,[])],[],[],false,[]⟩ a h)else bif Nat.beq f 58&&Nat.beq r 5 then some (ep ⟨764,2000,[7,16,17,18,19,20,21,22,23,24,25,26,27,28,29,30,31,32,33,34,35],[],[5,6],[0],[0,1],[(.exit 0,[])],[],[],false,[]⟩ a h)else bif Nat.beq f 17&&Nat.beq r 6 then some (ep ⟨872,2000,[10,11,12,24,25,26,27,28,29,30,31,32,33,34,35,36,37,38,39,40,41,42,43],[],[5,8,23],[1006],[6,21,22],[(.exit 0,[]),(.ret,[(4,.N)])],[(30006,ou,wd)],[],false,[]⟩ a h)else bif Nat.beq f 33&&Nat.beq r 3 then some (ep ⟨140,2000,[6,7,8,13,14,15,16,17,18,19,20,21,22,23,24,25,26,27,28,29,30,31,32,33,34,35,36,37,38,39,40],[],[12],[4],[4,10,11],[(.exit 0,[]),(.ret,[])],[(4,ou,wd)],[],false,[]⟩ a h)else bif Nat.beq f 67&&Nat.beq r 2 then some (ep ⟨221,2000,[5,9,10,11,12,13,14,15,16,17,18],[],[4,8],[1001],[0,1,7],[(.exit 0,[]),(.ret,[])],[(1001,ou,[.int .i64])],[],false,[]⟩ a h)else bif Nat.beq f 14&&Nat.beq r 13 then some (ep ⟨224,2000,[11,12,41,42,43,44,45,46,47,48,49,50,51],[(10,none,89,dt)],[10],[],[40],[(.exit 2,[])],[],[],true,[]⟩ a h)else bif Nat.beq f 14&&Nat.beq r 5 then some (ep ⟨223,2000,[9,25,26,27,28,29,30,31,32,33,34,35,36,37,38],[],[24],[6],[6,22,23],[(.exit 0,[])],[(20006,[],[])],[],false,[]⟩ a h)else bif Nat.beq f 28&&Nat.beq r 7 then some (ep ⟨141,2000,[12,13,14,38,39,40,41,42,43,44,45,46,47,48,49,50,51,52,53,54,55,56],[(10,none,70,rX)],[10,37],[],[1,6,8,35,36],[(.exit 0,[])],[],[],false,[]⟩ a h)else bif Nat.beq f 28&&Nat.beq r 14 then some (ep ⟨142,2000,[16,17,18,60,61,62,63,64,65,66,67,68,69,70,71,72,73,74,75,76,77,78,79,80,81,82,83,84,85,86],[(10,none,70,rX)],[10,59],[],[6,57,58],[(.exit 2,[])],[],[],false,[]⟩ a h)else bif Nat.beq f 4&&Nat.beq r 2 then some (ep ⟨960,2000,[6,7,8,9,10,11,12,13,14,15,16,17,18,19,20,21,22,23,24,25,26,27,28,29,30,31,32,33,34,35,36,37,38,39],[],[4,5],[],[0,1],[(.exit 0,[]),(.ret,[])],[],[],false,[]⟩ a h)else bif Nat.beq f 31&&Nat.beq r 4 then some (ep ⟨131,2000,[5,14,15,16,17,18,19,20,21,22,23,24,25],[],[4,13],[],[0,1,12],[(.exit 0,[]),(.ret,[])],[],[],false,[]⟩ a h)else bif Nat.beq f 3&&Nat.beq r 9 then some (ep ⟨985,1500,[12,13,14,15,16,17,18,19,20,21,22,23,24,43,44,45,46,47,48,49,50,51,52,53,54,55,56,57,58,59,60,61,62,63,64,65,66,67,68,69,70,71,72,73,74,75,76,77,78,79,80,81,82,83,84,85,86,87,88,89,90,91,92,93,94,95,96,97,98,99,100,101,102,103,104,105,106,107,108,109,110,111,112,113,114,115,116,117,118,119,120,121,122,123,124,125,126,127,128,129,130,131,132,133,134,135,136,137,138,139,140,141,142,143,144,145,146,147,148,149,150,151,152,153,154,155,156,157,158,159,160,161,162,163,164,165,166,167,168,169,170,171,172,173,174,175,176,177,178,179,180,181,182,183,184,185,186,187,188,189],[(10,none,89,dt),(5,some (2),0,[]),(5,some (2004),0,[]),(5,some (4),89,dt),(5,some (5),36,BA),(5,some (6),3,[.int .i64])],[4,7,8,9,10,11],[10005,10405,10505,10605],[1,2,5],[(.exit 0,[]),(.ret,[])],[(40005,ou,wd)],[],false,[]⟩ a h)else none
noncomputable def cA:Env:={nU with lspec:=EJ}
noncomputable def lH:Env:={nU with caps:=λg=>Nat.beq g 137}
def eM:HC:=⟨6,0,⟨[],[],0,.cb true,.H bp,[],[.cb true]⟩⟩
def L0:Fj:=[eM]
def L1:Fj:=[]
def gP:HC:=⟨21,4,⟨[RW],[],0,.cb true,.H bp,[],[.Q 700 [aN,aO,aT,aU]]⟩⟩
def cH:HC:=⟨35,4,⟨[Fu],[],0,.cb true,.Z .i64 bp,[],[.Q 701 [aN,aO,aT,aU]]⟩⟩
def ia:zw:=[Fu]
def gZ:zw:=[.agg [.int .u8 1,.K aO,.Z .i64 aT,.Z .i64 aU]]
def ik:zw:=[.agg [.int .u8 2,.K aO,.Z .i64 aT,.Z .i64 aU]]
def gM:HC:=⟨117,1,⟨[.osl 0 aM (.O .Y [aN]) 1],[.A 4294967295 [.int .i64] aN],1,.O (.cmp .leq) [.O .Y [aN],bU],.V [.Z .i64 bp,.Z .i64 bG],[],[.Q 702 [aN],.Q 703 [aN]]⟩⟩
def jk:HC:=⟨18,2,⟨[.osl 0 aM (.O .Y [aN]) 7,.osl 1 aM (.O .Y [aO]) 7],[.A 4294967295 dt aN,.A 4294967295 dt aO],2,.O (.cmp .leq) [.O .Y [aN],bU],.H bp,[],[.Q 3 [aN,aO]]⟩⟩
def mf:HC:=⟨96,2,⟨[.Z .i64 aN,.Z .i64 aO],[],0,.O .and [.O .and [.O (.cmp .leq) [aZ,aO],.O (.cmp .leq) [aO,bW]],.O .and [.O (.cmp .leq) [.C (-1099511627776),aN],.O (.cmp .leq) [aN,bY]]],.V [.Z .i64 bp,.Z .i64 bG],[],[.Q 709 [aN,aO],aM]⟩⟩
def ie:HC:=⟨133,2,⟨[.Z .i64 aN,.osl 0 aM (.O .Y [aO]) 2],[.A 4294967295 kJ aO],1,.O (.cmp .leq) [.O .Y [aO],bI],.H bp,[],[.Q 711 [aN,aO]]⟩⟩
def jd:HC:=⟨139,4,⟨[UP,.agg [.Z .i64 aT,.Z .i64 aU]],[],0,.cb true,.Z .i64 bp,[],[.Q 712 [aN,aO,aT,aU]]⟩⟩
def qE:HC:=⟨137,5,⟨[.U 1 aO 2,.Z .i64 aT,.sl 0 0 1 1],[.cells 174 0 [.Z .i64 aU,.Z .i64 aS],.A 174 kJ aN],1,.Q 713 [aN,aO,aT,aU,aS],.U 2 (.O .Y [bp]) 2,[none,some (.A 174 kJ bp)],[.Q 714 [aN,aO,aT,aU,aS]]⟩⟩
def mN:HC:=⟨138,2,⟨[.U 0 aN 2,.func (.func 139) [] []],[.A 174 kJ aO],0,.O .and [.O (.cmp .eql) [aN,.O .Y [aO]],.O (.cmp .leq) [.O .Y [aO],bU]],.V [],[some (.A 174 kJ bp)],[.Q 715 [aO]]⟩⟩
def fq:HC:=⟨138,2,⟨[.U 0 aN 2,.func (.func 139) [] []],[.bag 174 kJ aO],0,.O .and [.O (.cmp .eql) [aN,.O .Y [aO]],.O .and [.O (.cmp .leq) [.O .Y [aO],bU],.Q 716 [aO]]],.V [],[some (.A 174 kJ bp)],[.Q 715 [aO]]⟩⟩
def hI:HC:=⟨53,1,⟨[.osl 0 aM (.O .Y [aN]) 7],[.A 4294967295 dt aN],1,.O .and [.O (.cmp .leq) [.O .Y [aN],bI],.Q 431 [aN]],.U 1 (.O .Y [bp]) 7,[some (.A 89 dt bp)],[aN]⟩⟩
def je:HC:=⟨125,5,⟨[.U 0 aO 7,.Z .i64 aT,.Z .i64 aU,.Z .i64 aS,.func (.func 55) [.agg [.func (.func 51) [] []]] []],[.A 89 dt aN],0,.Q 420 [aN,aO,aT,aU,aS],.V [],[some (.A 89 dt bp)],[.Q 421 [aN,aT,aU,aS]]⟩⟩
def lX:HC:=⟨55,14,⟨[.agg [.func (.func 51) [] []],.agg [.K aN,.Z .i64 aO,.Z .i64 aT,.Z .i64 aU,.Z .i64 aS,.Z .i64 bd,.Z .i64 bf],.agg [.K bh,.Z .i64 bi,.Z .i64 bE,.Z .i64 bF,.Z .i64 bM,.Z .i64 (.V 12),.Z .i64 (.V 13)]],[],0,.cb true,.Z .i64 bp,[],[.Q 206 [aN,aO,aT,bh,bi,bE]]⟩⟩
def L2:Fj:=[gP,cH,gM,jk,mf,ie,jd,qE,mN,fq,hI,je,lX]
def mh:HC:=⟨109,5,⟨[.U 0 aO 7,.Z .i64 aT,.Z .i64 aU,.Z .i64 aS,.func (.func 55) [.agg [.func (.func 51) [] []]] []],[.A 89 dt aN],0,.Q 422 [aN,aO,aT,aU,aS],.V [],[some (.A 89 dt bp)],[.Q 423 [aN,aT,aU,aS]]⟩⟩
def oY:HC:=⟨75,5,⟨[RW,.Z .i64 aS],[],0,.cb true,.U 0 (.O .Y [bp]) 2,[some (.A 138 kJ bp)],[.Q 704 [aN,aO,aT,aU,aS]]⟩⟩
def lJ:HC:=⟨94,1,⟨[.osl 0 aM (.O .Y [aN]) 4],[.A 4294967295 wd aN],1,.O (.cmp .leq) [.O .Y [aN],.C 1000],.V [DM,.Z .i64 (.V 1004)],[],[.O .G [.Q 705 [aN],aM,aM],.O .G [.Q 705 [aN],aM,aZ],.O .G [.Q 705 [aN],aM,bC],.O .G [.Q 705 [aN],aM,.C 3],.Q 706 [aN]]⟩⟩
def fG:HC:=⟨115,3,⟨[.Z .i64 aN,.Z .i64 aO,.osl 0 aM (.O .Y [aT]) 2],[.A 4294967295 kJ aT],1,.O (.cmp .leq) [.O .Y [aT],.C 24],.V [.U 1 (.O .Y [bV]) 2,Ap,.U 2 (.O .Y [.V 1004]) 2,.Z .i64 bN],[some (.A 174 kJ bV),some (.A 174 kJ (.V 1004))],[.O .G [.Q 718 [aN,aO,aT],aM,aM],.O .G [.Q 718 [aN,aO,aT],aM,aZ],.Q 720 [aN,aO,aT],.Q 717 [aN,aO,aT],.Q 719 [aN,aO,aT]]⟩⟩
def L3:Fj:=[mh,oY,lJ,fG]
def lD:HC:=⟨85,4,⟨[.U 0 aO 7,.Z .i64 aT,.Z .i64 aU,.func (.func 55) [.agg [.func (.func 51) [] []]] []],[.A 89 dt aN],0,.Q 424 [aN,aO,aT,aU],.V [],[some (.A 89 dt bp)],[.Q 425 [aN,aT,aU]]⟩⟩
def qM:HC:=⟨86,5,⟨[.U 0 aO 7,.Z .i64 aT,.Z .i64 aU,.Z .i64 aS,.func (.func 55) [.agg [.func (.func 51) [] []]] []],[.A 89 dt aN],0,.Q 426 [aN,aO,aT,aU,aS,aZ],.V [],[some (.A 89 dt bp)],[.Q 425 [aN,aT,aS]]⟩⟩
def mA:HC:=⟨76,5,⟨[.agg [.Z .i64 aN,.Z .i64 aO,.Z .i64 aT,.Z .i64 aU],.Z .i64 aS],[],0,.cb true,.V [DM,.Z .i64 (.V 1004)],[],[.O .G [.Q 707 [aN,aO,aT,aU,aS],aM,aM],.O .G [.Q 707 [aN,aO,aT,aU,aS],aM,aZ],.O .G [.Q 707 [aN,aO,aT,aU,aS],aM,bC],.O .G [.Q 707 [aN,aO,aT,aU,aS],aM,.C 3],.Q 708 [aN,aO,aT,aU,aS]]⟩⟩
def L4:Fj:=[lD,qM,mA]
def li:HC:=⟨86,5,⟨[.U 0 aO 7,.Z .i64 aT,.Z .i64 aU,.Z .i64 aS,.func (.func 55) [.agg [.func (.func 51) [] []]] []],[.A 89 dt aN],0,.Q 426 [aN,aO,aT,aU,aS,bC],.V [],[some (.A 89 dt bp)],[.Q 425 [aN,aT,aS]]⟩⟩
def L5:Fj:=[li]
def lS:HC:=⟨86,5,⟨[.U 0 aO 7,.Z .i64 aT,.Z .i64 aU,.Z .i64 aS,.func (.func 55) [.agg [.func (.func 51) [] []]] []],[.A 89 dt aN],0,.Q 426 [aN,aO,aT,aU,aS,.C 4],.V [],[some (.A 89 dt bp)],[.Q 425 [aN,aT,aS]]⟩⟩
def L6:Fj:=[lS]
def mj:HC:=⟨86,5,⟨[.U 0 aO 7,.Z .i64 aT,.Z .i64 aU,.Z .i64 aS,.func (.func 55) [.agg [.func (.func 51) [] []]] []],[.A 89 dt aN],0,.Q 426 [aN,aO,aT,aU,aS,.C 8],.V [],[some (.A 89 dt bp)],[.Q 425 [aN,aT,aS]]⟩⟩
def L7:Fj:=[mj]
def lL:HC:=⟨86,5,⟨[.U 0 aO 7,.Z .i64 aT,.Z .i64 aU,.Z .i64 aS,.func (.func 55) [.agg [.func (.func 51) [] []]] []],[.A 89 dt aN],0,.Q 426 [aN,aO,aT,aU,aS,.C 16],.V [],[some (.A 89 dt bp)],[.Q 425 [aN,aT,aS]]⟩⟩
def L8:Fj:=[lL]
def mr:HC:=⟨86,5,⟨[.U 0 aO 7,.Z .i64 aT,.Z .i64 aU,.Z .i64 aS,.func (.func 55) [.agg [.func (.func 51) [] []]] []],[.A 89 dt aN],0,.Q 426 [aN,aO,aT,aU,aS,.C 32],.V [],[some (.A 89 dt bp)],[.Q 425 [aN,aT,aS]]⟩⟩
def L9:Fj:=[mr]
def lQ:HC:=⟨86,5,⟨[.U 0 aO 7,.Z .i64 aT,.Z .i64 aU,.Z .i64 aS,.func (.func 55) [.agg [.func (.func 51) [] []]] []],[.A 89 dt aN],0,.Q 426 [aN,aO,aT,aU,aS,.C 64],.V [],[some (.A 89 dt bp)],[.Q 425 [aN,aT,aS]]⟩⟩
def Ym:Fj:=[lQ]
def kW:HC:=⟨86,5,⟨[.U 0 aO 7,.Z .i64 aT,.Z .i64 aU,.Z .i64 aS,.func (.func 55) [.agg [.func (.func 51) [] []]] []],[.A 89 dt aN],0,.Q 426 [aN,aO,aT,aU,aS,.C 128],.V [],[some (.A 89 dt bp)],[.Q 425 [aN,aT,aS]]⟩⟩
def L11:Fj:=[kW]
def lq:HC:=⟨86,5,⟨[.U 0 aO 7,.Z .i64 aT,.Z .i64 aU,.Z .i64 aS,.func (.func 55) [.agg [.func (.func 51) [] []]] []],[.A 89 dt aN],0,.Q 426 [aN,aO,aT,aU,aS,.C 256],.V [],[some (.A 89 dt bp)],[.Q 425 [aN,aT,aS]]⟩⟩
def L12:Fj:=[lq]
def mq:HC:=⟨86,5,⟨[.U 0 aO 7,.Z .i64 aT,.Z .i64 aU,.Z .i64 aS,.func (.func 55) [.agg [.func (.func 51) [] []]] []],[.A 89 dt aN],0,.Q 426 [aN,aO,aT,aU,aS,.C 512],.V [],[some (.A 89 dt bp)],[.Q 425 [aN,aT,aS]]⟩⟩
def Yl:Fj:=[mq]
def kY:HC:=⟨72,3,⟨[.U 0 aO 7,.Z .i64 aT,.func (.func 55) [.agg [.func (.func 51) [] []]] []],[.A 89 dt aN],0,.Q 428 [aN,aO,aT],.V [],[some (.A 89 dt bp)],[.Q 425 [aN,aM,aT]]⟩⟩
def L14:Fj:=[kY]
def jq:HC:=⟨54,1,⟨[.U 0 (.O .Y [aN]) 7,.func (.func 55) [.agg [.func (.func 51) [] []]] []],[.A 89 dt aN],0,.O .and [.O (.cmp .leq) [.O .Y [aN],bI],.Q 431 [aN]],.V [],[some (.A 89 dt bp)],[.Q 425 [aN,aM,.O .Y [aN]]]⟩⟩
def L15:Fj:=[jq]
def eL:HC:=⟨34,1,⟨[.bool false,.osl 0 aM (.O .Y [aN]) 7],[.A 4294967295 dt aN],1,.O .and [.O (.cmp .leq) [.O .Y [aN],bI],.Q 431 [aN]],.U 1 (.O .Y [bp]) 7,[some (.A 89 dt bp)],[.Q 490 [aN]]⟩⟩
def eT:HC:=⟨34,2,⟨[.bool false,.U 0 aN 7],[.bag 89 dt aO],1,.O .and [.O (.cmp .eql) [aN,.O .Y [aO]],.O .and [.O .and [.O (.cmp .leq) [.O .Y [aO],bI],.Q 431 [aO]],.Q 491 [aO]]],.U 1 (.O .Y [bp]) 7,[some (.A 89 dt bp)],[.Q 490 [aO]]⟩⟩
def Wr:Fj:=[eL,eT]
def jp:HC:=⟨59,5,⟨[.ptr 0 0],[lC,mz],2,.O .and [.O .and [.O (.cmp .leq) [.O .Y [aS],bI],.Q 431 [aS]],.Q 491 [aS]],.U 2 (.O .Y [bp]) 7,[some (.A 89 dt bp)],[.Q 490 [aS]]⟩⟩
def jh:HC:=⟨116,6,⟨[.ptr 0 0,.K bd],[lC,mz],2,.O .and [.O (.cmp .leq) [.O .Y [aS],bI],.Q 491 [aS]],.U 2 (.O .Y [bp]) 2,[some (.A 174 kJ bp)],[.Q 723 [aS,bd]]⟩⟩
def YG:Fj:=[jp,jh]
def gV:HC:=⟨93,9,⟨[.ptr 0 0,Kn],[lC,mz],2,.O .and [.O (.cmp .leq) [.O .Y [aS],.C 24],.Q 491 [aS]],.V [.U 2 (.O .Y [bV]) 3,.agg [.K bp,.Z .i64 bG,.Z .i64 bN]],[some (.A 65 ou bV)],[.O .G [.Q 725 [aU,aS,bf,bh],aM,aM],.O .G [.Q 725 [aU,aS,bf,bh],aM,aZ],.O .G [.Q 725 [aU,aS,bf,bh],aM,bC],.Q 724 [aU,aS,bf,bh]]⟩⟩
def jb:HC:=⟨37,6,⟨[.ptr 0 0,.Z .i64 bd],[lC,mz],2,.O .and [.O .and [.O (.cmp .leq) [.O .Y [aS],bI],.Q 431 [aS]],.Q 491 [aS]],.U 2 (.O .Y [bp]) 7,[some (.A 89 dt bp)],[.Q 726 [aS,bd]]⟩⟩
def L18:Fj:=[gV,jb]
def lj:HC:=⟨74,9,⟨[.ptr 0 0,Kn],[lC,mz],2,.O .and [.O (.cmp .leq) [.O .Y [aS],.C 24],.Q 491 [aS]],.V [.U 2 (.O .Y [bG]) 3,.U 3 (.O .Y [bN]) 7,.Z .i64 bp],[some (.A 65 ou bG),some (.A 89 dt bN)],[.Q 729 [aU,aS,bf,bh,bi],.Q 727 [aU,aS,bf,bh,bi],.Q 728 [aU,aS,bf,bh,bi]]⟩⟩
def Zt:Fj:=[lj]
def rB:HC:=⟨57,9,⟨[.ptr 0 0,Kn],[lC,mz],2,.O .and [.O .and [.O .and [.O (.cmp .leq) [.O .Y [aS],bI],.Q 431 [aS]],.Q 491 [aS]],.Q 739 [aN,aS,bf]],.V [.U 2 (.O .Y [bG]) 3,.U 3 (.O .Y [bN]) 7,.Z .i64 bp],[some (.A 65 ou bG),some (.A 89 dt bN)],[.Q 732 [aN,aO,aT,aU,aS,bd,bf,bh,bi],.Q 730 [aN,aO,aT,aU,aS,bd,bf,bh,bi],.Q 731 [aN,aO,aT,aU,aS,bd,bf,bh,bi]]⟩⟩
def ZX:Fj:=[rB]
def pt:HC:=⟨36,9,⟨[.ptr 0 0,Kn],[lC,mz],1,.O .and [.O .and [.O .and [.O (.cmp .leq) [.O .Y [aS],bI],.Q 431 [aS]],.Q 491 [aS]],.Q 739 [aN,aS,bf]],.Z .i64 bp,[some (.marr false ou wd bG)],[.Q 732 [aN,aO,aT,aU,aS,bd,bf,bh,bi],.Q 733 [aN,aO,aT,aU,aS,bd,bf,bh,bi]]⟩⟩
def L21:Fj:=[pt]
def L22:Fj:=[]
def L23:Fj:=[]
def lF:HC:=⟨17,5,⟨[RW,.osl 0 aM (.O .Y [aS]) 4],[.A 4294967295 BA aS],1,.O .and [.O (.cmp .leq) [.O .Y [aS],.C 100],.Q 838 [aN,aO,aT,aU,aS]],.V [.U 1 (.O .Y [bG]) 7,.Z .i64 bp],[some (.A 89 dt bG)],[.Q 837 [aN,aO,aT,aU,aS],.Q 836 [aN,aO,aT,aU,aS]]⟩⟩
def L24:Fj:=[lF]
def me:HC:=⟨63,16,⟨[.agg [.K aN,.Z .i64 aO,.Z .i64 aT,.H aU,.Z .i64 aS,.Z .i64 bd,.Z .i64 bf,.Z .i64 bh],.agg [.K bi,.Z .i64 bE,.Z .i64 bF,.H bM,.Z .i64 (.V 12),.Z .i64 (.V 13),.Z .i64 (.V 14),.Z .i64 (.V 15)]],[],0,.cb true,.Z .i64 bp,[],[.Q 206 [aN,aO,aT,bi,bE,bF]]⟩⟩
def gF:HC:=⟨12,2,⟨[.osl 0 aM (.O .Y [aN]) 8,.osl 1 aM (.O .Y [aO]) 8],[.A 4294967295 rX aN,.A 4294967295 rX aO],2,.O (.cmp .leq) [.O .Y [aN],bU],.H bp,[],[.Q 201 [aN,aO]]⟩⟩
def gA:HC:=⟨32,2,⟨[.osl 0 aM (.O .Y [aN]) 7,.osl 1 aM (.O .Y [aO]) 8],[.A 4294967295 dt aN,.A 4294967295 rX aO],2,.O .and [.O (.cmp .leq) [.O .Y [aN],bI],.O (.cmp .leq) [.O .Y [aO],.C 800]],.H bp,[],[.Q 220 [aN,aO]]⟩⟩
def L25:Fj:=[me,gF,gA]
def qd:HC:=⟨62,2,⟨[.U 0 aN 8,.func (.func 63) [] []],[.A 70 rX aO],0,.O .and [.O (.cmp .eql) [aN,.O .Y [aO]],.O (.cmp .leq) [.O .Y [aO],bU]],.V [],[some (.A 70 rX bp)],[.Q 211 [aO]]⟩⟩
def gK:HC:=⟨14,2,⟨[.osl 0 aM (.O .Y [aN]) 7,.osl 1 aM (.O .Y [aO]) 8],[.A 4294967295 dt aN,.A 4294967295 rX aO],2,.O .and [.O .and [.O (.cmp .leq) [.O .Y [aN],bI],.O (.cmp .leq) [.O .Y [aO],.C 800]],.O .and [.O .and [.Q 431 [aN],.Q 433 [aO]],.Q 233 [aN,aO]]],.V [.U 2 (.O .Y [bG]) 7,.Z .i64 bp],[some (.A 89 dt bG)],[.Q 232 [aN,aO],.Q 222 [aN,aO]]⟩⟩
def L26:Fj:=[qd,gK]
def iW:HC:=⟨28,2,⟨[.osl 0 aM (.O .Y [aN]) 7,.osl 1 aM (.O .Y [aO]) 7],[.A 4294967295 dt aN,.A 4294967295 dt aO],2,.O .and [.O (.cmp .leq) [.O .Y [aN],bI],.O (.cmp .leq) [.O .Y [aO],bI]],.V [.U 2 (.O .Y [bG]) 8,.Z .i64 bp],[some (.A 70 rX bG)],[.Q 209 [aN,aO],.Q 208 [aN,aO]]⟩⟩
def ZR:Fj:=[iW]
def lO:HC:=⟨82,3,⟨[UP,.Z .i64 aT],[],0,.cb true,.H bp,[],[.Q 945 [aN,aO,aT]]⟩⟩
def ib:HC:=⟨5,6,⟨[Du],[],0,.cb true,.H bp,[],[.Q 944 [aN,aO,aT,aU,aS,bd]]⟩⟩
def ll:HC:=⟨20,1,⟨[.Z .i64 aN],[],0,.cb true,.V [Ap,.Z .i64 bN],[],[.Q 941 [aN],.Q 942 [aN],.Q 943 [aN]]⟩⟩
def rD:HC:=⟨81,3,⟨[UP,.Z .i64 aT],[],0,.cb true,.V [Ap,.Z .i64 bN],[],[.Q 946 [aN,aO,aT],aO,.Q 947 [aN,aO,aT]]⟩⟩
def ja:HC:=⟨9,11,⟨[.ptr 0 0],[.cells 78 0 [.Z .i64 aN,.Z .i64 aO,.ptr 1 0,.Z .i64 aT,.osl 3 aM (.O .Y [bi]) 7,.osl 4 aM (.O .Y [bE]) 4,.osl 5 aM (.O .Y [bF]) 1],yH,yP,.A 4294967295 dt bi,.A 4294967295 BA bE,.A 4294967295 [.int .i64] bF],6,.O .and [.O (.cmp .leq) [.O .Y [bE],bU],.Q 948 [bE]],.U 6 (.O .Y [bp]) 4,[some (.A 36 BA bp)],[bE]⟩⟩
def pj:HC:=⟨4,2,⟨[.osl 0 aM (.O .Y [aN]) 6,.Z .i64 aO],[.A 4294967295 cT6 aN],1,.cb true,.H bp,[],[.Q 950 [aN,aO]]⟩⟩
def L28:Fj:=[lO,ib,ll,rD,ja,pj]
def qf:HC:=⟨15,12,⟨[.ptr 0 0,.Z .u64 bM],[.cells 78 0 [.Z .i64 aN,.Z .i64 aO,.ptr 1 0,.Z .i64 aT,.osl 3 aM (.O .Y [bi]) 7,.osl 4 aM (.O .Y [bE]) 4,.osl 5 aM (.O .Y [bF]) 1],yH,yP,.A 4294967295 dt bi,.A 4294967295 BA bE,.A 4294967295 [.int .i64] bF],6,.Q 937 [bF,bM],.V [.Z .i64 bp,.H bG],[],[.Q 938 [bF,bM],.Q 939 [bF,bM]]⟩⟩
def L29:Fj:=[qf]
def lT:HC:=⟨10,11,⟨[.ptr 0 0],[.cells 78 0 [.Z .i64 aN,.Z .i64 aO,.ptr 1 0,.Z .i64 aT,.osl 3 aM (.O .Y [bi]) 7,.osl 4 aM (.O .Y [bE]) 4,.osl 5 aM (.O .Y [bF]) 1],yH,yP,.A 4294967295 dt bi,.A 4294967295 BA bE,.A 4294967295 [.int .i64] bF],6,.Q 953 [aN,aO,aT,aU,aS,bd,bf,bh,bi,bE,bF],.U 6 (.O .Y [bp]) 8,[some (.A 70 rX bp)],[.Q 951 [aN,aO,aT,aU,aS,bd,bf,bh,bi,bE,bF]]⟩⟩
def ZM:Fj:=[lT]
def cW:HC:=⟨3,7,⟨[Du,.osl 0 aM (.O .Y [bf]) 6],[.A 4294967295 cT6 bf],1,.Q 979 [aN,aO,aT,aU,aS,bd,bf],.H bp,[],[.cb true]⟩⟩
def L31:Fj:=[cW]
theorem DA:(Tryz.prog.funcs.toList.all λfn=> !(fn.name== "runtime.NumGoroutine"))=true:=by kernel_rfl
theorem xR: ∃fn:Func,Tryz.prog.funcs[108]? =some fn/\fn.body=none/\Extern.findNext fn=none/\Extern.find fn=some (Ext.mapsClone).model:=
 ⟨_,Tryz.func108,by kernel_rfl,by kernel_rfl,by kernel_rfl⟩
theorem wG: ∃fn:Func,Tryz.prog.funcs[150]? =some fn/\fn.body=none/\Extern.findNext fn=none/\Extern.find fn=some (Ext.overlaps 173 4).model:=
 ⟨_,Tryz.func150,by kernel_rfl,by kernel_rfl,by kernel_rfl⟩
theorem jr(I:Opq)(ae: ∀t,I.fix t=fj Tryz.prog t):nU.Ok I:=by
 refine⟨ae,λf fn h=> ?_,λf e h=> ?_,λ_ _ _ _ h=>(by cases h),λ_ _ _ h=>(by cases h),λ_ _ _ h=>(by cases h),λ_ _ _ _ _ h=>(by cases h)⟩;have h1:=l5.1 DA fn (by obtain⟨h2,rfl⟩:=S0.1 h;exact Array.mem_toList_iff.2 (Array.getElem_mem h2));simpa using h1
 have h:(bif Nat.beq f 108 then some (.mapsClone)else bif Nat.beq f 150 then some (.overlaps 173 4)else none:Option Ext)=some e:=h;cases hf108:Nat.beq f 108 with
 |true=>
  rw[hf108]at h;obtain rfl:f=108:=by simpa using hf108
  cases h;exact xR
 |false=>
  rw[hf108]at h;simp only[cond_false]at h;cases hf150:Nat.beq f 150 with
  |true=>
   rw[hf150]at h;obtain rfl:f=150:=by simpa using hf150
   cases h;exact wG
  |false=>
   rw[hf150]at h;simp only[cond_false]at h;cases h
theorem yL(I:Opq)(ae: ∀t,I.fix t=fj Tryz.prog t):cA.Ok I:=
 let h:=jr I ae
 ⟨h.fix,h.name,h.ext,h.bin,h.un,h.conv,h.blt⟩
theorem uO(I:Opq)(ae: ∀t,I.fix t=fj Tryz.prog t):lH.Ok I:=
 let h:=jr I ae
 ⟨h.fix,h.name,h.ext,h.bin,h.un,h.conv,h.blt⟩
theorem gO:Tryz.prog.follows .mixedOrders=true:=by kernel_rfl
noncomputable def H0:Fj:=[]
noncomputable def H1:Fj:=L0++H0
noncomputable def H2:Fj:=L1++H1
noncomputable def H3:Fj:=L2++H2
noncomputable def H4:Fj:=L3++H3
noncomputable def H5:Fj:=L4++H4
noncomputable def H6:Fj:=L5++H5
noncomputable def H7:Fj:=L6++H6
noncomputable def H8:Fj:=L7++H7
noncomputable def H9:Fj:=L8++H8
noncomputable def H10:Fj:=L9++H9
noncomputable def XQ:Fj:=Ym++H10
noncomputable def H12:Fj:=L11++XQ
noncomputable def Yr:Fj:=L12++H12
noncomputable def H14:Fj:=Yl++Yr
noncomputable def Xn:Fj:=L14++H14
noncomputable def H16:Fj:=L15++Xn
noncomputable def H17:Fj:=Wr++H16
noncomputable def Yz:Fj:=YG++H17
noncomputable def WI:Fj:=L18++Yz
noncomputable def H20:Fj:=Zt++WI
noncomputable def H21:Fj:=ZX++H20
noncomputable def H22:Fj:=L21++H21
noncomputable def H23:Fj:=L22++H22
noncomputable def H24:Fj:=L23++H23
noncomputable def Yc:Fj:=L24++H24
noncomputable def H26:Fj:=L25++Yc
noncomputable def H27:Fj:=L26++H26
noncomputable def Yo:Fj:=ZR++H27
noncomputable def H29:Fj:=L28++Yo
noncomputable def H30:Fj:=L29++H29
noncomputable def H31:Fj:=ZM++H30
def jt:VT:= .both (.W 0 [.cb true]) (.W 0 [.cb true])
theorem tV:FC.run nU 1000000 eM.f eM.c eM.c.args=jt:=by kernel_rfl
theorem kT:FC.run (cA.hooks H2) 1000000 cH.f cH.c ia=S9.T_evRight0:=by kernel_rfl
theorem aan:FC.run (cA.hooks H2) 1000000 cH.f cH.c gZ=S9.T_evRight1:=by kernel_rfl
theorem aap:FC.run (cA.hooks H2) 1000000 cH.f cH.c ik=S9.T_evRight2:=by kernel_rfl
def Om(I:Opq):Prop:=QH F Tryz.prog I
theorem cV(I:Opq)(v0:Nat)(l:U7)(h:Om I):Om (I.U v0 l):=h
theorem cn{I:Opq}(h:Om I): ∀i a,I.f i a=F i a:=λi a=>by rw[h.1]
theorem wV(I:Opq)(h:Om I):cA.Ok I:=yL I h.2
theorem DU(I:Opq)(h:Om I):nU.Ok I:=jr I h.2
theorem Gw(I:Opq)(h:Om I):lH.Ok I:=uO I h.2
theorem kd{O:cj}{I:Opq}{us:List Zl}{k:IntKind}{n:Nat}{i:Int}{r:zw}(h:(I.w n).I=i)(hv:co O I [.agg (.Z k (.V n)::r)] us):co O I [.agg (.int k i::r)] us:=by obtain⟨v,vr,e,⟨xs,e2,u,ur,e3,p1,p2⟩,q⟩:=hv;refine⟨v,vr,e,⟨xs,e2,u,ur,e3,?_,p2⟩,q⟩;show u= .int k i;rw[<-h];exact p1
theorem rn{cs:Fj}{x:HC}{T:VT}(hc: ∀x∈cs,cC cA Om x)(ho:rT x.c x.nv=true)(r:FC.run (cA.hooks cs) 1000000 x.f x.c x.c.args=T)(m: ∀I,Om I->dB I x.c.N=true->W6 T I=some (0,X4 I x.c.outs)):cC cA Om x:=Lo (E:=cA) (cs:=cs) cV wV gO hc (n:=1000000) ho (cy6 r m)
theorem fn{T:VT}{I:Opq}{l q:U7}(h:W6 T I=some (0,l))(e:l=q):W6 T I=some (0,q):=e▸h
theorem Ej: ∀x∈H0,cC cA Om x:=λx hx=>by cases hx
theorem ul:cC cA Om eM:=
 Lo (E:=nU) (cs:=[]) cV DU gO (λx hx=>by cases hx) (n:=1000000) (by kernel_rfl) (cy6 (T:=jt) tV λI ae hn=>by exact(S9.allT_ok (t:=jt) (by kernel_rfl)).trans (by simp only[eM,X4,bZ]))
theorem EG: ∀x∈L0,cC cA Om x:=by exact du (λx hx=>(by cases hx)) ul
theorem GE: ∀x∈H1,cC cA Om x:=eU Ej EG
theorem Fb: ∀x∈L1,cC cA Om x:=by exactλx hx=>(by cases hx)
theorem eG: ∀x∈H2,cC cA Om x:=eU GE Fb
theorem pn:cC cA Om gP:=
 rn (T:=S9.T_wRight) eG (by kernel_rfl) (by kernel_rfl) (λI ae hn=>by exact fn (S9.t_wRight) (by simp only[gP,X4,bZ,cD,cn ae]<;>rfl))
theorem nR:cC cA Om cH:=
 Lo (E:=cA) (cs:=H2) cV wV gO eG (n:=1000000) (by kernel_rfl) (λI ae hn=>by
  by_cases hk:(I.w 0).I=1\/(I.w 0).I=2
  rcases hk with e|e
  exact⟨gZ,λO us h=>kd e h,by rw[aan];exact fn (S9.t_evRight1 (X:=S9.FV F0) e) (by simp only[cH,X4,bZ,cD,cn ae]<;>rfl)⟩;exact⟨ik,λO us h=>kd e h,by rw[aap];exact fn (S9.t_evRight2 (X:=S9.FV F0) e) (by simp only[cH,X4,bZ,cD,cn ae]<;>rfl)⟩
  exact⟨ia,λO us h=>h,by rw[kT];exact fn (S9.t_evRight0 (X:=S9.FV F0) (by omega)) (by simp only[cH,X4,bZ,cD,cn ae]<;>rfl)⟩)
theorem pu:cC cA Om gM:=
 rn (T:=S9.T_numSum) eG (by kernel_rfl) (by kernel_rfl) (λI ae hn=>by have hn:decide (((I.w 0).L.length:Int)<=1000000)=true:=hn;have hn:=j7 hn;exact fn (S9.t_numSum (cn ae) (by omega)) (by simp only[gM,X4,bZ,cD,cn ae]<;>rfl))
theorem uf:cC cA Om jk:=
 rn (T:=RR) eG (by kernel_rfl) (by kernel_rfl) (λI ae hn=>by have hn:decide (((I.w 0).L.length:Int)<=1000000)=true:=hn;have hn:=j7 hn;exact fn (dA7 (cn ae) (by omega)) (by simp only[jk,X4,bZ,cD,cn ae]<;>rfl))
theorem xT:cC cA Om mf:=
 rn (T:=S9.T_down) eG (by kernel_rfl) (by kernel_rfl) (λI ae hn=>by have hn:((decide (1<=(I.w 1).I)&&decide ((I.w 1).I<=1048576))&&(decide (-1099511627776<=(I.w 0).I)&&decide ((I.w 0).I<=1099511627776)))=true:=hn;obtain⟨h1,h2⟩:=W4 hn;obtain⟨h3,h4⟩:=W4 h1;obtain⟨h5,h6⟩:=W4 h2;exact fn (S9.t_down (j7 h3) (j7 h4) (j7 h5) (j7 h6)) (by simp only[mf,X4,bZ,cD,cn ae]<;>rfl))
theorem pQ:cC cA Om ie:=
 rn (T:=S9.T_sRight) eG (by kernel_rfl) (by kernel_rfl) (λI ae hn=>by exact fn (S9.t_sRight (cn ae) hn) (by simp only[ie,X4,bZ,cD,cn ae]<;>rfl))
theorem mJ:cC cA Om jd:=
 rn (T:=S9.T_spanP) eG (by kernel_rfl) (by kernel_rfl) (λI ae hn=>by exact fn (S9.t_spanP) (by simp only[jd,X4,bZ,cD,cn ae]<;>rfl))
noncomputable def dv(n:Nat):Bool:=(List.range (n+1)).all λj=>HA lH 1000000 137 174 (km 174 (.Q 713 [aN,aO,aT,aU,aS]) (.Q 714 [aN,aO,aT,aU,aS])) [.us 1 0 n 2,.int .i64 (j:Int),.sl 0 0 1 1] n j
theorem gb{P:wW}{n:Nat}(h: ∀i,i<n->P i)(hn:P n): ∀i,i<n+1->P i:=λi hi=>by
 by_cases c:i<n;exact h i c
 obtain rfl:i=n:=by omega
 exact hn
theorem yC:HA lH 1000000 137 174 (km 174 (.Q 713 [aN,aO,aT,aU,aS]) (.Q 714 [aN,aO,aT,aU,aS])) [.N,.int .i64 0,.sl 0 0 1 1] 0 0=true:=by kernel_rfl
theorem DO:dv 0=true:=by kernel_rfl
theorem Gx:dv 1=true:=by kernel_rfl
theorem Gr:dv 2=true:=by kernel_rfl
theorem Fh:dv 3=true:=by kernel_rfl
theorem Eh:dv 4=true:=by kernel_rfl
theorem Fs:dv 5=true:=by kernel_rfl
theorem GP:dv 6=true:=by kernel_rfl
theorem Hb:dv 7=true:=by kernel_rfl
theorem EU:dv 8=true:=by kernel_rfl
theorem HF:dv 9=true:=by kernel_rfl
theorem yV:dv 10=true:=by kernel_rfl
theorem yg:dv 11=true:=by kernel_rfl
theorem AG:dv 12=true:=by kernel_rfl
theorem zJ:dv 13=true:=by kernel_rfl
theorem aah:dv 14=true:=by kernel_rfl
theorem zf:dv 15=true:=by kernel_rfl
theorem zZ:dv 16=true:=by kernel_rfl
theorem aai:dv 17=true:=by kernel_rfl
theorem aae:dv 18=true:=by kernel_rfl
theorem AN:dv 19=true:=by kernel_rfl
theorem AK:dv 20=true:=by kernel_rfl
theorem AD:dv 21=true:=by kernel_rfl
theorem aal:dv 22=true:=by kernel_rfl
theorem xl:dv 23=true:=by kernel_rfl
theorem aam:dv 24=true:=by kernel_rfl
theorem pv:dc2 lH 1000000 137 174 (km 174 (.Q 713 [aN,aO,aT,aU,aS]) (.Q 714 [aN,aO,aT,aU,aS])) 24=true:=
 Bool.and_eq_true_iff.2 ⟨yC,l5.2 λn hn=>(gb (gb (gb (gb (gb (gb (gb (gb (gb (gb (gb (gb (gb (gb (gb (gb (gb (gb (gb (gb (gb (gb (gb (gb (gb (λi hi=>absurd hi (P8 i)) DO) Gx) Gr) Fh) Eh) Fs) GP) Hb) EU) HF) yV) yg) AG) zJ) aah) zf) zZ) aai) aae) AN) AK) AD) aal) xl) aam: ∀i,i<24+1->dv i=true) n (o7.1 hn)⟩
theorem xo:cC cA Om qE:=
 (ER (E:=cA) cV (nv:=5) (by kernel_rfl) (dt0 (E:=cA) (Ec:=lH) (N:=1000000) (M:=24) (f:=137) (e:=174) rfl (λI ae=>((Ul (E:=lH) cV Gw (λI ae=>bJ7 λ_ _ _=>rfl) gO 1000000 I ae).1 _ (j6 _)).1) (by decide) (λI ae=>(ae.2 174).trans (by kernel_rfl)) pv (λI ae hn=>S9.sins_ok (cn ae) hn)):cC cA Om ⟨137,5,(km 174 (.Q 713 [aN,aO,aT,aU,aS]) (.Q 714 [aN,aO,aT,aU,aS]))⟩)
def um:Go.Shelf.Ren:=⟨λ|6=>138|15=>79|14=>152|28=>106|29=>107|20=>155|21=>156|22=>157|23=>158|24=>159|25=>160|26=>161|27=>162|46=>164|47=>121|48=>122|49=>165|50=>166|57=>167|n=>n,λ|22=>173|24=>174|25=>199|3=>3|39=>144|0=>0|53=>163|55=>45|4=>4|46=>157|45=>156|50=>50|5=>5|9=>9|66=>181|70=>184|76=>203|77=>204|n=>n,λ|n=>n⟩
theorem pN:Go.Proofs.SlLaysF0.n6 Tryz.prog um:={
 mixed:=by kernel_rfl
 f6:=⟨Tryz.f138.name,by decide,Tryz.func138.trans (congrArg some (by kernel_rfl))⟩
 f14:=⟨Tryz.f152.name,by decide,Tryz.func152.trans (congrArg some (by kernel_rfl))⟩
 f15:=Tryz.func79.trans (congrArg some (by kernel_rfl))
 f20:=⟨Tryz.f155.name,by decide,Tryz.func155.trans (congrArg some (by kernel_rfl))⟩
 f21:=⟨Tryz.f156.name,by decide,Tryz.func156.trans (congrArg some (by kernel_rfl))⟩
 f22:=⟨Tryz.f157.name,by decide,Tryz.func157.trans (congrArg some (by kernel_rfl))⟩
 f23:=⟨Tryz.f158.name,by decide,Tryz.func158.trans (congrArg some (by kernel_rfl))⟩
 f24:=⟨Tryz.f159.name,by decide,Tryz.func159.trans (congrArg some (by kernel_rfl))⟩
 f25:=⟨Tryz.f160.name,by decide,Tryz.func160.trans (congrArg some (by kernel_rfl))⟩
 f26:=⟨Tryz.f161.name,by decide,Tryz.func161.trans (congrArg some (by kernel_rfl))⟩
 f27:=⟨Tryz.f162.name,by decide,Tryz.func162.trans (congrArg some (by kernel_rfl))⟩
 f28:=Tryz.func106.trans (congrArg some (by kernel_rfl))
 f29:=Tryz.func107.trans (congrArg some (by kernel_rfl))
 f46:=⟨Tryz.f164.name,by decide,Tryz.func164.trans (congrArg some (by kernel_rfl))⟩
 f47:=Tryz.func121.trans (congrArg some (by kernel_rfl))
 f48:=Tryz.func122.trans (congrArg some (by kernel_rfl))
 f49:=⟨Tryz.f165.name,by decide,Tryz.func165.trans (congrArg some (by kernel_rfl))⟩
 f50:=⟨Tryz.f166.name,by decide,Tryz.func166.trans (congrArg some (by kernel_rfl))⟩
 f57:=⟨Tryz.f167.name,by decide,Tryz.func167.trans (congrArg some (by kernel_rfl))⟩
 t0:=Tryz.underlying0
 a0:=Tryz.isAgg0
 z0:=Tryz.sizeOf0
 v0:=Tryz.zeroValue0
 t3:=Tryz.underlying3
 a3:=Tryz.isAgg3
 z3:=Tryz.sizeOf3
 v3:=Tryz.zeroValue3
 t4:=Tryz.underlying4
 a4:=Tryz.isAgg4
 z4:=Tryz.sizeOf4
 v4:=Tryz.zeroValue4
 t5:=Tryz.underlying5
 a5:=Tryz.isAgg5
 z5:=Tryz.sizeOf5
 v5:=Tryz.zeroValue5
 t9:=Tryz.underlying9
 a9:=Tryz.isAgg9
 z9:=Tryz.sizeOf9
 v9:=Tryz.zeroValue9
 t22:=Tryz.underlying173
 a22:=Tryz.isAgg173
 z22:=Tryz.sizeOf173
 v22:=Tryz.zeroValue173
 t25:=Tryz.underlying199
 a25:=Tryz.isAgg199
 z25:=Tryz.sizeOf199
 v25:=Tryz.zeroValue199
 t39:=Tryz.underlying144
 a39:=Tryz.isAgg144
 z39:=Tryz.sizeOf144
 v39:=Tryz.zeroValue144
 t45:=Tryz.underlying156
 a45:=Tryz.isAgg156
 z45:=Tryz.sizeOf156
 v45:=Tryz.zeroValue156
 t46:=Tryz.underlying157
 a46:=Tryz.isAgg157
 z46:=Tryz.sizeOf157
 v46:=Tryz.zeroValue157
 t50:=Tryz.underlying50
 a50:=Tryz.isAgg50
 z50:=Tryz.sizeOf50
 v50:=Tryz.zeroValue50
 t53:=Tryz.underlying163
 a53:=Tryz.isAgg163
 z53:=Tryz.sizeOf163
 v53:=Tryz.zeroValue163
 t55:=Tryz.underlying45
 a55:=Tryz.isAgg45
 z55:=Tryz.sizeOf45
 v55:=Tryz.zeroValue45
 t66:=Tryz.underlying181
 a66:=Tryz.isAgg181
 z66:=Tryz.sizeOf181
 v66:=Tryz.zeroValue181
 t70:=Tryz.underlying184
 a70:=Tryz.isAgg184
 z70:=Tryz.sizeOf184
 v70:=Tryz.zeroValue184
 t76:=Tryz.underlying203
 a76:=Tryz.isAgg203
 z76:=Tryz.sizeOf203
 v76:=Tryz.zeroValue203
 t77:=Tryz.underlying204
 a77:=Tryz.isAgg204
 z77:=Tryz.sizeOf204
 v77:=Tryz.zeroValue204}
noncomputable def om0:Opq:=⟨ax.v,ax.w,F,ax.one,fj Tryz.prog,λ_=>none⟩
theorem Ar(G:Nat->U7->Val)(P:yJ):QH G P ⟨ax.v,ax.w,G,ax.one,fj P,λ_=>none⟩:=⟨rfl,λ_=>rfl⟩
theorem pd:Om om0:=Ar F Tryz.prog
theorem HV:Gn Tryz.prog 139 [.int .i64,.int .i64] S9.spanV:=
 Ys (E:=cA) cV pd mJ (x:= .Q 712 [aN,aO,aT,aU]) (h2:=Heap.empty) (by kernel_rfl) (λI ae a b ha hb=>by have a0:I.w 0=a.L.getD 0 default:=ha 0 (by decide);have a1:I.w 1=a.L.getD 1 default:=ha 1 (by decide);have b0:I.w 2=b.L.getD 0 default:=hb 0 (by decide);have b1:I.w 3=b.L.getD 1 default:=hb 1 (by decide);show(I.f 712 [I.w 0,I.w 1,I.w 2,I.w 3]).I=_;rw[cn ae,a0,a1,b0,b1];rfl)
theorem mI:cC cA Om mN:=
 (ER (E:=cA) cV (nv:=2) (by kernel_rfl) (XR (E:=cA) pN (f:=138) rfl (g:=139) (sig:=[.int .i64,.int .i64]) (e:=174) (id:=715) (cf:=S9.spanV) Tryz.isAgg174 Tryz.sizeOf174 S9.swo_spanV (enters_of Tryz.func139 (by kernel_rfl) rfl) HV (λI ae l=>by rw[cn ae];rfl) (by kernel_rfl)):cC cA Om ⟨138,2,Cw 139 174 [.int .i64,.int .i64] 715⟩)
theorem qk:cC cA Om fq:=
 (ER (E:=cA) cV (nv:=2) (by kernel_rfl) (ds6 cV mI (g:=139) (e:=174) (sig:=[.int .i64,.int .i64]) (need:=fq.c.N) (id:=715) (by kernel_rfl) (by kernel_rfl) (λI ae hn=>S9.sortsb_ok (cn ae) hn) (by kernel_rfl)):cC cA Om ⟨138,2,NE 139 174 [.int .i64,.int .i64] fq.c.N 715⟩)
theorem qQ:cC cA Om hI:=
 rn (T:=Np) eG (by kernel_rfl) (by kernel_rfl) (λI ae hn=>by have hn:(decide (((I.w 0).L.length:Int)<=400)&&(I.f 431 [I.w 0]).Z)=true:=hn;obtain⟨h1,h2⟩:=W4 hn;rw[cn ae]at h2;exact(S7.t_cloneR (cn ae) (by have:=j7 h1;omega) h2).trans (by simp only[hI,X4,bZ,cn ae]))
theorem aas:cC cA Om je:=
 rn (T:=cA8) eG (by kernel_rfl) (by kernel_rfl) (λI ae hn=>by have hn:(I.f 420 [I.w 0,I.w 1,I.w 2,I.w 3,I.w 4]).Z=true:=hn;rw[cn ae]at hn;exact(S7.t_swapR (cn ae) hn).trans (by simp only[je,X4,bZ,cn ae]))
theorem xS:cC cA Om lX:=
 rn (T:=MS) eG (by kernel_rfl) (by kernel_rfl) (λI ae hn=>by exact S7.t_cmpR.trans (by simp only[lX,X4,bZ,cn ae]))
theorem aag: ∀x∈L2,cC cA Om x:=by exact du (du (du (du (du (du (du (du (du (du (du (du (du (λx hx=>(by cases hx)) xS) aas) qQ) qk) mI) xo) mJ) pQ) xT) uf) pu) nR) pn
theorem kf: ∀x∈H3,cC cA Om x:=eU eG aag
theorem yR:cC cA Om mh:=
 rn (T:=Zh) kf (by kernel_rfl) (by kernel_rfl) (λI ae hn=>by have hn:(I.f 422 [I.w 0,I.w 1,I.w 2,I.w 3,I.w 4]).Z=true:=hn;rw[cn ae]at hn;exact(S7.t_rotC (cn ae) hn).trans (by simp only[mh,X4,bZ,cn ae]))
theorem Dn:cC cA Om oY:=
 rn (T:=S9.T_wOf) kf (by kernel_rfl) (by kernel_rfl) (λI ae hn=>by exact fn (S9.t_wOf (cn ae)) (by simp only[oY,X4,bZ,cD,cn ae]<;>rfl))
theorem yx:cC cA Om lJ:=
 rn (T:=S9.T_join) kf (by kernel_rfl) (by kernel_rfl) (λI ae hn=>by have hn:decide (((I.w 0).L.length:Int)<=1000)=true:=hn;have hn:=j7 hn;exact fn (S9.t_join (cn ae) (by omega)) (by simp only[lJ,X4,bZ,cD,cn ae]<;>rfl))
theorem nI:cC cA Om fG:=
 rn (T:=S9.T_sinsert) kf (by kernel_rfl) (by kernel_rfl) (λI ae hn=>by exact fn (S9.t_sinsert (cn ae) hn) (by simp only[fG,X4,bZ,cD,cn ae]<;>rfl))
theorem GU: ∀x∈L3,cC cA Om x:=by exact du (du (du (du (λx hx=>(by cases hx)) nI) yx) Dn) yR
theorem mF: ∀x∈H4,cC cA Om x:=eU kf GU
theorem yo:cC cA Om lD:=
 rn (T:=dc6) mF (by kernel_rfl) (by kernel_rfl) (λI ae hn=>by have hn:(I.f 424 [I.w 0,I.w 1,I.w 2,I.w 3]).Z=true:=hn;rw[cn ae]at hn;exact(S7.t_insC (cn ae) hn).trans (by simp only[lD,X4,bZ,cn ae]))
theorem zK:cC cA Om qM:=
 Lo (E:=cA) (cs:=H4) cV wV gO mF (n:=1000000) (by kernel_rfl) (λI ae hn=>by have hn:(I.f 426 [I.w 0,I.w 1,I.w 2,I.w 3,I.w 4,.D 1]).Z=true:=hn;rw[cn ae]at hn;exact(S7.sym_vac hn).elim)
theorem xA:cC cA Om mA:=
 rn (T:=S9.T_aput) mF (by kernel_rfl) (by kernel_rfl) (λI ae hn=>by exact fn (S9.t_aput (cn ae)) (by simp only[mA,X4,bZ,cD,cn ae]<;>rfl))
theorem HH: ∀x∈L4,cC cA Om x:=by exact du (du (du (λx hx=>(by cases hx)) xA) zK) yo
theorem vY: ∀x∈H5,cC cA Om x:=eU mF HH
theorem ya:cC cA Om li:=
 rn (T:=qT 1) vY (by kernel_rfl) (by kernel_rfl) (λI ae hn=>by have hn:(I.f 426 [I.w 0,I.w 1,I.w 2,I.w 3,I.w 4,.D 2]).Z=true:=hn;rw[cn ae]at hn;exact(S7.t_sym (B:=1) (cn ae) hn).trans (by simp only[li,X4,bZ,cn ae]))
theorem EK: ∀x∈L5,cC cA Om x:=by exact du (λx hx=>(by cases hx)) ya
theorem uX: ∀x∈H6,cC cA Om x:=eU vY EK
theorem xY:cC cA Om lS:=
 rn (T:=qT 2) uX (by kernel_rfl) (by kernel_rfl) (λI ae hn=>by have hn:(I.f 426 [I.w 0,I.w 1,I.w 2,I.w 3,I.w 4,.D 4]).Z=true:=hn;rw[cn ae]at hn;exact(S7.t_sym (B:=2) (cn ae) hn).trans (by simp only[lS,X4,bZ,cn ae]))
theorem Eo: ∀x∈L6,cC cA Om x:=by exact du (λx hx=>(by cases hx)) xY
theorem vu: ∀x∈H7,cC cA Om x:=eU uX Eo
theorem xU:cC cA Om mj:=
 rn (T:=qT 4) vu (by kernel_rfl) (by kernel_rfl) (λI ae hn=>by have hn:(I.f 426 [I.w 0,I.w 1,I.w 2,I.w 3,I.w 4,.D 8]).Z=true:=hn;rw[cn ae]at hn;exact(S7.t_sym (B:=4) (cn ae) hn).trans (by simp only[mj,X4,bZ,cn ae]))
theorem aak: ∀x∈L7,cC cA Om x:=by exact du (λx hx=>(by cases hx)) xU
theorem uV: ∀x∈H8,cC cA Om x:=eU vu aak
theorem zr:cC cA Om lL:=
 rn (T:=qT 8) uV (by kernel_rfl) (by kernel_rfl) (λI ae hn=>by have hn:(I.f 426 [I.w 0,I.w 1,I.w 2,I.w 3,I.w 4,.D 16]).Z=true:=hn;rw[cn ae]at hn;exact(S7.t_sym (B:=8) (cn ae) hn).trans (by simp only[lL,X4,bZ,cn ae]))
theorem GK: ∀x∈L8,cC cA Om x:=by exact du (λx hx=>(by cases hx)) zr
theorem uZ: ∀x∈H9,cC cA Om x:=eU uV GK
theorem zN:cC cA Om mr:=
 rn (T:=qT 16) uZ (by kernel_rfl) (by kernel_rfl) (λI ae hn=>by have hn:(I.f 426 [I.w 0,I.w 1,I.w 2,I.w 3,I.w 4,.D 32]).Z=true:=hn;rw[cn ae]at hn;exact(S7.t_sym (B:=16) (cn ae) hn).trans (by simp only[mr,X4,bZ,cn ae]))
theorem Hv: ∀x∈L9,cC cA Om x:=by exact du (λx hx=>(by cases hx)) zN
theorem pB: ∀x∈H10,cC cA Om x:=eU uZ Hv
theorem AJ:cC cA Om lQ:=
 rn (T:=qT 32) pB (by kernel_rfl) (by kernel_rfl) (λI ae hn=>by have hn:(I.f 426 [I.w 0,I.w 1,I.w 2,I.w 3,I.w 4,.D 64]).Z=true:=hn;rw[cn ae]at hn;exact(S7.t_sym (B:=32) (cn ae) hn).trans (by simp only[lQ,X4,bZ,cn ae]))
theorem zH: ∀x∈Ym,cC cA Om x:=by exact du (λx hx=>(by cases hx)) AJ
theorem po: ∀x∈XQ,cC cA Om x:=eU pB zH
theorem xG:cC cA Om kW:=
 rn (T:=qT 64) po (by kernel_rfl) (by kernel_rfl) (λI ae hn=>by have hn:(I.f 426 [I.w 0,I.w 1,I.w 2,I.w 3,I.w 4,.D 128]).Z=true:=hn;rw[cn ae]at hn;exact(S7.t_sym (B:=64) (cn ae) hn).trans (by simp only[kW,X4,bZ,cn ae]))
theorem yc: ∀x∈L11,cC cA Om x:=by exact du (λx hx=>(by cases hx)) xG
theorem qz: ∀x∈H12,cC cA Om x:=eU po yc
theorem wA:cC cA Om lq:=
 rn (T:=qT 128) qz (by kernel_rfl) (by kernel_rfl) (λI ae hn=>by have hn:(I.f 426 [I.w 0,I.w 1,I.w 2,I.w 3,I.w 4,.D 256]).Z=true:=hn;rw[cn ae]at hn;exact(S7.t_sym (B:=128) (cn ae) hn).trans (by simp only[lq,X4,bZ,cn ae]))
theorem yO: ∀x∈L12,cC cA Om x:=by exact du (λx hx=>(by cases hx)) wA
theorem qo: ∀x∈Yr,cC cA Om x:=eU qz yO
theorem wH:cC cA Om mq:=
 rn (T:=qT 256) qo (by kernel_rfl) (by kernel_rfl) (λI ae hn=>by have hn:(I.f 426 [I.w 0,I.w 1,I.w 2,I.w 3,I.w 4,.D 512]).Z=true:=hn;rw[cn ae]at hn;exact(S7.t_sym (B:=256) (cn ae) hn).trans (by simp only[mq,X4,bZ,cn ae]))
theorem aad: ∀x∈Yl,cC cA Om x:=by exact du (λx hx=>(by cases hx)) wH
theorem qr: ∀x∈H14,cC cA Om x:=eU qo aad
theorem xf:cC cA Om kY:=
 rn (T:=YU) qr (by kernel_rfl) (by kernel_rfl) (λI ae hn=>by have hn:(I.f 428 [I.w 0,I.w 1,I.w 2]).Z=true:=hn;rw[cn ae]at hn;exact(S7.t_stab (cn ae) hn).trans (by simp only[kY,X4,bZ,cn ae]))
theorem zF: ∀x∈L14,cC cA Om x:=by exact du (λx hx=>(by cases hx)) xf
theorem rj: ∀x∈Xn,cC cA Om x:=eU qr zF
theorem tS:cC cA Om jq:=
 rn (T:=XT) rj (by kernel_rfl) (by kernel_rfl) (λI ae hn=>by have hn:(decide (((I.w 0).L.length:Int)<=400)&&(I.f 431 [I.w 0]).Z)=true:=hn;obtain⟨h1,h2⟩:=W4 hn;rw[cn ae]at h2;exact(S7.t_sstab (cn ae) (by have:=j7 h1;omega) h2).trans (by simp only[jq,X4,bZ,cD,cn ae]))
theorem AI: ∀x∈L15,cC cA Om x:=by exact du (λx hx=>(by cases hx)) tS
theorem rK: ∀x∈H16,cC cA Om x:=eU rj AI
theorem iL:cC cA Om eL:=
 rn (T:=YL) rK (by kernel_rfl) (by kernel_rfl) (λI ae hn=>by have hn:(decide (((I.w 0).L.length:Int)<=400)&&(I.f 431 [I.w 0]).Z)=true:=hn;obtain⟨h1,h2⟩:=W4 hn;rw[cn ae]at h2;exact(S7.t_aggSort (cn ae) (by have:=j7 h1;omega) h2).trans (by simp only[eL,X4,bZ,cn ae]))
theorem kV:cC cA Om eT:=
 (ER (E:=cA) cV (nv:=2) (by kernel_rfl) (ds5 cV iL (e:=89) (sig:=[.str,.int .i64,.int .i64,.int .i64,.int .i64,.int .i64,.int .i64]) (id:=490) (by kernel_rfl) (λI ae hn=>dT9 (cn ae) hn) (by kernel_rfl)):cC cA Om ⟨eL.f,2,Cj 89 [.str,.int .i64,.int .i64,.int .i64,.int .i64,.int .i64,.int .i64] eT.c.N 490⟩)
theorem As: ∀x∈Wr,cC cA Om x:=by exact du (du (λx hx=>(by cases hx)) kV) iL
theorem lG: ∀x∈H17,cC cA Om x:=eU rK As
theorem uo:cC cA Om jp:=
 rn (T:=S9.T_trows) lG (by kernel_rfl) (by kernel_rfl) (λI ae hn=>by exact fn (S9.t_trows (cn ae) (λv h=>Xy h) hn) (by simp only[jp,X4,bZ,cD,cn ae]<;>rfl))
theorem uE:cC cA Om jh:=
 rn (T:=S9.T_tsess) lG (by kernel_rfl) (by kernel_rfl) (λI ae hn=>by exact fn (S9.t_tsess (cn ae) ea7 hn) (by simp only[jh,X4,bZ,cD,cn ae]<;>rfl))
theorem yD: ∀x∈YG,cC cA Om x:=by exact du (du (λx hx=>(by cases hx)) uE) uo
theorem lY: ∀x∈Yz,cC cA Om x:=eU lG yD
theorem qO:cC cA Om gV:=
 rn (T:=S9.T_joined) lY (by kernel_rfl) (by kernel_rfl) (λI ae hn=>by exact fn (S9.t_joined (cn ae) hn) (by simp only[gV,X4,bZ,cD,cn ae]<;>rfl))
theorem uH:cC cA Om jb:=
 rn (T:=S9.T_fired) lY (by kernel_rfl) (by kernel_rfl) (λI ae hn=>by have hn:((decide (((I.w 4).L.length:Int)<=400)&&(I.f 431 [I.w 4]).Z)&&(I.f 491 [I.w 4]).Z)=true:=hn;obtain⟨hn,h3⟩:=W4 hn;obtain⟨h1,h2⟩:=W4 hn;rw[cn ae]at h2 h3;have h1:=j7 h1;exact fn (S9.c_fired (cn ae) (by omega) h2 h3) (by simp only[jb,X4,bZ,cD,cn ae]<;>rfl))
theorem zG: ∀x∈L18,cC cA Om x:=by exact du (du (λx hx=>(by cases hx)) uH) qO
theorem qu: ∀x∈WI,cC cA Om x:=eU lY zG
theorem AL:cC cA Om lj:=
 rn (T:=S9.T_sess) qu (by kernel_rfl) (by kernel_rfl) (λI ae hn=>by exact fn (S9.t_sess (cn ae) hn) (by simp only[lj,X4,bZ,cD,cn ae]<;>rfl))
theorem xg: ∀x∈Zt,cC cA Om x:=by exact du (λx hx=>(by cases hx)) AL
theorem rM: ∀x∈H20,cC cA Om x:=eU qu xg
theorem Eb:cC cA Om rB:=
 rn (T:=S9.T_tryE) rM (by kernel_rfl) (by kernel_rfl) (λI ae hn=>by exact fn (S9.t_tryE (cn ae) S9.fe_x.x431 hn) (by simp only[rB,X4,bZ,cD,cn ae]<;>rfl))
theorem zP: ∀x∈ZX,cC cA Om x:=by exact du (λx hx=>(by cases hx)) Eb
theorem pP: ∀x∈H21,cC cA Om x:=eU rM zP
theorem GW:cC cA Om pt:=
 rn (T:=S9.T_put) pP (by kernel_rfl) (by kernel_rfl) (λI ae hn=>by exact fn (S9.put_t (cn ae) hn) (by simp only[pt,X4,bZ,cD,cn ae]<;>rfl))
theorem yN: ∀x∈L21,cC cA Om x:=by exact du (λx hx=>(by cases hx)) GW
theorem Ak: ∀x∈H22,cC cA Om x:=eU pP yN
theorem wC: ∀x∈L22,cC cA Om x:=by exactλx hx=>(by cases hx)
theorem Ae: ∀x∈H23,cC cA Om x:=eU Ak wC
theorem xu: ∀x∈L23,cC cA Om x:=by exactλx hx=>(by cases hx)
theorem pZ: ∀x∈H24,cC cA Om x:=eU Ae xu
theorem Au:cC cA Om lF:=
 rn (T:=S9.T_engT) pZ (by kernel_rfl) (by kernel_rfl) (λI ae hn=>by have hn:(decide (((I.w 4).L.length:Int)<=100)&&(I.f 838 [I.w 0,I.w 1,I.w 2,I.w 3,I.w 4]).Z)=true:=hn;have h2:=(W4 hn).2;rw[cn ae]at h2;exact fn (S9.c_engT (cn ae) h2) (by simp only[lF,X4,bZ,cD,cn ae]<;>rfl))
theorem yY: ∀x∈L24,cC cA Om x:=by exact du (λx hx=>(by cases hx)) Au
theorem jg: ∀x∈Yc,cC cA Om x:=eU pZ yY
theorem pg:cC cA Om me:=
 rn (T:=QB) jg (by kernel_rfl) (by kernel_rfl) (λI ae hn=>by exact(dT5).trans (by simp only[me,X4,bZ,cD,cn ae,Y1,a71]))
theorem uF:cC cA Om gF:=
 rn (T:=QU) jg (by kernel_rfl) (by kernel_rfl) (λI ae hn=>by have hn:=hn;simp only[gF,dB,bZ,X4,cD,a95,Y1,a71,c25,a59,am2,a27,decide_eq_true_eq,j8,k9]at hn;exact(dC9 (cn ae) (by omega)).trans (by simp only[gF,X4,bZ,cD,cn ae,Y1,a71]))
theorem aat:cC cA Om gA:=
 rn (T:=Oz) jg (by kernel_rfl) (by kernel_rfl) (λI ae hn=>by have hn:=hn;simp only[gA,dB,bZ,X4,cD,a95,Y1,a71,c25,a59,am2,a27,decide_eq_true_eq,j8,k9]at hn;have h1:=hn.1;have h2:=hn.2;exact(dB9 (cn ae) (by omega) (by omega)).trans (by simp only[gA,X4,bZ,cD,cn ae,Y1,a71]))
theorem aao: ∀x∈L25,cC cA Om x:=by exact du (du (du (λx hx=>(by cases hx)) aat) uF) pg
theorem qy: ∀x∈H26,cC cA Om x:=eU jg aao
def re:Go.Shelf.Ren:=⟨λ|6=>62|15=>79|14=>78|28=>106|29=>107|20=>98|21=>99|22=>100|23=>101|24=>102|25=>103|26=>104|27=>105|46=>120|47=>121|48=>122|49=>123|50=>124|57=>141|n=>n,λ|22=>41|24=>70|25=>124|3=>3|39=>144|0=>0|53=>163|55=>45|4=>4|46=>157|45=>156|50=>50|5=>5|9=>9|66=>181|70=>184|76=>203|77=>204|n=>n,λ|n=>n⟩
theorem nu:Go.Proofs.SlLaysF0.n6 Tryz.prog re:={
 mixed:=by kernel_rfl
 f6:=⟨Tryz.f62.name,by decide,Tryz.func62.trans (congrArg some (by kernel_rfl))⟩
 f14:=⟨Tryz.f78.name,by decide,Tryz.func78.trans (congrArg some (by kernel_rfl))⟩
 f15:=Tryz.func79.trans (congrArg some (by kernel_rfl))
 f20:=⟨Tryz.f98.name,by decide,Tryz.func98.trans (congrArg some (by kernel_rfl))⟩
 f21:=⟨Tryz.f99.name,by decide,Tryz.func99.trans (congrArg some (by kernel_rfl))⟩
 f22:=⟨Tryz.f100.name,by decide,Tryz.func100.trans (congrArg some (by kernel_rfl))⟩
 f23:=⟨Tryz.f101.name,by decide,Tryz.func101.trans (congrArg some (by kernel_rfl))⟩
 f24:=⟨Tryz.f102.name,by decide,Tryz.func102.trans (congrArg some (by kernel_rfl))⟩
 f25:=⟨Tryz.f103.name,by decide,Tryz.func103.trans (congrArg some (by kernel_rfl))⟩
 f26:=⟨Tryz.f104.name,by decide,Tryz.func104.trans (congrArg some (by kernel_rfl))⟩
 f27:=⟨Tryz.f105.name,by decide,Tryz.func105.trans (congrArg some (by kernel_rfl))⟩
 f28:=Tryz.func106.trans (congrArg some (by kernel_rfl))
 f29:=Tryz.func107.trans (congrArg some (by kernel_rfl))
 f46:=⟨Tryz.f120.name,by decide,Tryz.func120.trans (congrArg some (by kernel_rfl))⟩
 f47:=Tryz.func121.trans (congrArg some (by kernel_rfl))
 f48:=Tryz.func122.trans (congrArg some (by kernel_rfl))
 f49:=⟨Tryz.f123.name,by decide,Tryz.func123.trans (congrArg some (by kernel_rfl))⟩
 f50:=⟨Tryz.f124.name,by decide,Tryz.func124.trans (congrArg some (by kernel_rfl))⟩
 f57:=⟨Tryz.f141.name,by decide,Tryz.func141.trans (congrArg some (by kernel_rfl))⟩
 t0:=Tryz.underlying0
 a0:=Tryz.isAgg0
 z0:=Tryz.sizeOf0
 v0:=Tryz.zeroValue0
 t3:=Tryz.underlying3
 a3:=Tryz.isAgg3
 z3:=Tryz.sizeOf3
 v3:=Tryz.zeroValue3
 t4:=Tryz.underlying4
 a4:=Tryz.isAgg4
 z4:=Tryz.sizeOf4
 v4:=Tryz.zeroValue4
 t5:=Tryz.underlying5
 a5:=Tryz.isAgg5
 z5:=Tryz.sizeOf5
 v5:=Tryz.zeroValue5
 t9:=Tryz.underlying9
 a9:=Tryz.isAgg9
 z9:=Tryz.sizeOf9
 v9:=Tryz.zeroValue9
 t22:=Tryz.underlying41
 a22:=Tryz.isAgg41
 z22:=Tryz.sizeOf41
 v22:=Tryz.zeroValue41
 t25:=Tryz.underlying124
 a25:=Tryz.isAgg124
 z25:=Tryz.sizeOf124
 v25:=Tryz.zeroValue124
 t39:=Tryz.underlying144
 a39:=Tryz.isAgg144
 z39:=Tryz.sizeOf144
 v39:=Tryz.zeroValue144
 t45:=Tryz.underlying156
 a45:=Tryz.isAgg156
 z45:=Tryz.sizeOf156
 v45:=Tryz.zeroValue156
 t46:=Tryz.underlying157
 a46:=Tryz.isAgg157
 z46:=Tryz.sizeOf157
 v46:=Tryz.zeroValue157
 t50:=Tryz.underlying50
 a50:=Tryz.isAgg50
 z50:=Tryz.sizeOf50
 v50:=Tryz.zeroValue50
 t53:=Tryz.underlying163
 a53:=Tryz.isAgg163
 z53:=Tryz.sizeOf163
 v53:=Tryz.zeroValue163
 t55:=Tryz.underlying45
 a55:=Tryz.isAgg45
 z55:=Tryz.sizeOf45
 v55:=Tryz.zeroValue45
 t66:=Tryz.underlying181
 a66:=Tryz.isAgg181
 z66:=Tryz.sizeOf181
 v66:=Tryz.zeroValue181
 t70:=Tryz.underlying184
 a70:=Tryz.isAgg184
 z70:=Tryz.sizeOf184
 v70:=Tryz.zeroValue184
 t76:=Tryz.underlying203
 a76:=Tryz.isAgg203
 z76:=Tryz.sizeOf203
 v76:=Tryz.zeroValue203
 t77:=Tryz.underlying204
 a77:=Tryz.isAgg204
 z77:=Tryz.sizeOf204
 v77:=Tryz.zeroValue204}
theorem Ay:Gn Tryz.prog 63 [.str,.int .i64,.int .i64,.bool,.int .i64,.int .i64,.int .i64,.int .i64] uQ:=
 Ys (E:=cA) cV pd pg (x:= .Q 206 [aN,aO,aT,bi,bE,bF]) (h2:=Heap.empty) (by kernel_rfl) (λI ae a b ha hb=>by have a0:I.w 0=a.L.getD 0 default:=ha 0 (by decide);have a1:I.w 1=a.L.getD 1 default:=ha 1 (by decide);have a2:I.w 2=a.L.getD 2 default:=ha 2 (by decide);have b0:I.w 8=b.L.getD 0 default:=hb 0 (by decide);have b1:I.w 9=b.L.getD 1 default:=hb 1 (by decide);have b2:I.w 10=b.L.getD 2 default:=hb 2 (by decide);show(I.f 206 [I.w 0,I.w 1,I.w 2,I.w 8,I.w 9,I.w 10]).I=_;rw[cn ae,a0,a1,a2,b0,b1,b2];rfl)
theorem xC:cC cA Om qd:=
 (ER (E:=cA) cV (nv:=2) (by kernel_rfl) (XR (E:=cA) nu (f:=62) rfl (g:=63) (sig:=[.str,.int .i64,.int .i64,.bool,.int .i64,.int .i64,.int .i64,.int .i64]) (e:=70) (id:=211) (cf:=uQ) Tryz.isAgg70 Tryz.sizeOf70 cz6 (enters_of Tryz.func63 (by kernel_rfl) rfl) Ay (λI ae l=>by rw[cn ae];rfl) (by kernel_rfl)):cC cA Om ⟨62,2,Cw 63 70 [.str,.int .i64,.int .i64,.bool,.int .i64,.int .i64,.int .i64,.int .i64] 211⟩)
theorem pz:cC cA Om gK:=
 rn (T:=SS) qy (by kernel_rfl) (by kernel_rfl) (λI ae hn=>by have hn:((decide (((I.w 0).L.length:Int)<=400)&&decide (((I.w 1).L.length:Int)<=800))&&(((I.f 431 [I.w 0]).Z&&(I.f 433 [I.w 1]).Z)&&(I.f 233 [I.w 0,I.w 1]).Z))=true:=hn;obtain⟨h1,h2⟩:=W4 hn;obtain⟨h3,h4⟩:=W4 h1;obtain⟨h5,h6⟩:=W4 h2;obtain⟨h7,h8⟩:=W4 h5;rw[cn ae]at h6 h7 h8;have h3:=j7 h3;have h4:=j7 h4;exact fn (d74 (cn ae) (by omega) (by omega) h7 h8 h6) (by simp only[gK,X4,bZ,cD,cn ae]<;>rfl))
theorem xP: ∀x∈L26,cC cA Om x:=by exact du (du (λx hx=>(by cases hx)) pz) xC
theorem pO: ∀x∈H27,cC cA Om x:=eU qy xP
theorem xL:cC cA Om iW:=
 rn (T:=QD) pO (by kernel_rfl) (by kernel_rfl) (λI ae hn=>by have hn:=hn;simp only[iW,dB,bZ,X4,cD,a95,Y1,a71,c25,a59,am2,a27,decide_eq_true_eq,j8,k9]at hn;have h1:=hn.1;have h2:=hn.2;exact(dT8 (cn ae) (by omega) (by omega)).trans (by simp only[iW,X4,bZ,cD,cn ae,Y1,a71]))
theorem AP: ∀x∈ZR,cC cA Om x:=by exact du (λx hx=>(by cases hx)) xL
theorem fe: ∀x∈Yo,cC cA Om x:=eU pO AP
theorem xE:cC cA Om lO:=
 rn (T:=S9.UT_late) fe (by kernel_rfl) (by kernel_rfl) (λI ae hn=>by exact fn (S9.tu_late) (by simp only[lO,X4,bZ,cD,cn ae]<;>rfl))
theorem pD:cC cA Om ib:=
 rn (T:=S9.UT_cRight) fe (by kernel_rfl) (by kernel_rfl) (λI ae hn=>by exact fn (S9.tu_cRight (λa=>cn ae 700 a)) (by simp only[ib,X4,bZ,cD,cn ae]<;>rfl))
theorem aaf:cC cA Om ll:=
 rn (T:=S9.UT_wNew) fe (by kernel_rfl) (by kernel_rfl) (λI ae hn=>by exact fn (S9.tu_wNew) (by simp only[ll,X4,bZ,cD,cn ae]<;>rfl))
theorem Hi:cC cA Om rD:=
 rn (T:=S9.UT_adv) fe (by kernel_rfl) (by kernel_rfl) (λI ae hn=>by exact fn (S9.tu_adv) (by simp only[rD,X4,bZ,cD,cn ae]<;>rfl))
theorem uC:cC cA Om ja:=
 rn (T:=S9.UT_taken) fe (by kernel_rfl) (by kernel_rfl) (λI ae hn=>by have hn:(decide (((I.w 9).L.length:Int)<=1000000)&&(I.f 948 [I.w 9]).Z)=true:=hn;obtain⟨h1,h2⟩:=W4 hn;rw[cn ae]at h2;have h1:=j7 h1;exact fn (S9.tu_taken h2 (by omega)) (by simp only[ja,X4,bZ,cD,cn ae]<;>rfl))
theorem FI:cC cA Om pj:=
 rn (T:=S9.UT_few) fe (by kernel_rfl) (by kernel_rfl) (λI ae hn=>by exact fn (S9.tu_few (λa=>cn ae 960 a)) (by simp only[pj,X4,bZ,cD,cn ae]<;>rfl))
theorem xi: ∀x∈L28,cC cA Om x:=by exact du (du (du (du (du (du (λx hx=>(by cases hx)) FI) uC) Hi) aaf) pD) xE
theorem qX: ∀x∈H29,cC cA Om x:=eU fe xi
theorem Ha:cC cA Om qf:=
 rn (T:=S9.UT_cut) qX (by kernel_rfl) (by kernel_rfl) (λI ae hn=>by have hn:(I.f 937 [I.w 10,I.w 11]).Z=true:=hn;rw[cn ae]at hn;exact fn (S9.tu_cut hn) (by simp only[qf,X4,bZ,cD,cn ae]<;>rfl))
theorem Af: ∀x∈L29,cC cA Om x:=by exact du (λx hx=>(by cases hx)) Ha
theorem qU: ∀x∈H30,cC cA Om x:=eU qX Af
theorem yh:cC cA Om lT:=
 rn (T:=S9.UT_pend) qU (by kernel_rfl) (by kernel_rfl) (λI ae hn=>by have hn:(I.f 953 [I.w 0,I.w 1,I.w 2,I.w 3,I.w 4,I.w 5,I.w 6,I.w 7,I.w 8,I.w 9,I.w 10]).Z=true:=hn;rw[cn ae]at hn;exact fn (S9.tu_pend (cn ae) hn) (by simp only[lT,X4,bZ,cD,cn ae]<;>rfl))
theorem xK: ∀x∈ZM,cC cA Om x:=by exact du (λx hx=>(by cases hx)) yh
theorem zV: ∀x∈H31,cC cA Om x:=eU qU xK
theorem aau:cC cA Om cW:=
 rn (T:=S9.UT_epochs) zV (by kernel_rfl) (by kernel_rfl) (λI ae hn=>by have hn:(I.f 979 [I.w 0,I.w 1,I.w 2,I.w 3,I.w 4,I.w 5,I.w 6]).Z=true:=hn;rw[cn ae]at hn;exact fn (S9.tu_epochs (cn ae) hn) (by simp only[cW,X4,bZ,cD,cn ae]<;>rfl))
