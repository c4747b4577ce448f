import Derived.Test.YtdbiooidpgafaaaGreatRows
import Derived.Test.YtdbiooidpgafaaaGreatEO1
import Derived.Test.YtdbiooidpgafaaaGreatE43
import Derived.ProofKit
set_option linter.unusedVariables false
set_option linter.unusedSimpArgs false
namespace Go.Proofs.YtdbiooidpgafaaaGreat.Ctr
open Go Go.Ev Go.Shelf
def funIn(t g:Nat)(a:Fr):Bool:=match a.slot t with
 | .func (.func f) _ _=>Nat.beq f g
 |_=>false
noncomputable def env0:Env:=⟨Tryz.prog,fun f=>bif Nat.beq f 81 then some (.overlaps 99 4)else none,fun _=>false,fun _=>false,fun _ _ _=> .bad,fun _ _=>none,fun _ _ _ _=>none⟩
noncomputable def loops(f:FuncId)(r:Nat)(a:Fr)(h:Heap):Option LSpec:=bif Nat.beq f 85&&Nat.beq r 1 then some (ao1 ⟨452,2000,[11,12,13,14,15,16,17,18,19,20,21,22,23,24,25,26,27,28,29,30,31,32,33,34,35,36,37],[],[10],[0],[0,1,2,3],[(.exit 0,[])],[],[],false⟩ a h)else bif Nat.beq f 71&&Nat.beq r 2 then some (ao1 ⟨458,2000,[18,19,20,21,22,23,24,25,26,27,28,29,30,31,32,33,34,35,36,37,38,39,40,41,42,43,44,45,46,47,48,49],[],[10,11],[0],[0,2,4],[(.exit 0,[])],[],[],false⟩ a h)else bif Nat.beq f 54&&Nat.beq r 1 then some (ao1 ⟨460,2000,[9,12,13,14,15,16,17,18,19,20,21,22,23,24,25,26,27,28,29,30,31,32,33,34,35,36,37,38,39,40,41,42,43,44,45,46,47,48,49,50,51,52],[],[8],[0],[0,1,2,3],[(.exit 0,[])],[],[],false⟩ a h)else bif Nat.beq f 54&&Nat.beq r 4 then some (ao1 ⟨461,3000,[18,19,20,21,22,23,24,25,26,27,28,29,30,31,32,33,34,35,36,37,38,39,40,41,42,43,44,45,46,47,48,49,50,51,52],[],[9],[0],[0,1,2,3,8],[(.exit 2,[])],[],[],false⟩ a h)else bif Nat.beq f 55&&Nat.beq r 3 then some (ao1 ⟨462,2000,[12,31,32,33,34,35,36,37,38,39,40,41,42,43,44,45,46,47,48,49,50,51,52,53],[],[10,11],[],[0,1,4],[(.exit 0,[])],[],[],false⟩ a h)else bif Nat.beq f 55&&Nat.beq r 9 then some (ao1 ⟨463,3000,[55,56,57,58,59,60,61,62,63,64,65,66,67,68,69,70,71,72,73,74,75,76],[],[13],[0],[0,10],[(.exit 2,[])],[],[],false⟩ a h)else bif Nat.beq f 55&&Nat.beq r 15 then some (ao1 ⟨464,2000,[16,83,84,85,86,87,88,89,90,91,92,93,94,95,96,97,98,99,100,101,102,103,104,105,106],[],[14,15],[],[0,2,4],[(.exit 4,[])],[],[],false⟩ a h)else bif Nat.beq f 55&&Nat.beq r 21 then some (ao1 ⟨465,3000,[108,109,110,111,112,113,114,115,116,117,118,119,120,121,122,123,124,125,126,127,128],[],[17],[0],[0,14],[(.exit 6,[])],[],[],false⟩ a h)else bif Nat.beq f 55&&Nat.beq r 33 then some (ao1 ⟨466,2000,[23,149,150,151,152,153,154,155,156,157,158,159,160,161,162,163,164,165,166,167,168,169,170,171,172,173,174],[],[20,21],[],[0,1,2,3,4,18,19,22],[(.exit 8,[])],[],[],false⟩ a h)else bif Nat.beq f 47&&Nat.beq r 2 then some (ao1 ⟨467,2000,[11,12,13,14,15,16,17,18,19,20,21,22],[],[7,8],[0],[0,1,2,6],[(.exit 0,[])],[],[],false⟩ a h)else bif Nat.beq f 47&&Nat.beq r 7 then some (ao1 ⟨468,3000,[7,8,9,28,29,30,31,32,33,34,35,36,37,38,39,40,41,42,43,44,45,46,47,48,49,50,51,52,53,54,55,56,57,58,59,60,61,62],[],[6],[0],[0,1,2],[(.exit 2,[])],[],[],false⟩ a h)else bif Nat.beq f 47&&Nat.beq r 9 then some (ao1 ⟨469,4000,[33,34,35,36,37,38,39,40,41,42,43,44,45,46,47,48],[],[7,8],[0],[0,1,2,6],[(.exit 4,[])],[],[],false⟩ a h)else bif Nat.beq f 29&&Nat.beq r 4 then some (ao1 ⟨107,2000,[5,14,15,16,17,18,19,20,21,22,23,24,25],[],[4,13],[],[0,1,12],[(.exit 0,[]),(.ret,[])],[],[],false⟩ a h)else bif Nat.beq f 8&&Nat.beq r 5 then some (ao1 ⟨750,2000,[4,5,13,14,15,16,17,18,19,20,21,22,23],[(3,none,49,[.str,.int .i64,.int .i64,.int .i64,.int .i64,.int .i64,.int .i64])],[3],[],[12],[(.exit 0,[])],[],[],true⟩ a h)else bif Nat.beq f 51&&Nat.beq r 4 then some (ao1 ⟨751,2000,[8,13,14,15,16,17,18,19],[],[12],[4,5],[4,5,6,10,11],[(.exit 0,[])],[],[],false⟩ a h)else bif Nat.beq f 41&&Nat.beq r 4 then some (ao1 ⟨752,2000,[8,14,15,16,17,18,19,20,21,22,23,24,25,26,27,28,29,30,31,32,33,34,35,36,37,38,39,40,41,42,43,44,45],[(4,none,2,[.int .i64]),(5,none,2,[.int .i64])],[4,5,13],[6],[2,6,11,12],[(.exit 0,[])],[],[],false⟩ a h)else bif Nat.beq f 12&&Nat.beq r 8 then some (ao1 ⟨753,2000,[43,44,45,46,47,48,49,50,51,52,53,54,55,56,57,58],[(7,none,66,[.int .i64,.int .i64])],[7,8],[],[2,5],[(.exit 1,[])],[],[],false⟩ a h)else bif Nat.beq f 63&&Nat.beq r 2 then some (ao1 ⟨754,2000,[5,6,7,8,12,13,14,15,16,17,18,19,20,21,22,23,24,25,26,27,28,29,30,31,32,33,34,35,36,37,38,39,40,41,42,43,44,45,46,47,48,49,50,51,52],[],[4,11],[],[0,1,9,10],[(.exit 0,[]),(.ret,[])],[],[],false⟩ a h)else bif Nat.beq f 49&&Nat.beq r 6 then some (ao1 ⟨755,2000,[12,36,37,38,39,40,41,42,43,44,45,46,47,48,49,50,51,52,53,54,55,56,57,58,59,60,61,62],[(6,none,100,[.int .i64,.int .i64]),(8,none,100,[.int .i64,.int .i64])],[6,8,35],[7],[7,10,33,34],[(.exit 0,[])],[],[],false⟩ a h)else bif Nat.beq f 65&&Nat.beq r 3 then some (ao1 ⟨756,2000,[11,15,16,17,18,19,20,21,22,23,24,25,26,27,28,29,30,31,32,33,34],[],[9,10],[],[0,2,4,8],[(.exit 0,[])],[],[],false⟩ a h)else bif Nat.beq f 50&&Nat.beq r 2 then some (ao1 ⟨757,2000,[5,11,12,13,14,15,16,17,18,19,20,21,22,23,24,25,26],[(4,none,100,[.int .i64,.int .i64])],[4],[],[1,10],[(.exit 0,[])],[],[],true⟩ a h)else bif Nat.beq f 40&&Nat.beq r 3 then some (ao1 ⟨758,2000,[11,32,33,34,35,36,37,38,39,40,41,42,43,44,45],[(4,none,47,[.str,.int .i64,.int .i64])],[4,31],[],[3,5,7,29,30],[(.exit 0,[])],[],[],false⟩ a h)else bif Nat.beq f 27&&Nat.beq r 4 then some (ao1 ⟨759,2000,[11,26,27,28,29,30,31,32,33,34,35,36,37,38,39,40,41,42,43,44,45],[(4,none,47,[.str,.int .i64,.int .i64]),(9,none,43,[.int .i64,.int .i64,.int .i64,.int .i64])],[4,9,25],[],[0,8,23,24],[(.exit 0,[])],[],[],false⟩ a h)else bif Nat.beq f 9&&Nat.beq r 11 then some (ao1 ⟨760,2000,[8,9,44,45,46,47,48,49,50,51,52,53,54,55,56,57,58,59,60,61,62,63,64,65,66,67,68,69,70,71,72,73,74,75],[(5,none,49,[.str,.int .i64,.int .i64,.int .i64,.int .i64,.int .i64,.int .i64])],[5,6,43],[],[0,3,41,42],[(.exit 1,[])],[],[],false⟩ a h)else bif Nat.beq f 10&&Nat.beq r 5 then some (ao1 ⟨761,2000,[9,25,26,27,28,29,30,31,32,33],[],[24],[1000],[0,6,22,23],[(.exit 0,[])],[],[],false⟩ a h)else bif Nat.beq f 10&&Nat.beq r 10 then some (ao1 ⟨762,2000,[11,37,38,39,40,41,42,43,44,45,46,47,48],[],[36],[1000],[0,34,35],[(.exit 2,[])],[],[],false⟩ a h)else bif Nat.beq f 4&&Nat.beq r 2 then some (ao1 ⟨765,2000,[6,7,8,9,10,11,12,13,14,15,16,17,18,19,20,21,22],[],[4,5],[],[0,1],[(.exit 0,[]),(.ret,[])],[],[],false⟩ a h)else bif Nat.beq f 3&&Nat.beq r 7 then some (ao1 ⟨766,2000,[12,13,14,15,16,17,18,19,20,21,44,45,46,47,48,49,50,51,52,53,54,55,56,57,58,59,60,61,62,63,64,65,66,67,68,69,70,71,72,73,74,75,76,77,78,79,80,81,82,83,84,85,86,87,88,89,90,91,92,93,94,95,96,97,98,99,100,101,102,103,104,105,106,107,108,109,110,111,112,113,114,115,116,117,118,119,120,121,122,123,124,125,126,127,128,129,130,131,132,133,134,135,136,137,138,139,140,141,142,143,144,145,146],[(9,none,37,[.int .u8,.str,.int .i64,.int .i64])],[6,9,10,11],[1007],[1,2,3,7,8],[(.exit 0,[]),(.ret,[])],[(30007,[.str,.int .i64,.int .i64],[.int .i64,.int .i64,.int .i64,.int .i64])],[],false⟩ a h)else bif Nat.beq f 3&&Nat.beq r 19 then some (ao1 ⟨767,4000,[17,18,104,105,106,107,108,109,110,111,112,113,114,115,116,117,118,119,120,121,122,123,124,125,126,127,128,129,130],[],[6,16],[],[1,2,3,7,8,9,10,11,13,14],[(.exit 2,[]),(.ret,[])],[],[],false⟩ a h)else bif Nat.beq f 3&&Nat.beq r 25 then some (ao1 ⟨768,4000,[20,21,131,132,133,134,135,136,137,138,139,140,141,142,143,144,145,146],[],[6,19],[],[1,2,3,7,8,9,10,11,13],[(.exit 4,[]),(.ret,[])],[],[],false⟩ a h)else bif Nat.beq f 3&&Nat.beq r 33 then some (ao1 ⟨769,2000,[149,150,151,152,153,154,155,156,157,158,159,160,161,162,163,164,165,166,167,168,169,170,171,172,173,174,175,176,177],[],[6,22,24],[],[2,3,8,9,10,23],[(.exit 6,[]),(.ret,[])],[],[],false⟩ a h)else bif Nat.beq f 3&&Nat.beq r 43 then some (ao1 ⟨770,2000,[192,193,194,195,196,197,198,199,200,201,202,203],[(26,none,37,[.int .u8,.str,.int .i64,.int .i64])],[26,27],[],[3,9,23,25],[(.exit 8,[])],[],[],false⟩ a h)else bif Nat.beq f 17&&Nat.beq r 3 then some (ao1 ⟨771,2000,[9,18,19,20,21,22,23,24,25,26,27],[],[4,5,7,17],[1006],[6,15,16],[(.exit 0,[]),(.ret,[])],[(30006,[.str,.int .i64,.int .i64],[.int .i64,.int .i64,.int .i64,.int .i64])],[],false⟩ a h)else none
noncomputable def env:Env:={env0 with lspec:=loops}
noncomputable def envC:Env:={env0 with caps:=fun g=>Nat.beq g 67}
def h_works:HC:=⟨6,0,⟨[],[],0,.cb true,.obool (.va 1000),[],[.cb true]⟩⟩
def L0:List HC:=[h_works]
def h_wRight:HC:=⟨5,4,⟨[.agg [.oint .u8 (.va 0),.oint .i64 (.va 1),.oint .i64 (.va 2),.oint .i64 (.va 3)]],[],0,.cb true,.obool (.va 1000),[],[.app 700 [.va 0,.va 1,.va 2,.va 3]]⟩⟩
def h_evRight:HC:=⟨26,4,⟨[.agg [.oint .u8 (.va 0),.ostr (.va 1),.oint .i64 (.va 2),.oint .i64 (.va 3)]],[],0,.cb true,.oint .i64 (.va 1000),[],[.app 701 [.va 0,.va 1,.va 2,.va 3]]⟩⟩
def a_evRight0:List AV:=[.agg [.oint .u8 (.va 0),.ostr (.va 1),.oint .i64 (.va 2),.oint .i64 (.va 3)]]
def a_evRight1:List AV:=[.agg [.int .u8 1,.ostr (.va 1),.oint .i64 (.va 2),.oint .i64 (.va 3)]]
def a_evRight2:List AV:=[.agg [.int .u8 2,.ostr (.va 1),.oint .i64 (.va 2),.oint .i64 (.va 3)]]
def h_numSum:HC:=⟨51,1,⟨[.osl 0 (.ci 0) (.op .llen [.va 0]) 1],[.arr 4294967295 [.int .i64] (.va 0)],1,.op (.cmp .leq) [.op .llen [.va 0],.ci 1000000],.tup [.oint .i64 (.va 1000),.oint .i64 (.va 1001)],[],[.app 702 [.va 0],.app 703 [.va 0]]⟩⟩
def h_sameR:HC:=⟨11,2,⟨[.osl 0 (.ci 0) (.op .llen [.va 0]) 7,.osl 1 (.ci 0) (.op .llen [.va 1]) 7],[.arr 4294967295 [.str,.int .i64,.int .i64,.int .i64,.int .i64,.int .i64,.int .i64] (.va 0),.arr 4294967295 [.str,.int .i64,.int .i64,.int .i64,.int .i64,.int .i64,.int .i64] (.va 1)],2,.op (.cmp .leq) [.op .llen [.va 0],.ci 1000000],.obool (.va 1000),[],[.app 3 [.va 0,.va 1]]⟩⟩
def h_down:HC:=⟨31,2,⟨[.oint .i64 (.va 0),.oint .i64 (.va 1)],[],0,.op .and [.op .and [.op (.cmp .leq) [.ci 1,.va 1],.op (.cmp .leq) [.va 1,.ci 1048576]],.op .and [.op (.cmp .leq) [.ci (-1099511627776),.va 0],.op (.cmp .leq) [.va 0,.ci 1099511627776]]],.tup [.oint .i64 (.va 1000),.oint .i64 (.va 1001)],[],[.app 709 [.va 0,.va 1],.ci 0]⟩⟩
def h_sRight:HC:=⟨63,2,⟨[.oint .i64 (.va 0),.osl 0 (.ci 0) (.op .llen [.va 1]) 2],[.arr 4294967295 [.int .i64,.int .i64] (.va 1)],1,.op (.cmp .leq) [.op .llen [.va 1],.ci 400],.obool (.va 1000),[],[.app 711 [.va 0,.va 1]]⟩⟩
def h_spanP:HC:=⟨69,4,⟨[.agg [.oint .i64 (.va 0),.oint .i64 (.va 1)],.agg [.oint .i64 (.va 2),.oint .i64 (.va 3)]],[],0,.cb true,.oint .i64 (.va 1000),[],[.app 712 [.va 0,.va 1,.va 2,.va 3]]⟩⟩
def h_sins:HC:=⟨67,5,⟨[.ous 1 (.va 1) 2,.oint .i64 (.va 2),.sl 0 0 1 1],[.cells 100 0 [.oint .i64 (.va 3),.oint .i64 (.va 4)],.arr 100 [.int .i64,.int .i64] (.va 0)],1,.app 713 [.va 0,.va 1,.va 2,.va 3,.va 4],.ous 2 (.op .llen [.va 1000]) 2,[none,some (.arr 100 [.int .i64,.int .i64] (.va 1000))],[.app 714 [.va 0,.va 1,.va 2,.va 3,.va 4]]⟩⟩
def h_SORTS:HC:=⟨68,2,⟨[.ous 0 (.va 0) 2,.func (.func 69) [] []],[.arr 100 [.int .i64,.int .i64] (.va 1)],0,.op .and [.op (.cmp .eql) [.va 0,.op .llen [.va 1]],.op (.cmp .leq) [.op .llen [.va 1],.ci 1000000]],.tup [],[some (.arr 100 [.int .i64,.int .i64] (.va 1000))],[.app 715 [.va 1]]⟩⟩
def h_SORTSB:HC:=⟨68,2,⟨[.ous 0 (.va 0) 2,.func (.func 69) [] []],[.bag 100 [.int .i64,.int .i64] (.va 1)],0,.op .and [.op (.cmp .eql) [.va 0,.op .llen [.va 1]],.op .and [.op (.cmp .leq) [.op .llen [.va 1],.ci 1000000],.app 716 [.va 1]]],.tup [],[some (.arr 100 [.int .i64,.int .i64] (.va 1000))],[.app 715 [.va 1]]⟩⟩
def h_cloneR:HC:=⟨36,1,⟨[.osl 0 (.ci 0) (.op .llen [.va 0]) 7],[.arr 4294967295 [.str,.int .i64,.int .i64,.int .i64,.int .i64,.int .i64,.int .i64] (.va 0)],1,.op .and [.op (.cmp .leq) [.op .llen [.va 0],.ci 400],.app 431 [.va 0]],.ous 1 (.op .llen [.va 1000]) 7,[some (.arr 49 [.str,.int .i64,.int .i64,.int .i64,.int .i64,.int .i64,.int .i64] (.va 1000))],[.va 0]⟩⟩
def h_swapR:HC:=⟨85,5,⟨[.ous 0 (.va 1) 7,.oint .i64 (.va 2),.oint .i64 (.va 3),.oint .i64 (.va 4),.func (.func 38) [.agg [.func (.func 34) [] []]] []],[.arr 49 [.str,.int .i64,.int .i64,.int .i64,.int .i64,.int .i64,.int .i64] (.va 0)],0,.app 420 [.va 0,.va 1,.va 2,.va 3,.va 4],.tup [],[some (.arr 49 [.str,.int .i64,.int .i64,.int .i64,.int .i64,.int .i64,.int .i64] (.va 1000))],[.app 421 [.va 0,.va 2,.va 3,.va 4]]⟩⟩
def h_cmpR:HC:=⟨38,14,⟨[.agg [.func (.func 34) [] []],.agg [.ostr (.va 0),.oint .i64 (.va 1),.oint .i64 (.va 2),.oint .i64 (.va 3),.oint .i64 (.va 4),.oint .i64 (.va 5),.oint .i64 (.va 6)],.agg [.ostr (.va 7),.oint .i64 (.va 8),.oint .i64 (.va 9),.oint .i64 (.va 10),.oint .i64 (.va 11),.oint .i64 (.va 12),.oint .i64 (.va 13)]],[],0,.cb true,.oint .i64 (.va 1000),[],[.app 206 [.va 0,.va 1,.va 2,.va 7,.va 8,.va 9]]⟩⟩
def L1:List HC:=[h_wRight,h_evRight,h_numSum,h_sameR,h_down,h_sRight,h_spanP,h_sins,h_SORTS,h_SORTSB,h_cloneR,h_swapR,h_cmpR]
def h_rotC:HC:=⟨71,5,⟨[.ous 0 (.va 1) 7,.oint .i64 (.va 2),.oint .i64 (.va 3),.oint .i64 (.va 4),.func (.func 38) [.agg [.func (.func 34) [] []]] []],[.arr 49 [.str,.int .i64,.int .i64,.int .i64,.int .i64,.int .i64,.int .i64] (.va 0)],0,.app 422 [.va 0,.va 1,.va 2,.va 3,.va 4],.tup [],[some (.arr 49 [.str,.int .i64,.int .i64,.int .i64,.int .i64,.int .i64,.int .i64] (.va 1000))],[.app 423 [.va 0,.va 2,.va 3,.va 4]]⟩⟩
def h_wOf:HC:=⟨12,5,⟨[.agg [.oint .u8 (.va 0),.oint .i64 (.va 1),.oint .i64 (.va 2),.oint .i64 (.va 3)],.oint .i64 (.va 4)],[],0,.cb true,.ous 0 (.op .llen [.va 1000]) 2,[some (.arr 66 [.int .i64,.int .i64] (.va 1000))],[.app 704 [.va 0,.va 1,.va 2,.va 3,.va 4]]⟩⟩
def h_join:HC:=⟨41,1,⟨[.osl 0 (.ci 0) (.op .llen [.va 0]) 4],[.arr 4294967295 [.int .i64,.int .i64,.int .i64,.int .i64] (.va 0)],1,.op (.cmp .leq) [.op .llen [.va 0],.ci 1000],.tup [.agg [.oint .i64 (.va 1000),.oint .i64 (.va 1001),.oint .i64 (.va 1002),.oint .i64 (.va 1003)],.oint .i64 (.va 1004)],[],[.op .lget [.app 705 [.va 0],.ci 0,.ci 0],.op .lget [.app 705 [.va 0],.ci 0,.ci 1],.op .lget [.app 705 [.va 0],.ci 0,.ci 2],.op .lget [.app 705 [.va 0],.ci 0,.ci 3],.app 706 [.va 0]]⟩⟩
def h_sinsert:HC:=⟨49,3,⟨[.oint .i64 (.va 0),.oint .i64 (.va 1),.osl 0 (.ci 0) (.op .llen [.va 2]) 2],[.arr 4294967295 [.int .i64,.int .i64] (.va 2)],1,.op (.cmp .leq) [.op .llen [.va 2],.ci 24],.tup [.ous 1 (.op .llen [.va 1003]) 2,.agg [.oint .i64 (.va 1000),.oint .i64 (.va 1001)],.ous 2 (.op .llen [.va 1004]) 2,.oint .i64 (.va 1002)],[some (.arr 100 [.int .i64,.int .i64] (.va 1003)),some (.arr 100 [.int .i64,.int .i64] (.va 1004))],[.op .lget [.app 718 [.va 0,.va 1,.va 2],.ci 0,.ci 0],.op .lget [.app 718 [.va 0,.va 1,.va 2],.ci 0,.ci 1],.app 720 [.va 0,.va 1,.va 2],.app 717 [.va 0,.va 1,.va 2],.app 719 [.va 0,.va 1,.va 2]]⟩⟩
def L2:List HC:=[h_rotC,h_wOf,h_join,h_sinsert]
def h_insC:HC:=⟨54,4,⟨[.ous 0 (.va 1) 7,.oint .i64 (.va 2),.oint .i64 (.va 3),.func (.func 38) [.agg [.func (.func 34) [] []]] []],[.arr 49 [.str,.int .i64,.int .i64,.int .i64,.int .i64,.int .i64,.int .i64] (.va 0)],0,.app 424 [.va 0,.va 1,.va 2,.va 3],.tup [],[some (.arr 49 [.str,.int .i64,.int .i64,.int .i64,.int .i64,.int .i64,.int .i64] (.va 1000))],[.app 425 [.va 0,.va 2,.va 3]]⟩⟩
def h_sym0:HC:=⟨55,5,⟨[.ous 0 (.va 1) 7,.oint .i64 (.va 2),.oint .i64 (.va 3),.oint .i64 (.va 4),.func (.func 38) [.agg [.func (.func 34) [] []]] []],[.arr 49 [.str,.int .i64,.int .i64,.int .i64,.int .i64,.int .i64,.int .i64] (.va 0)],0,.app 426 [.va 0,.va 1,.va 2,.va 3,.va 4,.ci 1],.tup [],[some (.arr 49 [.str,.int .i64,.int .i64,.int .i64,.int .i64,.int .i64,.int .i64] (.va 1000))],[.app 425 [.va 0,.va 2,.va 4]]⟩⟩
def h_aput:HC:=⟨28,5,⟨[.agg [.oint .i64 (.va 0),.oint .i64 (.va 1),.oint .i64 (.va 2),.oint .i64 (.va 3)],.oint .i64 (.va 4)],[],0,.cb true,.tup [.agg [.oint .i64 (.va 1000),.oint .i64 (.va 1001),.oint .i64 (.va 1002),.oint .i64 (.va 1003)],.oint .i64 (.va 1004)],[],[.op .lget [.app 707 [.va 0,.va 1,.va 2,.va 3,.va 4],.ci 0,.ci 0],.op .lget [.app 707 [.va 0,.va 1,.va 2,.va 3,.va 4],.ci 0,.ci 1],.op .lget [.app 707 [.va 0,.va 1,.va 2,.va 3,.va 4],.ci 0,.ci 2],.op .lget [.app 707 [.va 0,.va 1,.va 2,.va 3,.va 4],.ci 0,.ci 3],.app 708 [.va 0,.va 1,.va 2,.va 3,.va 4]]⟩⟩
def L3:List HC:=[h_insC,h_sym0,h_aput]
def h_sym1:HC:=⟨55,5,⟨[.ous 0 (.va 1) 7,.oint .i64 (.va 2),.oint .i64 (.va 3),.oint .i64 (.va 4),.func (.func 38) [.agg [.func (.func 34) [] []]] []],[.arr 49 [.str,.int .i64,.int .i64,.int .i64,.int .i64,.int .i64,.int .i64] (.va 0)],0,.app 426 [.va 0,.va 1,.va 2,.va 3,.va 4,.ci 2],.tup [],[some (.arr 49 [.str,.int .i64,.int .i64,.int .i64,.int .i64,.int .i64,.int .i64] (.va 1000))],[.app 425 [.va 0,.va 2,.va 4]]⟩⟩
def L4:List HC:=[h_sym1]
def h_sym2:HC:=⟨55,5,⟨[.ous 0 (.va 1) 7,.oint .i64 (.va 2),.oint .i64 (.va 3),.oint .i64 (.va 4),.func (.func 38) [.agg [.func (.func 34) [] []]] []],[.arr 49 [.str,.int .i64,.int .i64,.int .i64,.int .i64,.int .i64,.int .i64] (.va 0)],0,.app 426 [.va 0,.va 1,.va 2,.va 3,.va 4,.ci 4],.tup [],[some (.arr 49 [.str,.int .i64,.int .i64,.int .i64,.int .i64,.int .i64,.int .i64] (.va 1000))],[.app 425 [.va 0,.va 2,.va 4]]⟩⟩
def L5:List HC:=[h_sym2]
def h_sym3:HC:=⟨55,5,⟨[.ous 0 (.va 1) 7,.oint .i64 (.va 2),.oint .i64 (.va 3),.oint .i64 (.va 4),.func (.func 38) [.agg [.func (.func 34) [] []]] []],[.arr 49 [.str,.int .i64,.int .i64,.int .i64,.int .i64,.int .i64,.int .i64] (.va 0)],0,.app 426 [.va 0,.va 1,.va 2,.va 3,.va 4,.ci 8],.tup [],[some (.arr 49 [.str,.int .i64,.int .i64,.int .i64,.int .i64,.int .i64,.int .i64] (.va 1000))],[.app 425 [.va 0,.va 2,.va 4]]⟩⟩
def L6:List HC:=[h_sym3]
def h_sym4:HC:=⟨55,5,⟨[.ous 0 (.va 1) 7,.oint .i64 (.va 2),.oint .i64 (.va 3),.oint .i64 (.va 4),.func (.func 38) [.agg [.func (.func 34) [] []]] []],[.arr 49 [.str,.int .i64,.int .i64,.int .i64,.int .i64,.int .i64,.int .i64] (.va 0)],0,.app 426 [.va 0,.va 1,.va 2,.va 3,.va 4,.ci 16],.tup [],[some (.arr 49 [.str,.int .i64,.int .i64,.int .i64,.int .i64,.int .i64,.int .i64] (.va 1000))],[.app 425 [.va 0,.va 2,.va 4]]⟩⟩
def L7:List HC:=[h_sym4]
def h_sym5:HC:=⟨55,5,⟨[.ous 0 (.va 1) 7,.oint .i64 (.va 2),.oint .i64 (.va 3),.oint .i64 (.va 4),.func (.func 38) [.agg [.func (.func 34) [] []]] []],[.arr 49 [.str,.int .i64,.int .i64,.int .i64,.int .i64,.int .i64,.int .i64] (.va 0)],0,.app 426 [.va 0,.va 1,.va 2,.va 3,.va 4,.ci 32],.tup [],[some (.arr 49 [.str,.int .i64,.int .i64,.int .i64,.int .i64,.int .i64,.int .i64] (.va 1000))],[.app 425 [.va 0,.va 2,.va 4]]⟩⟩
def L8:List HC:=[h_sym5]
def h_sym6:HC:=⟨55,5,⟨[.ous 0 (.va 1) 7,.oint .i64 (.va 2),.oint .i64 (.va 3),.oint .i64 (.va 4),.func (.func 38) [.agg [.func (.func 34) [] []]] []],[.arr 49 [.str,.int .i64,.int .i64,.int .i64,.int .i64,.int .i64,.int .i64] (.va 0)],0,.app 426 [.va 0,.va 1,.va 2,.va 3,.va 4,.ci 64],.tup [],[some (.arr 49 [.str,.int .i64,.int .i64,.int .i64,.int .i64,.int .i64,.int .i64] (.va 1000))],[.app 425 [.va 0,.va 2,.va 4]]⟩⟩
def L9:List HC:=[h_sym6]
def h_sym7:HC:=⟨55,5,⟨[.ous 0 (.va 1) 7,.oint .i64 (.va 2),.oint .i64 (.va 3),.oint .i64 (.va 4),.func (.func 38) [.agg [.func (.func 34) [] []]] []],[.arr 49 [.str,.int .i64,.int .i64,.int .i64,.int .i64,.int .i64,.int .i64] (.va 0)],0,.app 426 [.va 0,.va 1,.va 2,.va 3,.va 4,.ci 128],.tup [],[some (.arr 49 [.str,.int .i64,.int .i64,.int .i64,.int .i64,.int .i64,.int .i64] (.va 1000))],[.app 425 [.va 0,.va 2,.va 4]]⟩⟩
def L10:List HC:=[h_sym7]
def h_sym8:HC:=⟨55,5,⟨[.ous 0 (.va 1) 7,.oint .i64 (.va 2),.oint .i64 (.va 3),.oint .i64 (.va 4),.func (.func 38) [.agg [.func (.func 34) [] []]] []],[.arr 49 [.str,.int .i64,.int .i64,.int .i64,.int .i64,.int .i64,.int .i64] (.va 0)],0,.app 426 [.va 0,.va 1,.va 2,.va 3,.va 4,.ci 256],.tup [],[some (.arr 49 [.str,.int .i64,.int .i64,.int .i64,.int .i64,.int .i64,.int .i64] (.va 1000))],[.app 425 [.va 0,.va 2,.va 4]]⟩⟩
def L11:List HC:=[h_sym8]
def h_sym9:HC:=⟨55,5,⟨[.ous 0 (.va 1) 7,.oint .i64 (.va 2),.oint .i64 (.va 3),.oint .i64 (.va 4),.func (.func 38) [.agg [.func (.func 34) [] []]] []],[.arr 49 [.str,.int .i64,.int .i64,.int .i64,.int .i64,.int .i64,.int .i64] (.va 0)],0,.app 426 [.va 0,.va 1,.va 2,.va 3,.va 4,.ci 512],.tup [],[some (.arr 49 [.str,.int .i64,.int .i64,.int .i64,.int .i64,.int .i64,.int .i64] (.va 1000))],[.app 425 [.va 0,.va 2,.va 4]]⟩⟩
def L12:List HC:=[h_sym9]
def h_stab:HC:=⟨47,3,⟨[.ous 0 (.va 1) 7,.oint .i64 (.va 2),.func (.func 38) [.agg [.func (.func 34) [] []]] []],[.arr 49 [.str,.int .i64,.int .i64,.int .i64,.int .i64,.int .i64,.int .i64] (.va 0)],0,.app 428 [.va 0,.va 1,.va 2],.tup [],[some (.arr 49 [.str,.int .i64,.int .i64,.int .i64,.int .i64,.int .i64,.int .i64] (.va 1000))],[.app 425 [.va 0,.ci 0,.va 2]]⟩⟩
def L13:List HC:=[h_stab]
def h_sstab:HC:=⟨37,1,⟨[.ous 0 (.op .llen [.va 0]) 7,.func (.func 38) [.agg [.func (.func 34) [] []]] []],[.arr 49 [.str,.int .i64,.int .i64,.int .i64,.int .i64,.int .i64,.int .i64] (.va 0)],0,.op .and [.op (.cmp .leq) [.op .llen [.va 0],.ci 400],.app 431 [.va 0]],.tup [],[some (.arr 49 [.str,.int .i64,.int .i64,.int .i64,.int .i64,.int .i64,.int .i64] (.va 1000))],[.app 425 [.va 0,.ci 0,.op .llen [.va 0]]]⟩⟩
def L14:List HC:=[h_sstab]
def h_aggSort:HC:=⟨25,1,⟨[.bool false,.osl 0 (.ci 0) (.op .llen [.va 0]) 7],[.arr 4294967295 [.str,.int .i64,.int .i64,.int .i64,.int .i64,.int .i64,.int .i64] (.va 0)],1,.op .and [.op (.cmp .leq) [.op .llen [.va 0],.ci 400],.app 431 [.va 0]],.ous 1 (.op .llen [.va 1000]) 7,[some (.arr 49 [.str,.int .i64,.int .i64,.int .i64,.int .i64,.int .i64,.int .i64] (.va 1000))],[.app 490 [.va 0]]⟩⟩
def h_aggSortB:HC:=⟨25,2,⟨[.bool false,.ous 0 (.va 0) 7],[.bag 49 [.str,.int .i64,.int .i64,.int .i64,.int .i64,.int .i64,.int .i64] (.va 1)],1,.op .and [.op (.cmp .eql) [.va 0,.op .llen [.va 1]],.op .and [.op .and [.op (.cmp .leq) [.op .llen [.va 1],.ci 400],.app 431 [.va 1]],.app 491 [.va 1]]],.ous 1 (.op .llen [.va 1000]) 7,[some (.arr 49 [.str,.int .i64,.int .i64,.int .i64,.int .i64,.int .i64,.int .i64] (.va 1000))],[.app 490 [.va 1]]⟩⟩
def L15:List HC:=[h_aggSort,h_aggSortB]
def h_trows:HC:=⟨8,5,⟨[.ptr 0 0],[.cells 63 0 [.oint .u8 (.va 0),.oint .i64 (.va 1),.oint .i64 (.va 2),.oint .i64 (.va 3),.map 1],.marr false [.str,.int .i64,.int .i64] [.int .i64,.int .i64,.int .i64,.int .i64] (.va 4)],2,.op .and [.op .and [.op (.cmp .leq) [.op .llen [.va 4],.ci 400],.app 431 [.va 4]],.app 491 [.va 4]],.ous 2 (.op .llen [.va 1000]) 7,[some (.arr 49 [.str,.int .i64,.int .i64,.int .i64,.int .i64,.int .i64,.int .i64] (.va 1000))],[.app 490 [.va 4]]⟩⟩
def h_tget:HC:=⟨13,8,⟨[.ptr 0 0,.agg [.ostr (.va 5),.oint .i64 (.va 6),.oint .i64 (.va 7)]],[.cells 63 0 [.oint .u8 (.va 0),.oint .i64 (.va 1),.oint .i64 (.va 2),.oint .i64 (.va 3),.map 1],.marr false [.str,.int .i64,.int .i64] [.int .i64,.int .i64,.int .i64,.int .i64] (.va 4)],2,.op (.cmp .leq) [.op .llen [.va 4],.ci 1000000],.tup [.agg [.oint .i64 (.va 1000),.oint .i64 (.va 1001),.oint .i64 (.va 1002),.oint .i64 (.va 1003)],.obool (.va 1004)],[],[.op .lget [.app 721 [.va 4,.va 5,.va 6,.va 7],.ci 0,.ci 0],.op .lget [.app 721 [.va 4,.va 5,.va 6,.va 7],.ci 0,.ci 1],.op .lget [.app 721 [.va 4,.va 5,.va 6,.va 7],.ci 0,.ci 2],.op .lget [.app 721 [.va 4,.va 5,.va 6,.va 7],.ci 0,.ci 3],.app 722 [.va 4,.va 5,.va 6,.va 7]]⟩⟩
def h_tsess:HC:=⟨50,6,⟨[.ptr 0 0,.ostr (.va 5)],[.cells 63 0 [.oint .u8 (.va 0),.oint .i64 (.va 1),.oint .i64 (.va 2),.oint .i64 (.va 3),.map 1],.marr false [.str,.int .i64,.int .i64] [.int .i64,.int .i64,.int .i64,.int .i64] (.va 4)],2,.op .and [.op (.cmp .leq) [.op .llen [.va 4],.ci 400],.app 491 [.va 4]],.ous 2 (.op .llen [.va 1000]) 2,[some (.arr 100 [.int .i64,.int .i64] (.va 1000))],[.app 723 [.va 4,.va 5]]⟩⟩
def L16:List HC:=[h_trows,h_tget,h_tsess]
def h_joined:HC:=⟨40,9,⟨[.ptr 0 0,.agg [.oint .u8 (.va 5),.ostr (.va 6),.oint .i64 (.va 7),.oint .i64 (.va 8)]],[.cells 63 0 [.oint .u8 (.va 0),.oint .i64 (.va 1),.oint .i64 (.va 2),.oint .i64 (.va 3),.map 1],.marr false [.str,.int .i64,.int .i64] [.int .i64,.int .i64,.int .i64,.int .i64] (.va 4)],2,.op .and [.op (.cmp .leq) [.op .llen [.va 4],.ci 24],.app 491 [.va 4]],.tup [.ous 2 (.op .llen [.va 1003]) 3,.agg [.ostr (.va 1000),.oint .i64 (.va 1001),.oint .i64 (.va 1002)]],[some (.arr 47 [.str,.int .i64,.int .i64] (.va 1003))],[.op .lget [.app 725 [.va 3,.va 4,.va 6,.va 7],.ci 0,.ci 0],.op .lget [.app 725 [.va 3,.va 4,.va 6,.va 7],.ci 0,.ci 1],.op .lget [.app 725 [.va 3,.va 4,.va 6,.va 7],.ci 0,.ci 2],.app 724 [.va 3,.va 4,.va 6,.va 7]]⟩⟩
def L17:List HC:=[h_joined]
def h_sess:HC:=⟨27,9,⟨[.ptr 0 0,.agg [.oint .u8 (.va 5),.ostr (.va 6),.oint .i64 (.va 7),.oint .i64 (.va 8)]],[.cells 63 0 [.oint .u8 (.va 0),.oint .i64 (.va 1),.oint .i64 (.va 2),.oint .i64 (.va 3),.map 1],.marr false [.str,.int .i64,.int .i64] [.int .i64,.int .i64,.int .i64,.int .i64] (.va 4)],2,.op .and [.op (.cmp .leq) [.op .llen [.va 4],.ci 24],.app 491 [.va 4]],.tup [.ous 2 (.op .llen [.va 1001]) 3,.ous 3 (.op .llen [.va 1002]) 7,.oint .i64 (.va 1000)],[some (.arr 47 [.str,.int .i64,.int .i64] (.va 1001)),some (.arr 49 [.str,.int .i64,.int .i64,.int .i64,.int .i64,.int .i64,.int .i64] (.va 1002))],[.app 729 [.va 3,.va 4,.va 6,.va 7,.va 8],.app 727 [.va 3,.va 4,.va 6,.va 7,.va 8],.app 728 [.va 3,.va 4,.va 6,.va 7,.va 8]]⟩⟩
def L18:List HC:=[h_sess]
def h_try:HC:=⟨9,9,⟨[.ptr 0 0,.agg [.oint .u8 (.va 5),.ostr (.va 6),.oint .i64 (.va 7),.oint .i64 (.va 8)]],[.cells 63 0 [.oint .u8 (.va 0),.oint .i64 (.va 1),.oint .i64 (.va 2),.oint .i64 (.va 3),.map 1],.marr false [.str,.int .i64,.int .i64] [.int .i64,.int .i64,.int .i64,.int .i64] (.va 4)],2,.op .and [.op .and [.op .and [.op (.cmp .leq) [.op .llen [.va 4],.ci 400],.app 431 [.va 4]],.app 491 [.va 4]],.app 739 [.va 0,.va 4,.va 6]],.tup [.ous 2 (.op .llen [.va 1001]) 3,.ous 3 (.op .llen [.va 1002]) 7,.oint .i64 (.va 1000)],[some (.arr 47 [.str,.int .i64,.int .i64] (.va 1001)),some (.arr 49 [.str,.int .i64,.int .i64,.int .i64,.int .i64,.int .i64,.int .i64] (.va 1002))],[.app 732 [.va 0,.va 1,.va 2,.va 3,.va 4,.va 5,.va 6,.va 7,.va 8],.app 730 [.va 0,.va 1,.va 2,.va 3,.va 4,.va 5,.va 6,.va 7,.va 8],.app 731 [.va 0,.va 1,.va 2,.va 3,.va 4,.va 5,.va 6,.va 7,.va 8]]⟩⟩
def L19:List HC:=[h_try]
def h_put:HC:=⟨10,9,⟨[.ptr 0 0,.agg [.oint .u8 (.va 5),.ostr (.va 6),.oint .i64 (.va 7),.oint .i64 (.va 8)]],[.cells 63 0 [.oint .u8 (.va 0),.oint .i64 (.va 1),.oint .i64 (.va 2),.oint .i64 (.va 3),.map 1],.marr false [.str,.int .i64,.int .i64] [.int .i64,.int .i64,.int .i64,.int .i64] (.va 4)],1,.op .and [.op .and [.op .and [.op (.cmp .leq) [.op .llen [.va 4],.ci 400],.app 431 [.va 4]],.app 491 [.va 4]],.app 739 [.va 0,.va 4,.va 6]],.oint .i64 (.va 1000),[some (.marr false [.str,.int .i64,.int .i64] [.int .i64,.int .i64,.int .i64,.int .i64] (.va 1001))],[.app 732 [.va 0,.va 1,.va 2,.va 3,.va 4,.va 5,.va 6,.va 7,.va 8],.app 733 [.va 0,.va 1,.va 2,.va 3,.va 4,.va 5,.va 6,.va 7,.va 8]]⟩⟩
def L20:List HC:=[h_put]
def h_few:HC:=⟨4,2,⟨[.osl 0 (.ci 0) (.op .llen [.va 0]) 4,.oint .i64 (.va 1)],[.arr 4294967295 [.int .u8,.str,.int .i64,.int .i64] (.va 0)],1,.cb true,.obool (.va 1000),[],[.app 734 [.va 0,.va 1]]⟩⟩
def h_aRight:HC:=⟨14,4,⟨[.agg [.oint .i64 (.va 0),.oint .i64 (.va 1),.oint .i64 (.va 2),.oint .i64 (.va 3)]],[],0,.cb true,.obool (.va 1000),[],[.app 735 [.va 0,.va 1,.va 2,.va 3]]⟩⟩
def h_aBlank:HC:=⟨15,4,⟨[.agg [.oint .i64 (.va 0),.oint .i64 (.va 1),.oint .i64 (.va 2),.oint .i64 (.va 3)]],[],0,.cb true,.obool (.va 1000),[],[.app 736 [.va 0,.va 1,.va 2,.va 3]]⟩⟩
def h_pick:HC:=⟨16,2,⟨[.oint .i64 (.va 0),.oint .i64 (.va 1)],[],0,.cb true,.oint .i64 (.va 1000),[],[.app 737 [.va 0,.va 1]]⟩⟩
def L21:List HC:=[h_few,h_aRight,h_aBlank,h_pick]
def h_order:HC:=⟨3,6,⟨[.agg [.oint .u8 (.va 0),.oint .i64 (.va 1),.oint .i64 (.va 2),.oint .i64 (.va 3)],.osl 0 (.ci 0) (.op .llen [.va 4]) 4,.oint .i64 (.va 5)],[.arr 4294967295 [.int .u8,.str,.int .i64,.int .i64] (.va 4)],1,.app 738 [.va 0,.va 1,.va 2,.va 3,.va 4,.va 5],.obool (.va 1000),[],[.cb true]⟩⟩
def L22:List HC:=[h_order]
theorem names:(Tryz.prog.funcs.toList.all fun fn=> !(fn.name== "runtime.NumGoroutine"))=true:=by kernel_rfl
theorem ext81: ∃fn:Func,Tryz.prog.funcs[81]? =some fn∧fn.body=none∧Extern.findNext fn=none∧Extern.find fn=some (Ext.overlaps 99 4).model:=
 ⟨_,Tryz.func81,by kernel_rfl,by kernel_rfl,by kernel_rfl⟩
theorem env0_ok(ω:Opq)(hω: ∀t,ω.fix t=aG2 Tryz.prog t):env0.Ok ω:=by
 refine⟨hω,fun f fn h=> ?_,fun f e h=> ?_,fun _ _ _ _ h=>(by cases h),fun _ _ _ h=>(by cases h),fun _ _ _ h=>(by cases h),fun _ _ _ _ _ h=>(by cases h)⟩
 ·have h1:=j5.1 names fn (by
   obtain⟨h2,rfl⟩:=O3.1 h
   exact Array.mem_toList_iff.2 (Array.getElem_mem h2))
  simpa using h1
 ·have h:(bif Nat.beq f 81 then some (.overlaps 99 4)else none:Option Ext)=some e:=h
  cases hf81:Nat.beq f 81 with
  |true=>
   rw[hf81]at h
   obtain rfl:f=81:=by simpa using hf81
   cases h
   exact ext81
  |false=>
   rw[hf81]at h
   simp only[cond_false]at h
   cases h
theorem env_ok(ω:Opq)(hω: ∀t,ω.fix t=aG2 Tryz.prog t):env.Ok ω:=
 let h:=env0_ok ω hω
 ⟨h.fix,h.name,h.ext,h.bin,h.un,h.conv,h.blt⟩
theorem envC_ok(ω:Opq)(hω: ∀t,ω.fix t=aG2 Tryz.prog t):envC.Ok ω:=
 let h:=env0_ok ω hω
 ⟨h.fix,h.name,h.ext,h.bin,h.un,h.conv,h.blt⟩
theorem orders:Tryz.prog.follows .mixedOrders=true:=by kernel_rfl
noncomputable def H0:List HC:=[]
noncomputable def H1:List HC:=L0++H0
noncomputable def H2:List HC:=L1++H1
noncomputable def H3:List HC:=L2++H2
noncomputable def H4:List HC:=L3++H3
noncomputable def H5:List HC:=L4++H4
noncomputable def H6:List HC:=L5++H5
noncomputable def H7:List HC:=L6++H6
noncomputable def H8:List HC:=L7++H7
noncomputable def H9:List HC:=L8++H8
noncomputable def H10:List HC:=L9++H9
noncomputable def H11:List HC:=L10++H10
noncomputable def H12:List HC:=L11++H11
noncomputable def H13:List HC:=L12++H12
noncomputable def H14:List HC:=L13++H13
noncomputable def H15:List HC:=L14++H14
noncomputable def H16:List HC:=L15++H15
noncomputable def H17:List HC:=L16++H16
noncomputable def H18:List HC:=L17++H17
noncomputable def H19:List HC:=L18++H18
noncomputable def H20:List HC:=L19++H19
noncomputable def H21:List HC:=L20++H20
noncomputable def H22:List HC:=L21++H21
def T_works:VT:= .both (.both (.both (.both (.ret 0 [.cb true]) (.ret 0 [.cb true])) (.both (.ret 0 [.cb true]) (.ret 0 [.cb true]))) (.both (.both (.ret 0 [.cb true]) (.ret 0 [.cb true])) (.both (.ret 0 [.cb true]) (.ret 0 [.cb true])))) (.both (.both (.both (.ret 0 [.cb true]) (.ret 0 [.cb true])) (.both (.ret 0 [.cb true]) (.ret 0 [.cb true]))) (.both (.both (.ret 0 [.cb true]) (.ret 0 [.cb true])) (.both (.ret 0 [.cb true]) (.ret 0 [.cb true]))))
theorem r_works:FC.run env0 1000000 h_works.f h_works.c h_works.c.args=T_works:=by kernel_rfl
theorem r_wRight:FC.run (env.hooks H1) 1000000 h_wRight.f h_wRight.c h_wRight.c.args=S9.T_wRight:=by kernel_rfl
theorem r_evRight0:FC.run (env.hooks H1) 1000000 h_evRight.f h_evRight.c a_evRight0=S9.T_evRight0:=by kernel_rfl
theorem r_evRight1:FC.run (env.hooks H1) 1000000 h_evRight.f h_evRight.c a_evRight1=S9.T_evRight1:=by kernel_rfl
theorem r_evRight2:FC.run (env.hooks H1) 1000000 h_evRight.f h_evRight.c a_evRight2=S9.T_evRight2:=by kernel_rfl
theorem r_numSum:FC.run (env.hooks H1) 1000000 h_numSum.f h_numSum.c h_numSum.c.args=S9.T_numSum:=by kernel_rfl
theorem r_sameR:FC.run (env.hooks H1) 1000000 h_sameR.f h_sameR.c h_sameR.c.args=b74:=by kernel_rfl
theorem r_down:FC.run (env.hooks H1) 1000000 h_down.f h_down.c h_down.c.args=S9.T_down:=by kernel_rfl
theorem r_sRight:FC.run (env.hooks H1) 1000000 h_sRight.f h_sRight.c h_sRight.c.args=S9.T_sRight:=by kernel_rfl
theorem r_spanP:FC.run (env.hooks H1) 1000000 h_spanP.f h_spanP.c h_spanP.c.args=S9.T_spanP:=by kernel_rfl
theorem r_cloneR:FC.run (env.hooks H1) 1000000 h_cloneR.f h_cloneR.c h_cloneR.c.args=ax2:=by kernel_rfl
theorem r_swapR:FC.run (env.hooks H1) 1000000 h_swapR.f h_swapR.c h_swapR.c.args=b72:=by kernel_rfl
theorem r_cmpR:FC.run (env.hooks H1) 1000000 h_cmpR.f h_cmpR.c h_cmpR.c.args=bk5:=by kernel_rfl
theorem r_rotC:FC.run (env.hooks H2) 1000000 h_rotC.f h_rotC.c h_rotC.c.args=bH1:=by kernel_rfl
theorem r_wOf:FC.run (env.hooks H2) 1000000 h_wOf.f h_wOf.c h_wOf.c.args=S9.T_wOf:=by kernel_rfl
theorem r_join:FC.run (env.hooks H2) 1000000 h_join.f h_join.c h_join.c.args=S9.T_join:=by kernel_rfl
theorem r_sinsert:FC.run (env.hooks H2) 1000000 h_sinsert.f h_sinsert.c h_sinsert.c.args=S9.T_sinsert:=by kernel_rfl
theorem r_insC:FC.run (env.hooks H3) 1000000 h_insC.f h_insC.c h_insC.c.args=bH2:=by kernel_rfl
theorem r_aput:FC.run (env.hooks H3) 1000000 h_aput.f h_aput.c h_aput.c.args=S9.T_aput:=by kernel_rfl
theorem r_sym1:FC.run (env.hooks H4) 1000000 h_sym1.f h_sym1.c h_sym1.c.args=af2 1:=by kernel_rfl
theorem r_sym2:FC.run (env.hooks H5) 1000000 h_sym2.f h_sym2.c h_sym2.c.args=af2 2:=by kernel_rfl
theorem r_sym3:FC.run (env.hooks H6) 1000000 h_sym3.f h_sym3.c h_sym3.c.args=af2 4:=by kernel_rfl
theorem r_sym4:FC.run (env.hooks H7) 1000000 h_sym4.f h_sym4.c h_sym4.c.args=af2 8:=by kernel_rfl
theorem r_sym5:FC.run (env.hooks H8) 1000000 h_sym5.f h_sym5.c h_sym5.c.args=af2 16:=by kernel_rfl
theorem r_sym6:FC.run (env.hooks H9) 1000000 h_sym6.f h_sym6.c h_sym6.c.args=af2 32:=by kernel_rfl
theorem r_sym7:FC.run (env.hooks H10) 1000000 h_sym7.f h_sym7.c h_sym7.c.args=af2 64:=by kernel_rfl
theorem r_sym8:FC.run (env.hooks H11) 1000000 h_sym8.f h_sym8.c h_sym8.c.args=af2 128:=by kernel_rfl
theorem r_sym9:FC.run (env.hooks H12) 1000000 h_sym9.f h_sym9.c h_sym9.c.args=af2 256:=by kernel_rfl
theorem r_stab:FC.run (env.hooks H13) 1000000 h_stab.f h_stab.c h_stab.c.args=bH8:=by kernel_rfl
theorem r_sstab:FC.run (env.hooks H14) 1000000 h_sstab.f h_sstab.c h_sstab.c.args=b73:=by kernel_rfl
theorem r_aggSort:FC.run (env.hooks H15) 1000000 h_aggSort.f h_aggSort.c h_aggSort.c.args=ax7:=by kernel_rfl
theorem r_trows:FC.run (env.hooks H16) 1000000 h_trows.f h_trows.c h_trows.c.args=S9.T_trows:=by kernel_rfl
theorem r_tget:FC.run (env.hooks H16) 1000000 h_tget.f h_tget.c h_tget.c.args=S9.T_tget:=by kernel_rfl
theorem r_tsess:FC.run (env.hooks H16) 1000000 h_tsess.f h_tsess.c h_tsess.c.args=S9.T_tsess:=by kernel_rfl
theorem r_joined:FC.run (env.hooks H17) 1000000 h_joined.f h_joined.c h_joined.c.args=S9.T_joined:=by kernel_rfl
theorem r_sess:FC.run (env.hooks H18) 1000000 h_sess.f h_sess.c h_sess.c.args=S9.T_sess:=by kernel_rfl
theorem r_try:FC.run (env.hooks H19) 1000000 h_try.f h_try.c h_try.c.args=S9.T_tryE:=by kernel_rfl
theorem r_put:FC.run (env.hooks H20) 1000000 h_put.f h_put.c h_put.c.args=S9.T_put:=by kernel_rfl
theorem r_few:FC.run (env.hooks H21) 1000000 h_few.f h_few.c h_few.c.args=S9.T_few:=by kernel_rfl
theorem r_aRight:FC.run (env.hooks H21) 1000000 h_aRight.f h_aRight.c h_aRight.c.args=S9.T_aRight:=by kernel_rfl
theorem r_aBlank:FC.run (env.hooks H21) 1000000 h_aBlank.f h_aBlank.c h_aBlank.c.args=S9.T_aBlank:=by kernel_rfl
theorem r_pick:FC.run (env.hooks H21) 1000000 h_pick.f h_pick.c h_pick.c.args=S9.T_pick:=by kernel_rfl
theorem r_order:FC.run (env.hooks H22) 1000000 h_order.f h_order.c h_order.c.args=S9.T_order:=by kernel_rfl
def Om(ω:Opq):Prop:=OmF F Tryz.prog ω
theorem om_upd(ω:Opq)(v0:Nat)(l:List Val)(h:Om ω):Om (ω.upd v0 l):=h
theorem om_f{ω:Opq}(h:Om ω): ∀i a,ω.f i a=F i a:=fun i a=>by rw[h.1]
theorem e_ok(ω:Opq)(h:Om ω):env.Ok ω:=env_ok ω h.2
theorem e0_ok(ω:Opq)(h:Om ω):env0.Ok ω:=env0_ok ω h.2
theorem eC_ok(ω:Opq)(h:Om ω):envC.Ok ω:=envC_ok ω h.2
theorem VRs_kind{β:Bij}{ω:Opq}{us:List Value}{k:IntKind}{n:Nat}{i:Int}{r:List AV}(h:(ω.w n).toI=i)(hv:VRs β ω [.agg (.oint k (.va n)::r)] us):VRs β ω [.agg (.int k i::r)] us:=by
 obtain⟨v,vr,e,⟨xs,e2,u,ur,e3,p1,p2⟩,q⟩:=hv
 refine⟨v,vr,e,⟨xs,e2,u,ur,e3,?_,p2⟩,q⟩
 show u= .int k i
 rw[←h];exact p1
theorem h0_ok: ∀x∈H0,V0 env Om x:=fun x hx=>by cases hx
theorem k_works:V0 env Om h_works:=
 S0 (E:=env0) (cs:=[]) om_upd e0_ok orders (fun x hx=>by cases hx) (n:=1000000) (by kernel_rfl) (S3 (T:=T_works) r_works fun ω hω hn=>by
   exact(S9.allT_ok (t:=T_works) (by kernel_rfl)).trans (by simp only[h_works,Q4,den]))
theorem l0_ok: ∀x∈L0,V0 env Om x:=by
 exact T5 (fun x hx=>(by cases hx)) k_works
theorem h1_ok: ∀x∈H1,V0 env Om x:=a07 h0_ok l0_ok
theorem k_wRight:V0 env Om h_wRight:=
 S0 (E:=env) (cs:=H1) om_upd e_ok orders h1_ok (n:=1000000) (by kernel_rfl) (S3 (T:=S9.T_wRight) r_wRight fun ω hω hn=>by
   exact(S9.t_wRight).trans (congrArg some (congrArg (Prod.mk 0) (by simp only[h_wRight,Q4,den,X5,om_f hω]<;>rfl))))
theorem k_evRight:V0 env Om h_evRight:=
 S0 (E:=env) (cs:=H1) om_upd e_ok orders h1_ok (n:=1000000) (by kernel_rfl) (fun ω hω hn=>by
   by_cases hk:(ω.w 0).toI=1∨(ω.w 0).toI=2
   ·rcases hk with e|e
    ·exact⟨a_evRight1,fun β us h=>VRs_kind e h,by rw[r_evRight1];exact(S9.t_evRight1 (X:=F0) e).trans (congrArg some (congrArg (Prod.mk 0) (by simp only[h_evRight,Q4,den,X5,om_f hω]<;>rfl)))⟩
    ·exact⟨a_evRight2,fun β us h=>VRs_kind e h,by rw[r_evRight2];exact(S9.t_evRight2 (X:=F0) e).trans (congrArg some (congrArg (Prod.mk 0) (by simp only[h_evRight,Q4,den,X5,om_f hω]<;>rfl)))⟩
   ·exact⟨a_evRight0,fun β us h=>h,by rw[r_evRight0];exact(S9.t_evRight0 (X:=F0) (by omega)).trans (congrArg some (congrArg (Prod.mk 0) (by simp only[h_evRight,Q4,den,X5,om_f hω]<;>rfl)))⟩)
theorem k_numSum:V0 env Om h_numSum:=
 S0 (E:=env) (cs:=H1) om_upd e_ok orders h1_ok (n:=1000000) (by kernel_rfl) (S3 (T:=S9.T_numSum) r_numSum fun ω hω hn=>by
   have hn:decide (((ω.w 0).toL.length:Int)≤1000000)=true:=hn
   have hn:=of_decide_eq_true hn
   exact(S9.t_numSum (om_f hω) (by omega)).trans (congrArg some (congrArg (Prod.mk 0) (by simp only[h_numSum,Q4,den,X5,om_f hω]<;>rfl))))
theorem k_sameR:V0 env Om h_sameR:=
 S0 (E:=env) (cs:=H1) om_upd e_ok orders h1_ok (n:=1000000) (by kernel_rfl) (S3 (T:=b74) r_sameR fun ω hω hn=>by
   have hn:decide (((ω.w 0).toL.length:Int)≤1000000)=true:=hn
   have hn:=of_decide_eq_true hn
   exact(cU2 (om_f hω) (by omega)).trans (congrArg some (congrArg (Prod.mk 0) (by simp only[h_sameR,Q4,den,X5,om_f hω]<;>rfl))))
theorem k_down:V0 env Om h_down:=
 S0 (E:=env) (cs:=H1) om_upd e_ok orders h1_ok (n:=1000000) (by kernel_rfl) (S3 (T:=S9.T_down) r_down fun ω hω hn=>by
   have hn:((decide (1≤(ω.w 1).toI)&&decide ((ω.w 1).toI≤1048576))&&(decide (-1099511627776≤(ω.w 0).toI)&&decide ((ω.w 0).toI≤1099511627776)))=true:=hn
   obtain⟨h1,h2⟩:=P8 hn
   obtain⟨h3,h4⟩:=P8 h1
   obtain⟨h5,h6⟩:=P8 h2
   exact(S9.t_down (of_decide_eq_true h3) (of_decide_eq_true h4) (of_decide_eq_true h5) (of_decide_eq_true h6)).trans (congrArg some (congrArg (Prod.mk 0) (by simp only[h_down,Q4,den,X5,om_f hω]<;>rfl))))
theorem k_sRight:V0 env Om h_sRight:=
 S0 (E:=env) (cs:=H1) om_upd e_ok orders h1_ok (n:=1000000) (by kernel_rfl) (S3 (T:=S9.T_sRight) r_sRight fun ω hω hn=>by
   exact(S9.t_sRight (om_f hω) hn).trans (congrArg some (congrArg (Prod.mk 0) (by simp only[h_sRight,Q4,den,X5,om_f hω]<;>rfl))))
theorem k_spanP:V0 env Om h_spanP:=
 S0 (E:=env) (cs:=H1) om_upd e_ok orders h1_ok (n:=1000000) (by kernel_rfl) (S3 (T:=S9.T_spanP) r_spanP fun ω hω hn=>by
   exact(S9.t_spanP).trans (congrArg some (congrArg (Prod.mk 0) (by simp only[h_spanP,Q4,den,X5,om_f hω]<;>rfl))))
noncomputable def insN(n:Nat):Bool:=(List.range (n+1)).all fun j=>bj5 envC 1000000 67 100 (bj4 100 (.app 713 [.va 0,.va 1,.va 2,.va 3,.va 4]) (.app 714 [.va 0,.va 1,.va 2,.va 3,.va 4])) [.us 1 0 n 2,.int .i64 (j:Int),.sl 0 0 1 1] n j
theorem upS{P:Nat→Prop}{n:Nat}(h: ∀i,i<n→P i)(hn:P n): ∀i,i<n+1→P i:=fun i hi=>by
 by_cases c:i<n
 ·exact h i c
 ·obtain rfl:i=n:=by omega
  exact hn
theorem insNil:bj5 envC 1000000 67 100 (bj4 100 (.app 713 [.va 0,.va 1,.va 2,.va 3,.va 4]) (.app 714 [.va 0,.va 1,.va 2,.va 3,.va 4])) [.nils,.int .i64 0,.sl 0 0 1 1] 0 0=true:=by kernel_rfl
theorem insN0:insN 0=true:=by kernel_rfl
theorem insN1:insN 1=true:=by kernel_rfl
theorem insN2:insN 2=true:=by kernel_rfl
theorem insN3:insN 3=true:=by kernel_rfl
theorem insN4:insN 4=true:=by kernel_rfl
theorem insN5:insN 5=true:=by kernel_rfl
theorem insN6:insN 6=true:=by kernel_rfl
theorem insN7:insN 7=true:=by kernel_rfl
theorem insN8:insN 8=true:=by kernel_rfl
theorem insN9:insN 9=true:=by kernel_rfl
theorem insN10:insN 10=true:=by kernel_rfl
theorem insN11:insN 11=true:=by kernel_rfl
theorem insN12:insN 12=true:=by kernel_rfl
theorem insN13:insN 13=true:=by kernel_rfl
theorem insN14:insN 14=true:=by kernel_rfl
theorem insN15:insN 15=true:=by kernel_rfl
theorem insN16:insN 16=true:=by kernel_rfl
theorem insN17:insN 17=true:=by kernel_rfl
theorem insN18:insN 18=true:=by kernel_rfl
theorem insN19:insN 19=true:=by kernel_rfl
theorem insN20:insN 20=true:=by kernel_rfl
theorem insN21:insN 21=true:=by kernel_rfl
theorem insN22:insN 22=true:=by kernel_rfl
theorem insN23:insN 23=true:=by kernel_rfl
theorem insN24:insN 24=true:=by kernel_rfl
theorem run_sins:cC8 envC 1000000 67 100 (bj4 100 (.app 713 [.va 0,.va 1,.va 2,.va 3,.va 4]) (.app 714 [.va 0,.va 1,.va 2,.va 3,.va 4])) 24=true:=
 Bool.and_eq_true_iff.2 ⟨insNil,j5.2 fun n hn=>(upS (upS (upS (upS (upS (upS (upS (upS (upS (upS (upS (upS (upS (upS (upS (upS (upS (upS (upS (upS (upS (upS (upS (upS (upS (fun i hi=>absurd hi (Nat.not_lt_zero i)) insN0) insN1) insN2) insN3) insN4) insN5) insN6) insN7) insN8) insN9) insN10) insN11) insN12) insN13) insN14) insN15) insN16) insN17) insN18) insN19) insN20) insN21) insN22) insN23) insN24: ∀i,i<24+1→insN i=true) n (s9.1 hn)⟩
theorem k_sins:V0 env Om h_sins:=
 (b68 (E:=env) om_upd (nv:=5) (by kernel_rfl) (cO8 (E:=env) (Ec:=envC) (N:=1000000) (M:=24) (f:=67) (e:=100) rfl (fun ω hω=>((c78 (E:=envC) om_upd eC_ok (fun ω hω=>bu4 fun _ _ _=>rfl) orders 1000000 ω hω).1 _ (e8 _)).1) (by decide) (fun ω hω=>(hω.2 100).trans (by kernel_rfl)) run_sins (fun ω hω hn=>S9.sins_ok (om_f hω) hn)):V0 env Om ⟨67,5,(bj4 100 (.app 713 [.va 0,.va 1,.va 2,.va 3,.va 4]) (.app 714 [.va 0,.va 1,.va 2,.va 3,.va 4]))⟩)
def sortRen:Go.Shelf.Ren:=⟨fun|6=>68|15=>84|14=>83|28=>102|29=>103|20=>94|21=>95|22=>96|23=>97|24=>98|25=>99|26=>100|27=>101|46=>110|47=>111|48=>112|49=>113|50=>114|57=>115|n=>n,fun|22=>99|24=>100|25=>114|3=>3|39=>118|0=>0|53=>153|55=>137|4=>4|46=>147|45=>146|50=>112|5=>5|9=>9|66=>161|70=>164|76=>166|77=>167|n=>n,fun|n=>n⟩
theorem sortLays:Go.Proofs.SlLaysF0.n6 Tryz.prog sortRen:={
 mixed:=by kernel_rfl
 f6:=⟨Tryz.f68.name,by decide,Tryz.func68.trans (congrArg some (by kernel_rfl))⟩
 f14:=⟨Tryz.f83.name,by decide,Tryz.func83.trans (congrArg some (by kernel_rfl))⟩
 f15:=Tryz.func84.trans (congrArg some (by kernel_rfl))
 f20:=⟨Tryz.f94.name,by decide,Tryz.func94.trans (congrArg some (by kernel_rfl))⟩
 f21:=⟨Tryz.f95.name,by decide,Tryz.func95.trans (congrArg some (by kernel_rfl))⟩
 f22:=⟨Tryz.f96.name,by decide,Tryz.func96.trans (congrArg some (by kernel_rfl))⟩
 f23:=⟨Tryz.f97.name,by decide,Tryz.func97.trans (congrArg some (by kernel_rfl))⟩
 f24:=⟨Tryz.f98.name,by decide,Tryz.func98.trans (congrArg some (by kernel_rfl))⟩
 f25:=⟨Tryz.f99.name,by decide,Tryz.func99.trans (congrArg some (by kernel_rfl))⟩
 f26:=⟨Tryz.f100.name,by decide,Tryz.func100.trans (congrArg some (by kernel_rfl))⟩
 f27:=⟨Tryz.f101.name,by decide,Tryz.func101.trans (congrArg some (by kernel_rfl))⟩
 f28:=Tryz.func102.trans (congrArg some (by kernel_rfl))
 f29:=Tryz.func103.trans (congrArg some (by kernel_rfl))
 f46:=⟨Tryz.f110.name,by decide,Tryz.func110.trans (congrArg some (by kernel_rfl))⟩
 f47:=Tryz.func111.trans (congrArg some (by kernel_rfl))
 f48:=Tryz.func112.trans (congrArg some (by kernel_rfl))
 f49:=⟨Tryz.f113.name,by decide,Tryz.func113.trans (congrArg some (by kernel_rfl))⟩
 f50:=⟨Tryz.f114.name,by decide,Tryz.func114.trans (congrArg some (by kernel_rfl))⟩
 f57:=⟨Tryz.f115.name,by decide,Tryz.func115.trans (congrArg some (by kernel_rfl))⟩
 t0:=Tryz.underlying0
 a0:=Tryz.isAgg0
 z0:=Tryz.sizeOf0
 v0:=Tryz.zeroValue0
 t3:=Tryz.underlying3
 a3:=Tryz.isAgg3
 z3:=Tryz.sizeOf3
 v3:=Tryz.zeroValue3
 t4:=Tryz.underlying4
 a4:=Tryz.isAgg4
 z4:=Tryz.sizeOf4
 v4:=Tryz.zeroValue4
 t5:=Tryz.underlying5
 a5:=Tryz.isAgg5
 z5:=Tryz.sizeOf5
 v5:=Tryz.zeroValue5
 t9:=Tryz.underlying9
 a9:=Tryz.isAgg9
 z9:=Tryz.sizeOf9
 v9:=Tryz.zeroValue9
 t22:=Tryz.underlying99
 a22:=Tryz.isAgg99
 z22:=Tryz.sizeOf99
 v22:=Tryz.zeroValue99
 t25:=Tryz.underlying114
 a25:=Tryz.isAgg114
 z25:=Tryz.sizeOf114
 v25:=Tryz.zeroValue114
 t39:=Tryz.underlying118
 a39:=Tryz.isAgg118
 z39:=Tryz.sizeOf118
 v39:=Tryz.zeroValue118
 t45:=Tryz.underlying146
 a45:=Tryz.isAgg146
 z45:=Tryz.sizeOf146
 v45:=Tryz.zeroValue146
 t46:=Tryz.underlying147
 a46:=Tryz.isAgg147
 z46:=Tryz.sizeOf147
 v46:=Tryz.zeroValue147
 t50:=Tryz.underlying112
 a50:=Tryz.isAgg112
 z50:=Tryz.sizeOf112
 v50:=Tryz.zeroValue112
 t53:=Tryz.underlying153
 a53:=Tryz.isAgg153
 z53:=Tryz.sizeOf153
 v53:=Tryz.zeroValue153
 t55:=Tryz.underlying137
 a55:=Tryz.isAgg137
 z55:=Tryz.sizeOf137
 v55:=Tryz.zeroValue137
 t66:=Tryz.underlying161
 a66:=Tryz.isAgg161
 z66:=Tryz.sizeOf161
 v66:=Tryz.zeroValue161
 t70:=Tryz.underlying164
 a70:=Tryz.isAgg164
 z70:=Tryz.sizeOf164
 v70:=Tryz.zeroValue164
 t76:=Tryz.underlying166
 a76:=Tryz.isAgg166
 z76:=Tryz.sizeOf166
 v76:=Tryz.zeroValue166
 t77:=Tryz.underlying167
 a77:=Tryz.isAgg167
 z77:=Tryz.sizeOf167
 v77:=Tryz.zeroValue167}
noncomputable def om0:Opq:=⟨ω0.v,ω0.w,F,ω0.one,aG2 Tryz.prog,fun _=>none⟩
theorem omF_mk(G:Nat→List Val→Val)(P:Program):OmF G P ⟨ω0.v,ω0.w,G,ω0.one,aG2 P,fun _=>none⟩:=⟨rfl,fun _=>rfl⟩
theorem om0_ok:Om om0:=omF_mk F Tryz.prog
theorem k_cmp:cv3 Tryz.prog 69 [.int .i64,.int .i64] S9.spanV:=
 d55 (E:=env) om_upd om0_ok k_spanP (x:= .app 712 [.va 0,.va 1,.va 2,.va 3]) (h2:=Heap.empty) (by kernel_rfl) (fun ω hω a b ha hb=>by
   have a0:ω.w 0=a.toL.getD 0 default:=ha 0 (by decide)
   have a1:ω.w 1=a.toL.getD 1 default:=ha 1 (by decide)
   have b0:ω.w 2=b.toL.getD 0 default:=hb 0 (by decide)
   have b1:ω.w 3=b.toL.getD 1 default:=hb 1 (by decide)
   show(ω.f 712 [ω.w 0,ω.w 1,ω.w 2,ω.w 3]).toI=_
   rw[om_f hω,a0,a1,b0,b1];rfl)
theorem k_SORTS:V0 env Om h_SORTS:=
 (b68 (E:=env) om_upd (nv:=2) (by kernel_rfl) (cO2 (E:=env) sortLays (f:=68) rfl (g:=69) (sig:=[.int .i64,.int .i64]) (e:=100) (id:=715) (cf:=S9.spanV) Tryz.isAgg100 Tryz.sizeOf100 S9.swo_spanV (enters_of Tryz.func69 (by kernel_rfl) rfl) k_cmp (fun ω hω l=>by rw[om_f hω];rfl) (by kernel_rfl)):V0 env Om ⟨68,2,ca7 69 100 [.int .i64,.int .i64] 715⟩)
theorem k_SORTSB:V0 env Om h_SORTSB:=
 (b68 (E:=env) om_upd (nv:=2) (by kernel_rfl) (cO4 om_upd k_SORTS (g:=69) (e:=100) (sig:=[.int .i64,.int .i64]) (need:=h_SORTSB.c.need) (id:=715) (by kernel_rfl) (by kernel_rfl) (fun ω hω hn=>S9.sortsb_ok (om_f hω) hn) (by kernel_rfl)):V0 env Om ⟨68,2,dd3 69 100 [.int .i64,.int .i64] h_SORTSB.c.need 715⟩)
theorem k_cloneR:V0 env Om h_cloneR:=
 S0 (E:=env) (cs:=H1) om_upd e_ok orders h1_ok (n:=1000000) (by kernel_rfl) (S3 (T:=ax2) r_cloneR fun ω hω hn=>by
   have hn:(decide (((ω.w 0).toL.length:Int)≤400)&&(ω.f 431 [ω.w 0]).toB)=true:=hn
   obtain⟨h1,h2⟩:=P8 hn
   rw[om_f hω]at h2
   exact(S7.t_cloneR (om_f hω) (by have:=of_decide_eq_true h1;omega) h2).trans (by simp only[h_cloneR,Q4,den,om_f hω]))
theorem k_swapR:V0 env Om h_swapR:=
 S0 (E:=env) (cs:=H1) om_upd e_ok orders h1_ok (n:=1000000) (by kernel_rfl) (S3 (T:=b72) r_swapR fun ω hω hn=>by
   have hn:(ω.f 420 [ω.w 0,ω.w 1,ω.w 2,ω.w 3,ω.w 4]).toB=true:=hn
   rw[om_f hω]at hn
   exact(S7.t_swapR (om_f hω) hn).trans (by simp only[h_swapR,Q4,den,om_f hω]))
theorem k_cmpR:V0 env Om h_cmpR:=
 S0 (E:=env) (cs:=H1) om_upd e_ok orders h1_ok (n:=1000000) (by kernel_rfl) (S3 (T:=bk5) r_cmpR fun ω hω hn=>by
   exact S7.t_cmpR.trans (by simp only[h_cmpR,Q4,den,om_f hω]))
theorem l1_ok: ∀x∈L1,V0 env Om x:=by
 exact T5 (T5 (T5 (T5 (T5 (T5 (T5 (T5 (T5 (T5 (T5 (T5 (T5 (fun x hx=>(by cases hx)) k_cmpR) k_swapR) k_cloneR) k_SORTSB) k_SORTS) k_sins) k_spanP) k_sRight) k_down) k_sameR) k_numSum) k_evRight) k_wRight
theorem h2_ok: ∀x∈H2,V0 env Om x:=a07 h1_ok l1_ok
theorem k_rotC:V0 env Om h_rotC:=
 S0 (E:=env) (cs:=H2) om_upd e_ok orders h2_ok (n:=1000000) (by kernel_rfl) (S3 (T:=bH1) r_rotC fun ω hω hn=>by
   have hn:(ω.f 422 [ω.w 0,ω.w 1,ω.w 2,ω.w 3,ω.w 4]).toB=true:=hn
   rw[om_f hω]at hn
   exact(S7.t_rotC (om_f hω) hn).trans (by simp only[h_rotC,Q4,den,om_f hω]))
theorem k_wOf:V0 env Om h_wOf:=
 S0 (E:=env) (cs:=H2) om_upd e_ok orders h2_ok (n:=1000000) (by kernel_rfl) (S3 (T:=S9.T_wOf) r_wOf fun ω hω hn=>by
   exact(S9.t_wOf (om_f hω)).trans (congrArg some (congrArg (Prod.mk 0) (by simp only[h_wOf,Q4,den,X5,om_f hω]<;>rfl))))
theorem k_join:V0 env Om h_join:=
 S0 (E:=env) (cs:=H2) om_upd e_ok orders h2_ok (n:=1000000) (by kernel_rfl) (S3 (T:=S9.T_join) r_join fun ω hω hn=>by
   have hn:decide (((ω.w 0).toL.length:Int)≤1000)=true:=hn
   have hn:=of_decide_eq_true hn
   exact(S9.t_join (om_f hω) (by omega)).trans (congrArg some (congrArg (Prod.mk 0) (by simp only[h_join,Q4,den,X5,om_f hω]<;>rfl))))
theorem k_sinsert:V0 env Om h_sinsert:=
 S0 (E:=env) (cs:=H2) om_upd e_ok orders h2_ok (n:=1000000) (by kernel_rfl) (S3 (T:=S9.T_sinsert) r_sinsert fun ω hω hn=>by
   exact(S9.t_sinsert (om_f hω) hn).trans (congrArg some (congrArg (Prod.mk 0) (by simp only[h_sinsert,Q4,den,X5,om_f hω]<;>rfl))))
theorem l2_ok: ∀x∈L2,V0 env Om x:=by
 exact T5 (T5 (T5 (T5 (fun x hx=>(by cases hx)) k_sinsert) k_join) k_wOf) k_rotC
theorem h3_ok: ∀x∈H3,V0 env Om x:=a07 h2_ok l2_ok
theorem k_insC:V0 env Om h_insC:=
 S0 (E:=env) (cs:=H3) om_upd e_ok orders h3_ok (n:=1000000) (by kernel_rfl) (S3 (T:=bH2) r_insC fun ω hω hn=>by
   have hn:(ω.f 424 [ω.w 0,ω.w 1,ω.w 2,ω.w 3]).toB=true:=hn
   rw[om_f hω]at hn
   exact(S7.t_insC (om_f hω) hn).trans (by simp only[h_insC,Q4,den,om_f hω]))
theorem k_sym0:V0 env Om h_sym0:=
 S0 (E:=env) (cs:=H3) om_upd e_ok orders h3_ok (n:=1000000) (by kernel_rfl) (fun ω hω hn=>by
   have hn:(ω.f 426 [ω.w 0,ω.w 1,ω.w 2,ω.w 3,ω.w 4,.vi 1]).toB=true:=hn
   rw[om_f hω]at hn
   exact(S7.sym_vac hn).elim)
theorem k_aput:V0 env Om h_aput:=
 S0 (E:=env) (cs:=H3) om_upd e_ok orders h3_ok (n:=1000000) (by kernel_rfl) (S3 (T:=S9.T_aput) r_aput fun ω hω hn=>by
   exact(S9.t_aput (om_f hω)).trans (congrArg some (congrArg (Prod.mk 0) (by simp only[h_aput,Q4,den,X5,om_f hω]<;>rfl))))
theorem l3_ok: ∀x∈L3,V0 env Om x:=by
 exact T5 (T5 (T5 (fun x hx=>(by cases hx)) k_aput) k_sym0) k_insC
theorem h4_ok: ∀x∈H4,V0 env Om x:=a07 h3_ok l3_ok
theorem k_sym1:V0 env Om h_sym1:=
 S0 (E:=env) (cs:=H4) om_upd e_ok orders h4_ok (n:=1000000) (by kernel_rfl) (S3 (T:=af2 1) r_sym1 fun ω hω hn=>by
   have hn:(ω.f 426 [ω.w 0,ω.w 1,ω.w 2,ω.w 3,ω.w 4,.vi 2]).toB=true:=hn
   rw[om_f hω]at hn
   exact(S7.t_sym (B:=1) (om_f hω) hn).trans (by simp only[h_sym1,Q4,den,om_f hω]))
theorem l4_ok: ∀x∈L4,V0 env Om x:=by
 exact T5 (fun x hx=>(by cases hx)) k_sym1
theorem h5_ok: ∀x∈H5,V0 env Om x:=a07 h4_ok l4_ok
theorem k_sym2:V0 env Om h_sym2:=
 S0 (E:=env) (cs:=H5) om_upd e_ok orders h5_ok (n:=1000000) (by kernel_rfl) (S3 (T:=af2 2) r_sym2 fun ω hω hn=>by
   have hn:(ω.f 426 [ω.w 0,ω.w 1,ω.w 2,ω.w 3,ω.w 4,.vi 4]).toB=true:=hn
   rw[om_f hω]at hn
   exact(S7.t_sym (B:=2) (om_f hω) hn).trans (by simp only[h_sym2,Q4,den,om_f hω]))
theorem l5_ok: ∀x∈L5,V0 env Om x:=by
 exact T5 (fun x hx=>(by cases hx)) k_sym2
theorem h6_ok: ∀x∈H6,V0 env Om x:=a07 h5_ok l5_ok
theorem k_sym3:V0 env Om h_sym3:=
 S0 (E:=env) (cs:=H6) om_upd e_ok orders h6_ok (n:=1000000) (by kernel_rfl) (S3 (T:=af2 4) r_sym3 fun ω hω hn=>by
   have hn:(ω.f 426 [ω.w 0,ω.w 1,ω.w 2,ω.w 3,ω.w 4,.vi 8]).toB=true:=hn
   rw[om_f hω]at hn
   exact(S7.t_sym (B:=4) (om_f hω) hn).trans (by simp only[h_sym3,Q4,den,om_f hω]))
theorem l6_ok: ∀x∈L6,V0 env Om x:=by
 exact T5 (fun x hx=>(by cases hx)) k_sym3
theorem h7_ok: ∀x∈H7,V0 env Om x:=a07 h6_ok l6_ok
theorem k_sym4:V0 env Om h_sym4:=
 S0 (E:=env) (cs:=H7) om_upd e_ok orders h7_ok (n:=1000000) (by kernel_rfl) (S3 (T:=af2 8) r_sym4 fun ω hω hn=>by
   have hn:(ω.f 426 [ω.w 0,ω.w 1,ω.w 2,ω.w 3,ω.w 4,.vi 16]).toB=true:=hn
   rw[om_f hω]at hn
   exact(S7.t_sym (B:=8) (om_f hω) hn).trans (by simp only[h_sym4,Q4,den,om_f hω]))
theorem l7_ok: ∀x∈L7,V0 env Om x:=by
 exact T5 (fun x hx=>(by cases hx)) k_sym4
theorem h8_ok: ∀x∈H8,V0 env Om x:=a07 h7_ok l7_ok
theorem k_sym5:V0 env Om h_sym5:=
 S0 (E:=env) (cs:=H8) om_upd e_ok orders h8_ok (n:=1000000) (by kernel_rfl) (S3 (T:=af2 16) r_sym5 fun ω hω hn=>by
   have hn:(ω.f 426 [ω.w 0,ω.w 1,ω.w 2,ω.w 3,ω.w 4,.vi 32]).toB=true:=hn
   rw[om_f hω]at hn
   exact(S7.t_sym (B:=16) (om_f hω) hn).trans (by simp only[h_sym5,Q4,den,om_f hω]))
theorem l8_ok: ∀x∈L8,V0 env Om x:=by
 exact T5 (fun x hx=>(by cases hx)) k_sym5
theorem h9_ok: ∀x∈H9,V0 env Om x:=a07 h8_ok l8_ok
theorem k_sym6:V0 env Om h_sym6:=
 S0 (E:=env) (cs:=H9) om_upd e_ok orders h9_ok (n:=1000000) (by kernel_rfl) (S3 (T:=af2 32) r_sym6 fun ω hω hn=>by
   have hn:(ω.f 426 [ω.w 0,ω.w 1,ω.w 2,ω.w 3,ω.w 4,.vi 64]).toB=true:=hn
   rw[om_f hω]at hn
   exact(S7.t_sym (B:=32) (om_f hω) hn).trans (by simp only[h_sym6,Q4,den,om_f hω]))
theorem l9_ok: ∀x∈L9,V0 env Om x:=by
 exact T5 (fun x hx=>(by cases hx)) k_sym6
theorem h10_ok: ∀x∈H10,V0 env Om x:=a07 h9_ok l9_ok
theorem k_sym7:V0 env Om h_sym7:=
 S0 (E:=env) (cs:=H10) om_upd e_ok orders h10_ok (n:=1000000) (by kernel_rfl) (S3 (T:=af2 64) r_sym7 fun ω hω hn=>by
   have hn:(ω.f 426 [ω.w 0,ω.w 1,ω.w 2,ω.w 3,ω.w 4,.vi 128]).toB=true:=hn
   rw[om_f hω]at hn
   exact(S7.t_sym (B:=64) (om_f hω) hn).trans (by simp only[h_sym7,Q4,den,om_f hω]))
theorem l10_ok: ∀x∈L10,V0 env Om x:=by
 exact T5 (fun x hx=>(by cases hx)) k_sym7
theorem h11_ok: ∀x∈H11,V0 env Om x:=a07 h10_ok l10_ok
theorem k_sym8:V0 env Om h_sym8:=
 S0 (E:=env) (cs:=H11) om_upd e_ok orders h11_ok (n:=1000000) (by kernel_rfl) (S3 (T:=af2 128) r_sym8 fun ω hω hn=>by
   have hn:(ω.f 426 [ω.w 0,ω.w 1,ω.w 2,ω.w 3,ω.w 4,.vi 256]).toB=true:=hn
   rw[om_f hω]at hn
   exact(S7.t_sym (B:=128) (om_f hω) hn).trans (by simp only[h_sym8,Q4,den,om_f hω]))
theorem l11_ok: ∀x∈L11,V0 env Om x:=by
 exact T5 (fun x hx=>(by cases hx)) k_sym8
theorem h12_ok: ∀x∈H12,V0 env Om x:=a07 h11_ok l11_ok
theorem k_sym9:V0 env Om h_sym9:=
 S0 (E:=env) (cs:=H12) om_upd e_ok orders h12_ok (n:=1000000) (by kernel_rfl) (S3 (T:=af2 256) r_sym9 fun ω hω hn=>by
   have hn:(ω.f 426 [ω.w 0,ω.w 1,ω.w 2,ω.w 3,ω.w 4,.vi 512]).toB=true:=hn
   rw[om_f hω]at hn
   exact(S7.t_sym (B:=256) (om_f hω) hn).trans (by simp only[h_sym9,Q4,den,om_f hω]))
theorem l12_ok: ∀x∈L12,V0 env Om x:=by
 exact T5 (fun x hx=>(by cases hx)) k_sym9
theorem h13_ok: ∀x∈H13,V0 env Om x:=a07 h12_ok l12_ok
theorem k_stab:V0 env Om h_stab:=
 S0 (E:=env) (cs:=H13) om_upd e_ok orders h13_ok (n:=1000000) (by kernel_rfl) (S3 (T:=bH8) r_stab fun ω hω hn=>by
   have hn:(ω.f 428 [ω.w 0,ω.w 1,ω.w 2]).toB=true:=hn
   rw[om_f hω]at hn
   exact(S7.t_stab (om_f hω) hn).trans (by simp only[h_stab,Q4,den,om_f hω]))
theorem l13_ok: ∀x∈L13,V0 env Om x:=by
 exact T5 (fun x hx=>(by cases hx)) k_stab
theorem h14_ok: ∀x∈H14,V0 env Om x:=a07 h13_ok l13_ok
theorem k_sstab:V0 env Om h_sstab:=
 S0 (E:=env) (cs:=H14) om_upd e_ok orders h14_ok (n:=1000000) (by kernel_rfl) (S3 (T:=b73) r_sstab fun ω hω hn=>by
   have hn:(decide (((ω.w 0).toL.length:Int)≤400)&&(ω.f 431 [ω.w 0]).toB)=true:=hn
   obtain⟨h1,h2⟩:=P8 hn
   rw[om_f hω]at h2
   exact(S7.t_sstab (om_f hω) (by have:=of_decide_eq_true h1;omega) h2).trans (by simp only[h_sstab,Q4,den,X5,om_f hω]))
theorem l14_ok: ∀x∈L14,V0 env Om x:=by
 exact T5 (fun x hx=>(by cases hx)) k_sstab
theorem h15_ok: ∀x∈H15,V0 env Om x:=a07 h14_ok l14_ok
theorem k_aggSort:V0 env Om h_aggSort:=
 S0 (E:=env) (cs:=H15) om_upd e_ok orders h15_ok (n:=1000000) (by kernel_rfl) (S3 (T:=ax7) r_aggSort fun ω hω hn=>by
   have hn:(decide (((ω.w 0).toL.length:Int)≤400)&&(ω.f 431 [ω.w 0]).toB)=true:=hn
   obtain⟨h1,h2⟩:=P8 hn
   rw[om_f hω]at h2
   exact(S7.t_aggSort (om_f hω) (by have:=of_decide_eq_true h1;omega) h2).trans (by simp only[h_aggSort,Q4,den,om_f hω]))
theorem k_aggSortB:V0 env Om h_aggSortB:=
 (b68 (E:=env) om_upd (nv:=2) (by kernel_rfl) (cO3 om_upd k_aggSort (e:=49) (sig:=[.str,.int .i64,.int .i64,.int .i64,.int .i64,.int .i64,.int .i64]) (id:=490) (by kernel_rfl) (fun ω hω hn=>da4 (om_f hω) hn) (by kernel_rfl)):V0 env Om ⟨h_aggSort.f,2,cV3 49 [.str,.int .i64,.int .i64,.int .i64,.int .i64,.int .i64,.int .i64] h_aggSortB.c.need 490⟩)
theorem l15_ok: ∀x∈L15,V0 env Om x:=by
 exact T5 (T5 (fun x hx=>(by cases hx)) k_aggSortB) k_aggSort
theorem h16_ok: ∀x∈H16,V0 env Om x:=a07 h15_ok l15_ok
theorem k_trows:V0 env Om h_trows:=
 S0 (E:=env) (cs:=H16) om_upd e_ok orders h16_ok (n:=1000000) (by kernel_rfl) (S3 (T:=S9.T_trows) r_trows fun ω hω hn=>by
   exact(S9.t_trows (om_f hω) (fun v h=>dm9 h) hn).trans (congrArg some (congrArg (Prod.mk 0) (by simp only[h_trows,Q4,den,X5,om_f hω]<;>rfl))))
theorem k_tget:V0 env Om h_tget:=
 S0 (E:=env) (cs:=H16) om_upd e_ok orders h16_ok (n:=1000000) (by kernel_rfl) (S3 (T:=S9.T_tget) r_tget fun ω hω hn=>by
   exact(S9.t_tget).trans (congrArg some (congrArg (Prod.mk 0) (by simp only[h_tget,Q4,den,X5,om_f hω]<;>rfl))))
theorem k_tsess:V0 env Om h_tsess:=
 S0 (E:=env) (cs:=H16) om_upd e_ok orders h16_ok (n:=1000000) (by kernel_rfl) (S3 (T:=S9.T_tsess) r_tsess fun ω hω hn=>by
   exact(S9.t_tsess (om_f hω) dn0 hn).trans (congrArg some (congrArg (Prod.mk 0) (by simp only[h_tsess,Q4,den,X5,om_f hω]<;>rfl))))
theorem l16_ok: ∀x∈L16,V0 env Om x:=by
 exact T5 (T5 (T5 (fun x hx=>(by cases hx)) k_tsess) k_tget) k_trows
theorem h17_ok: ∀x∈H17,V0 env Om x:=a07 h16_ok l16_ok
theorem k_joined:V0 env Om h_joined:=
 S0 (E:=env) (cs:=H17) om_upd e_ok orders h17_ok (n:=1000000) (by kernel_rfl) (S3 (T:=S9.T_joined) r_joined fun ω hω hn=>by
   exact(S9.t_joined (om_f hω) hn).trans (congrArg some (congrArg (Prod.mk 0) (by simp only[h_joined,Q4,den,X5,om_f hω]<;>rfl))))
theorem l17_ok: ∀x∈L17,V0 env Om x:=by
 exact T5 (fun x hx=>(by cases hx)) k_joined
theorem h18_ok: ∀x∈H18,V0 env Om x:=a07 h17_ok l17_ok
theorem k_sess:V0 env Om h_sess:=
 S0 (E:=env) (cs:=H18) om_upd e_ok orders h18_ok (n:=1000000) (by kernel_rfl) (S3 (T:=S9.T_sess) r_sess fun ω hω hn=>by
   exact(S9.t_sess (om_f hω) hn).trans (congrArg some (congrArg (Prod.mk 0) (by simp only[h_sess,Q4,den,X5,om_f hω]<;>rfl))))
theorem l18_ok: ∀x∈L18,V0 env Om x:=by
 exact T5 (fun x hx=>(by cases hx)) k_sess
theorem h19_ok: ∀x∈H19,V0 env Om x:=a07 h18_ok l18_ok
theorem k_try:V0 env Om h_try:=
 S0 (E:=env) (cs:=H19) om_upd e_ok orders h19_ok (n:=1000000) (by kernel_rfl) (S3 (T:=S9.T_tryE) r_try fun ω hω hn=>by
   exact(S9.t_tryE (om_f hω) dp5.x431 hn).trans (congrArg some (congrArg (Prod.mk 0) (by simp only[h_try,Q4,den,X5,om_f hω]<;>rfl))))
theorem l19_ok: ∀x∈L19,V0 env Om x:=by
 exact T5 (fun x hx=>(by cases hx)) k_try
theorem h20_ok: ∀x∈H20,V0 env Om x:=a07 h19_ok l19_ok
theorem k_put:V0 env Om h_put:=
 S0 (E:=env) (cs:=H20) om_upd e_ok orders h20_ok (n:=1000000) (by kernel_rfl) (S3 (T:=S9.T_put) r_put fun ω hω hn=>by
   exact(S9.put_t (om_f hω) hn).trans (congrArg some (congrArg (Prod.mk 0) (by simp only[h_put,Q4,den,X5,om_f hω]<;>rfl))))
theorem l20_ok: ∀x∈L20,V0 env Om x:=by
 exact T5 (fun x hx=>(by cases hx)) k_put
theorem h21_ok: ∀x∈H21,V0 env Om x:=a07 h20_ok l20_ok
theorem k_few:V0 env Om h_few:=
 S0 (E:=env) (cs:=H21) om_upd e_ok orders h21_ok (n:=1000000) (by kernel_rfl) (S3 (T:=S9.T_few) r_few fun ω hω hn=>by
   exact(S9.t_few (om_f hω)).trans (congrArg some (congrArg (Prod.mk 0) (by simp only[h_few,Q4,den,X5,om_f hω]<;>rfl))))
theorem k_aRight:V0 env Om h_aRight:=
 S0 (E:=env) (cs:=H21) om_upd e_ok orders h21_ok (n:=1000000) (by kernel_rfl) (S3 (T:=S9.T_aRight) r_aRight fun ω hω hn=>by
   exact(S9.t_aRight).trans (congrArg some (congrArg (Prod.mk 0) (by simp only[h_aRight,Q4,den,X5,om_f hω]<;>rfl))))
theorem k_aBlank:V0 env Om h_aBlank:=
 S0 (E:=env) (cs:=H21) om_upd e_ok orders h21_ok (n:=1000000) (by kernel_rfl) (S3 (T:=S9.T_aBlank) r_aBlank fun ω hω hn=>by
   exact(S9.t_aBlank).trans (congrArg some (congrArg (Prod.mk 0) (by simp only[h_aBlank,Q4,den,X5,om_f hω]<;>rfl))))
theorem k_pick:V0 env Om h_pick:=
 S0 (E:=env) (cs:=H21) om_upd e_ok orders h21_ok (n:=1000000) (by kernel_rfl) (S3 (T:=S9.T_pick) r_pick fun ω hω hn=>by
   exact(S9.t_pick).trans (congrArg some (congrArg (Prod.mk 0) (by simp only[h_pick,Q4,den,X5,om_f hω]<;>rfl))))
theorem l21_ok: ∀x∈L21,V0 env Om x:=by
 exact T5 (T5 (T5 (T5 (fun x hx=>(by cases hx)) k_pick) k_aBlank) k_aRight) k_few
theorem h22_ok: ∀x∈H22,V0 env Om x:=a07 h21_ok l21_ok
theorem k_law:V0 env Om h_order:=
 S0 (E:=env) (cs:=H22) om_upd e_ok orders h22_ok (n:=1000000) (by kernel_rfl) (S3 (T:=S9.T_order) r_order fun ω hω hn=>by
   exact(S9.t_order (om_f hω) dp5 hn).trans (by simp only[h_order,Q4,den]))
end Go.Proofs.YtdbiooidpgafaaaGreat.Ctr
