import Derived.Test.YtbfbcanipfnfeaaRows
import Derived.Test.YtbfbcanipfnfeaaEG3
import Derived.Test.YtbfbcanipfnfeaaE43
import Derived.ProofKit
set_option linter.unusedVariables false
set_option linter.unusedSimpArgs false
namespace Go.Proofs.Ytbfbcanipfnfeaa.Ctr
open Go Go.Ev
noncomputable def env0:Env:=⟨Try.prog,fun f=>none,fun _=>false,fun _=>false,fun _ _ _=> .bad,fun _ _=>none,fun _ _ _ _=>none⟩
noncomputable def loops(f:FuncId)(r:Nat)(a:Fr)(h:Heap):Option LSpec:=bif Nat.beq f 19&&Nat.beq r 2 then some (ab4 ⟨101,2000,[4,5,6,7,8,9,10,11,12,13,14,15,16,17],[],[2,3],[],[0],[(.exit 0,[]),(.ret,[])],[],[],false⟩ a h)else bif Nat.beq f 6&&Nat.beq r 3 then some (ab4 ⟨103,2000,[5,6,7,8,9,10,11,12,13,14,15,16,17,18,19,20,21,22,23,24,25,26],[(3,none,66,[.str,.int .i64,.int .i64,.int .i64,.int .i64,.int .i64,.int .i64])],[3,4],[],[0],[(.exit 0,[])],[],[],false⟩ a h)else bif Nat.beq f 15&&Nat.beq r 4 then some (ab4 ⟨107,2000,[11,12,13,14,15,16,17,18,19,20,21,22,23,24,25],[],[4,5],[],[0,1],[(.exit 0,[]),(.ret,[])],[],[],false⟩ a h)else bif Nat.beq f 8&&Nat.beq r 3 then some (ab4 ⟨130,2000,[5,6,7,8,9,10,11,12,13,14,15,16,17,18,19,20,21,22,23,24,25,26,27,28,29,30,31],[(3,none,68,[.str,.int .i64,.int .i64,.bool,.int .i64,.int .i64,.int .i64,.int .i64])],[3,4],[],[0],[(.exit 0,[])],[],[],false⟩ a h)else bif Nat.beq f 27&&Nat.beq r 4 then some (ab4 ⟨131,2000,[11,12,13,14,15,16,17,18,19,20,21,22,23,24,25],[],[4,5],[],[0,1],[(.exit 0,[]),(.ret,[])],[],[],false⟩ a h)else bif Nat.beq f 12&&Nat.beq r 1 then some (ab4 ⟨132,2000,[3,4,5,6,7,8,9,10,11,12,13],[],[2],[0],[0],[(.exit 0,[])],[],[],false⟩ a h)else bif Nat.beq f 34&&Nat.beq r 2 then some (ab4 ⟨133,2000,[4,5,6,7,8,9,10,11,12,13,14,15,16,17,18,19,20,21,22,23,24,25,26,27,28,29,30,31,32,33],[],[2,3],[],[0],[(.exit 0,[]),(.ret,[])],[],[],false⟩ a h)else bif Nat.beq f 34&&Nat.beq r 7 then some (ab4 ⟨134,3000,[18,19,20,21,22,23,24,25,26,27,28,29,30,31,32,33],[],[2,4],[],[0,3],[(.exit 2,[]),(.ret,[])],[],[],false⟩ a h)else bif Nat.beq f 36&&Nat.beq r 2 then some (ab4 ⟨135,2000,[7,8,9,10,11,12,13,14,15,16,17,18,19,20,21,22,23,24],[],[5,6],[4],[0,3,4],[(.exit 0,[]),(.ret,[])],[],[],false⟩ a h)else bif Nat.beq f 40&&Nat.beq r 3 then some (ab4 ⟨136,2000,[5,6,7,8,9,10,11,12,13,14,15,16,17,18,19,20,21,22,23,24,25,26,27,28,29,30,31,32,33,34,35,36,37,38,39,40,41,42,43,44,45,46,47,48,49,50,51,52,53],[(3,none,68,[.str,.int .i64,.int .i64,.bool,.int .i64,.int .i64,.int .i64,.int .i64])],[3,4],[],[0],[(.exit 0,[])],[],[],false⟩ a h)else bif Nat.beq f 40&&Nat.beq r 7 then some (ab4 ⟨137,3000,[20,21,22,23,24,25,26,27,28,29,30,31,32,33,34,35,36,37,38,39,40,41,42,43,44,45,46,47,48,49,50,51,52,53],[],[5],[3],[0,3,4],[(.exit 2,[])],[],[],false⟩ a h)else bif Nat.beq f 28&&Nat.beq r 3 then some (ab4 ⟨140,2000,[6,7,8,13,14,15,16,17,18,19,20,21,22,23,24,25,26,27,28,29,30,31,32,33,34,35,36,37,38,39,40],[],[12],[4],[4,10,11],[(.exit 0,[]),(.ret,[])],[(4,[.str,.int .i64,.int .i64],[.int .i64,.int .i64,.int .i64,.int .i64])],[],false⟩ a h)else bif Nat.beq f 50&&Nat.beq r 2 then some (ab4 ⟨221,2000,[5,9,10,11,12,13,14,15,16,17,18],[],[4,8],[1001],[0,1,7],[(.exit 0,[]),(.ret,[])],[(1001,[.str,.int .i64,.int .i64],[.int .i64])],[],false⟩ a h)else bif Nat.beq f 13&&Nat.beq r 13 then some (ab4 ⟨224,2000,[11,12,41,42,43,44,45,46,47,48,49,50,51],[(10,none,56,[.str,.int .i64,.int .i64,.int .i64,.int .i64,.int .i64,.int .i64])],[10],[],[40],[(.exit 2,[])],[],[],true⟩ a h)else bif Nat.beq f 13&&Nat.beq r 5 then some (ab4 ⟨223,2000,[9,25,26,27,28,29,30,31,32,33,34,35,36,37,38],[],[24],[6],[6,22,23],[(.exit 0,[])],[(20006,[],[])],[],false⟩ a h)else bif Nat.beq f 20&&Nat.beq r 7 then some (ab4 ⟨141,2000,[12,13,14,38,39,40,41,42,43,44,45,46,47,48,49,50,51,52,53,54,55,56],[(10,none,58,[.str,.int .i64,.int .i64,.bool,.int .i64,.int .i64,.int .i64,.int .i64])],[10,37],[],[1,6,8,35,36],[(.exit 0,[])],[],[],false⟩ a h)else bif Nat.beq f 20&&Nat.beq r 14 then some (ab4 ⟨142,2000,[16,17,18,60,61,62,63,64,65,66,67,68,69,70,71,72,73,74,75,76,77,78,79,80,81,82,83,84,85,86],[(10,none,58,[.str,.int .i64,.int .i64,.bool,.int .i64,.int .i64,.int .i64,.int .i64])],[10,59],[],[6,57,58],[(.exit 2,[])],[],[],false⟩ a h)else bif Nat.beq f 26&&Nat.beq r 5 then some (ab4 ⟨143,2000,[8,9,21,22,23,24,25,26,27,28,29,30,31,32,33,34,35,36,37,38,39,40,41,42,43,44,45,46,47],[(6,none,68,[.str,.int .i64,.int .i64,.bool,.int .i64,.int .i64,.int .i64,.int .i64])],[6,7],[],[0,1],[(.exit 0,[])],[],[],false⟩ a h)else bif Nat.beq f 26&&Nat.beq r 11 then some (ab4 ⟨144,2000,[11,12,48,49,50,51,52,53,54,55,56,57,58,59,60,61,62,63,64,65,66,67,68,69,70,71,72,73,74,75,76,77,78,79,80,81,82,83,84,85,86,87,88],[(6,none,68,[.str,.int .i64,.int .i64,.bool,.int .i64,.int .i64,.int .i64,.int .i64])],[6,10],[],[0,1],[(.exit 2,[])],[],[],false⟩ a h)else bif Nat.beq f 87&&Nat.beq r 1 then some (ab4 ⟨452,2000,[11,12,13,14,15,16,17,18,19,20,21,22,23,24,25,26,27,28,29,30,31,32,33,34,35,36,37],[],[10],[0],[0,1,2,3],[(.exit 0,[])],[],[],false⟩ a h)else bif Nat.beq f 81&&Nat.beq r 2 then some (ab4 ⟨458,2000,[18,19,20,21,22,23,24,25,26,27,28,29,30,31,32,33,34,35,36,37,38,39,40,41,42,43,44,45,46,47,48,49],[],[10,11],[0],[0,2,4],[(.exit 0,[])],[],[],false⟩ a h)else bif Nat.beq f 68&&Nat.beq r 1 then some (ab4 ⟨460,2000,[9,12,13,14,15,16,17,18,19,20,21,22,23,24,25,26,27,28,29,30,31,32,33,34,35,36,37,38,39,40,41,42,43,44,45,46,47,48,49,50,51,52],[],[8],[0],[0,1,2,3],[(.exit 0,[])],[],[],false⟩ a h)else bif Nat.beq f 68&&Nat.beq r 4 then some (ab4 ⟨461,3000,[18,19,20,21,22,23,24,25,26,27,28,29,30,31,32,33,34,35,36,37,38,39,40,41,42,43,44,45,46,47,48,49,50,51,52],[],[9],[0],[0,1,2,3,8],[(.exit 2,[])],[],[],false⟩ a h)else bif Nat.beq f 69&&Nat.beq r 3 then some (ab4 ⟨462,2000,[12,31,32,33,34,35,36,37,38,39,40,41,42,43,44,45,46,47,48,49,50,51,52,53],[],[10,11],[],[0,1,4],[(.exit 0,[])],[],[],false⟩ a h)else bif Nat.beq f 69&&Nat.beq r 9 then some (ab4 ⟨463,3000,[55,56,57,58,59,60,61,62,63,64,65,66,67,68,69,70,71,72,73,74,75,76],[],[13],[0],[0,10],[(.exit 2,[])],[],[],false⟩ a h)else bif Nat.beq f 69&&Nat.beq r 15 then some (ab4 ⟨464,2000,[16,83,84,85,86,87,88,89,90,91,92,93,94,95,96,97,98,99,100,101,102,103,104,105,106],[],[14,15],[],[0,2,4],[(.exit 4,[])],[],[],false⟩ a h)else bif Nat.beq f 69&&Nat.beq r 21 then some (ab4 ⟨465,3000,[108,109,110,111,112,113,114,115,116,117,118,119,120,121,122,123,124,125,126,127,128],[],[17],[0],[0,14],[(.exit 6,[])],[],[],false⟩ a h)else bif Nat.beq f 69&&Nat.beq r 33 then some (ab4 ⟨466,2000,[23,149,150,151,152,153,154,155,156,157,158,159,160,161,162,163,164,165,166,167,168,169,170,171,172,173,174],[],[20,21],[],[0,1,2,3,4,18,19,22],[(.exit 8,[])],[],[],false⟩ a h)else bif Nat.beq f 58&&Nat.beq r 2 then some (ab4 ⟨467,2000,[11,12,13,14,15,16,17,18,19,20,21,22],[],[7,8],[0],[0,1,2,6],[(.exit 0,[])],[],[],false⟩ a h)else bif Nat.beq f 58&&Nat.beq r 7 then some (ab4 ⟨468,3000,[7,8,9,28,29,30,31,32,33,34,35,36,37,38,39,40,41,42,43,44,45,46,47,48,49,50,51,52,53,54,55,56,57,58,59,60,61,62],[],[6],[0],[0,1,2],[(.exit 2,[])],[],[],false⟩ a h)else bif Nat.beq f 58&&Nat.beq r 9 then some (ab4 ⟨469,4000,[33,34,35,36,37,38,39,40,41,42,43,44,45,46,47,48],[],[7,8],[0],[0,1,2,6],[(.exit 4,[])],[],[],false⟩ a h)else bif Nat.beq f 30&&Nat.beq r 3 then some (ab4 ⟨480,2000,[7,8,9,10,11,12,13,14,15,16,17,18,19,20,21,22,23,24,25,26,27,28,29,30,31,32,33,34,35,36,37,38,39,40,41,42,43,44,45,46,47,48,49,50,51,52,53,54,55,56,57,58,59,60,61,62,63,64,65,66,67,68,69],[(5,none,66,[.str,.int .i64,.int .i64,.int .i64,.int .i64,.int .i64,.int .i64])],[5,6],[],[0,1],[(.exit 0,[])],[],[],false⟩ a h)else bif Nat.beq f 30&&Nat.beq r 7 then some (ab4 ⟨481,3000,[8,23,24,25,26,27,28,29,30,31,32,33,34,35,36,37,38,39,40,41,42,43,44,45,46,47,48,49,50,51,52,53,54,55,56,57,58,59,60,61,62,63,64,65,66,67,68,69],[],[7],[5],[0,1,5,6],[(.exit 2,[])],[],[],false⟩ a h)else bif Nat.beq f 35&&Nat.beq r 2 then some (ab4 ⟨226,2000,[4,5,6,7,8,9,10,11,12,13,14,15,16,17,18,19,20,21,22,23,24,25,26,27,28,29,30,31,32,33,34,35,36,37,38,39,40,41,42,43,44,45,46,47,48,49,50,51,52,53,54,55,56,57],[],[2,3],[],[0],[(.exit 0,[]),(.ret,[])],[],[],false⟩ a h)else bif Nat.beq f 35&&Nat.beq r 7 then some (ab4 ⟨227,3000,[42,43,44,45,46,47,48,49,50,51,52,53,54,55,56,57],[],[2,4],[],[0,3],[(.exit 2,[]),(.ret,[])],[],[],false⟩ a h)else bif Nat.beq f 17&&Nat.beq r 4 then some (ab4 ⟨228,2000,[6,7,16,17,18,19,20,21,22,23,24,25,26,27,28,29,30,31,32,33,34,35,36,37,38,39,40],[],[4,5],[],[0,1],[(.exit 0,[]),(.ret,[])],[],[],false⟩ a h)else bif Nat.beq f 14&&Nat.beq r 5 then some (ab4 ⟨229,2000,[8,9,15,16,17,18,19,20,21,22,23,24,25,26,27,28,29,30,31,32,33,34,35,36,37,38,39,40,41,42,43,44,45,46,47,48,49],[(6,none,66,[.str,.int .i64,.int .i64,.int .i64,.int .i64,.int .i64,.int .i64])],[6,7],[],[0,1],[(.exit 0,[])],[],[],false⟩ a h)else bif Nat.beq f 14&&Nat.beq r 9 then some (ab4 ⟨230,3000,[21,22,23,24,25,26,27,28,29,30,31,32,33,34,35,36,37,38,39,40],[],[8,9],[],[0,1,6,7],[(.exit 2,[])],[],[],false⟩ a h)else bif Nat.beq f 14&&Nat.beq r 15 then some (ab4 ⟨231,2000,[50,51,52,53,54,55,56,57,58,59,60,61,62,63,64,65,66,67,68,69,70,71,72,73,74,75],[(6,none,66,[.str,.int .i64,.int .i64,.int .i64,.int .i64,.int .i64,.int .i64])],[6,10],[],[1],[(.exit 4,[])],[],[],false⟩ a h)else bif Nat.beq f 7&&Nat.beq r 2 then some (ab4 ⟨450,2000,[4,5,6,7,8,9,10,11,12,13,14,15,16,17],[],[2,3],[],[0],[(.exit 0,[]),(.ret,[])],[],[],false⟩ a h)else bif Nat.beq f 18&&Nat.beq r 1 then some (ab4 ⟨456,2000,[3,4,5,6,7,8,9,10,11,12,13],[],[2],[0],[0],[(.exit 0,[])],[],[],false⟩ a h)else none
noncomputable def env:Env:={env0 with lspec:=loops}
def h_works:HC:=⟨5,0,⟨[],[],0,.cb true,.obool (.va 1000),[],[.cb true]⟩⟩
def h_spoilN:HC:=⟨12,0,⟨[.nils],[],0,.cb true,.tup [],[],[]⟩⟩
def h_spoilRN:HC:=⟨18,0,⟨[.nils],[],0,.cb true,.tup [],[],[]⟩⟩
def L0:List HC:=[h_works,h_spoilN,h_spoilRN]
def h_fewRows:HC:=⟨19,1,⟨[.osl 0 (.ci 0) (.op .llen [.va 0]) 7],[.arr 4294967295 [.str,.int .i64,.int .i64,.int .i64,.int .i64,.int .i64,.int .i64] (.va 0)],1,.op (.cmp .leq) [.op .llen [.va 0],.ci 1000],.obool (.va 1000),[],[.app 1 [.va 0]]⟩⟩
def h_rows:HC:=⟨6,1,⟨[.osl 0 (.ci 0) (.op .llen [.va 0]) 7],[.arr 4294967295 [.str,.int .i64,.int .i64,.int .i64,.int .i64,.int .i64,.int .i64] (.va 0)],1,.op (.cmp .leq) [.op .llen [.va 0],.ci 400],.ous 1 (.op .llen [.va 1000]) 7,[some (.arr 66 [.str,.int .i64,.int .i64,.int .i64,.int .i64,.int .i64,.int .i64] (.va 1000))],[.app 30 [.va 0]]⟩⟩
def h_changes:HC:=⟨8,1,⟨[.osl 0 (.ci 0) (.op .llen [.va 0]) 8],[.arr 4294967295 [.str,.int .i64,.int .i64,.bool,.int .i64,.int .i64,.int .i64,.int .i64] (.va 0)],1,.op (.cmp .leq) [.op .llen [.va 0],.ci 1000],.ous 1 (.op .llen [.va 1000]) 8,[some (.arr 68 [.str,.int .i64,.int .i64,.bool,.int .i64,.int .i64,.int .i64,.int .i64] (.va 1000))],[.app 200 [.va 0]]⟩⟩
def h_sameV:HC:=⟨15,2,⟨[.osl 0 (.ci 0) (.op .llen [.va 0]) 7,.osl 1 (.ci 0) (.op .llen [.va 1]) 7],[.arr 4294967295 [.str,.int .i64,.int .i64,.int .i64,.int .i64,.int .i64,.int .i64] (.va 0),.arr 4294967295 [.str,.int .i64,.int .i64,.int .i64,.int .i64,.int .i64,.int .i64] (.va 1)],2,.op (.cmp .leq) [.op .llen [.va 0],.ci 1000000],.obool (.va 1000),[],[.app 3 [.va 0,.va 1]]⟩⟩
def h_sameC:HC:=⟨27,2,⟨[.osl 0 (.ci 0) (.op .llen [.va 0]) 8,.osl 1 (.ci 0) (.op .llen [.va 1]) 8],[.arr 4294967295 [.str,.int .i64,.int .i64,.bool,.int .i64,.int .i64,.int .i64,.int .i64] (.va 0),.arr 4294967295 [.str,.int .i64,.int .i64,.bool,.int .i64,.int .i64,.int .i64,.int .i64] (.va 1)],2,.op (.cmp .leq) [.op .llen [.va 0],.ci 1000000],.obool (.va 1000),[],[.app 201 [.va 0,.va 1]]⟩⟩
def h_spoilC:HC:=⟨12,2,⟨[.ous 0 (.va 0) 8],[.arr 58 [.str,.int .i64,.int .i64,.bool,.int .i64,.int .i64,.int .i64,.int .i64] (.va 1)],0,.op .and [.op (.cmp .eql) [.va 0,.op .llen [.va 1]],.op (.cmp .leq) [.op .llen [.va 1],.ci 1000000]],.tup [],[none],[]⟩⟩
def h_rowsOk:HC:=⟨34,1,⟨[.osl 0 (.ci 0) (.op .llen [.va 0]) 7],[.arr 4294967295 [.str,.int .i64,.int .i64,.int .i64,.int .i64,.int .i64,.int .i64] (.va 0)],1,.op (.cmp .leq) [.op .llen [.va 0],.ci 1000000],.obool (.va 1000),[],[.app 202 [.va 0]]⟩⟩
def h_find:HC:=⟨36,4,⟨[.osl 0 (.ci 0) (.op .llen [.va 0]) 7,.agg [.ostr (.va 1),.oint .i64 (.va 2),.oint .i64 (.va 3)]],[.arr 4294967295 [.str,.int .i64,.int .i64,.int .i64,.int .i64,.int .i64,.int .i64] (.va 0)],1,.op (.cmp .leq) [.op .llen [.va 0],.ci 1000000],.tup [.agg [.oint .i64 (.va 1000),.oint .i64 (.va 1001),.oint .i64 (.va 1002),.oint .i64 (.va 1003)],.obool (.va 1004)],[],[.op .lget [.app 203 [.va 0,.va 1,.va 2,.va 3],.ci 0,.ci 0],.op .lget [.app 203 [.va 0,.va 1,.va 2,.va 3],.ci 0,.ci 1],.op .lget [.app 203 [.va 0,.va 1,.va 2,.va 3],.ci 0,.ci 2],.op .lget [.app 203 [.va 0,.va 1,.va 2,.va 3],.ci 0,.ci 3],.app 204 [.va 0,.va 1,.va 2,.va 3]]⟩⟩
def h_less:HC:=⟨54,6,⟨[.agg [.ostr (.va 0),.oint .i64 (.va 1),.oint .i64 (.va 2)],.agg [.ostr (.va 3),.oint .i64 (.va 4),.oint .i64 (.va 5)],.bool false],[],0,.cb true,.obool (.va 1000),[],[.app 205 [.va 0,.va 1,.va 2,.va 3,.va 4,.va 5]]⟩⟩
def h_prim:HC:=⟨53,16,⟨[.agg [.ostr (.va 0),.oint .i64 (.va 1),.oint .i64 (.va 2),.obool (.va 3),.oint .i64 (.va 4),.oint .i64 (.va 5),.oint .i64 (.va 6),.oint .i64 (.va 7)],.agg [.ostr (.va 8),.oint .i64 (.va 9),.oint .i64 (.va 10),.obool (.va 11),.oint .i64 (.va 12),.oint .i64 (.va 13),.oint .i64 (.va 14),.oint .i64 (.va 15)]],[],0,.cb true,.oint .i64 (.va 1000),[],[.app 206 [.va 0,.va 1,.va 2,.va 8,.va 9,.va 10]]⟩⟩
def L1:List HC:=[h_fewRows,h_rows,h_changes,h_sameV,h_sameC,h_spoilC,h_rowsOk,h_find,h_less,h_prim]
def h_sortedR:HC:=⟨40,1,⟨[.osl 0 (.ci 0) (.op .llen [.va 0]) 8],[.arr 4294967295 [.str,.int .i64,.int .i64,.bool,.int .i64,.int .i64,.int .i64,.int .i64] (.va 0)],1,.op (.cmp .leq) [.op .llen [.va 0],.ci 1000],.ous 1 (.op .llen [.va 1000]) 8,[some (.arr 68 [.str,.int .i64,.int .i64,.bool,.int .i64,.int .i64,.int .i64,.int .i64] (.va 1000))],[.app 207 [.va 0]]⟩⟩
def h_SORT:HC:=⟨52,2,⟨[.ous 0 (.va 0) 8,.func (.func 53) [] []],[.arr 58 [.str,.int .i64,.int .i64,.bool,.int .i64,.int .i64,.int .i64,.int .i64] (.va 1)],0,.op .and [.op (.cmp .eql) [.va 0,.op .llen [.va 1]],.op (.cmp .leq) [.op .llen [.va 1],.ci 1000000]],.tup [],[some (.arr 58 [.str,.int .i64,.int .i64,.bool,.int .i64,.int .i64,.int .i64,.int .i64] (.va 1000))],[.app 211 [.va 1]]⟩⟩
def L2:List HC:=[h_sortedR,h_SORT]
def h_right:HC:=⟨16,2,⟨[.osl 0 (.ci 0) (.op .llen [.va 0]) 7,.osl 1 (.ci 0) (.op .llen [.va 1]) 8],[.arr 4294967295 [.str,.int .i64,.int .i64,.int .i64,.int .i64,.int .i64,.int .i64] (.va 0),.arr 4294967295 [.str,.int .i64,.int .i64,.bool,.int .i64,.int .i64,.int .i64,.int .i64] (.va 1)],2,.op .and [.op (.cmp .leq) [.op .llen [.va 0],.ci 400],.op (.cmp .leq) [.op .llen [.va 1],.ci 400]],.obool (.va 1000),[],[.app 220 [.va 0,.va 1]]⟩⟩
def L3:List HC:=[h_right]
def h_cloneR:HC:=⟨45,1,⟨[.osl 0 (.ci 0) (.op .llen [.va 0]) 7],[.arr 4294967295 [.str,.int .i64,.int .i64,.int .i64,.int .i64,.int .i64,.int .i64] (.va 0)],1,.op .and [.op (.cmp .leq) [.op .llen [.va 0],.ci 400],.app 431 [.va 0]],.ous 1 (.op .llen [.va 1000]) 7,[some (.arr 56 [.str,.int .i64,.int .i64,.int .i64,.int .i64,.int .i64,.int .i64] (.va 1000))],[.va 0]⟩⟩
def h_swapR:HC:=⟨87,5,⟨[.ous 0 (.va 1) 7,.oint .i64 (.va 2),.oint .i64 (.va 3),.oint .i64 (.va 4),.func (.func 47) [.agg [.func (.func 43) [] []]] []],[.arr 56 [.str,.int .i64,.int .i64,.int .i64,.int .i64,.int .i64,.int .i64] (.va 0)],0,.app 420 [.va 0,.va 1,.va 2,.va 3,.va 4],.tup [],[some (.arr 56 [.str,.int .i64,.int .i64,.int .i64,.int .i64,.int .i64,.int .i64] (.va 1000))],[.app 421 [.va 0,.va 2,.va 3,.va 4]]⟩⟩
def h_cmpR:HC:=⟨47,14,⟨[.agg [.func (.func 43) [] []],.agg [.ostr (.va 0),.oint .i64 (.va 1),.oint .i64 (.va 2),.oint .i64 (.va 3),.oint .i64 (.va 4),.oint .i64 (.va 5),.oint .i64 (.va 6)],.agg [.ostr (.va 7),.oint .i64 (.va 8),.oint .i64 (.va 9),.oint .i64 (.va 10),.oint .i64 (.va 11),.oint .i64 (.va 12),.oint .i64 (.va 13)]],[],0,.cb true,.oint .i64 (.va 1000),[],[.app 206 [.va 0,.va 1,.va 2,.va 7,.va 8,.va 9]]⟩⟩
def L4:List HC:=[h_cloneR,h_swapR,h_cmpR]
def h_rotC:HC:=⟨81,5,⟨[.ous 0 (.va 1) 7,.oint .i64 (.va 2),.oint .i64 (.va 3),.oint .i64 (.va 4),.func (.func 47) [.agg [.func (.func 43) [] []]] []],[.arr 56 [.str,.int .i64,.int .i64,.int .i64,.int .i64,.int .i64,.int .i64] (.va 0)],0,.app 422 [.va 0,.va 1,.va 2,.va 3,.va 4],.tup [],[some (.arr 56 [.str,.int .i64,.int .i64,.int .i64,.int .i64,.int .i64,.int .i64] (.va 1000))],[.app 423 [.va 0,.va 2,.va 3,.va 4]]⟩⟩
def L5:List HC:=[h_rotC]
def h_insC:HC:=⟨68,4,⟨[.ous 0 (.va 1) 7,.oint .i64 (.va 2),.oint .i64 (.va 3),.func (.func 47) [.agg [.func (.func 43) [] []]] []],[.arr 56 [.str,.int .i64,.int .i64,.int .i64,.int .i64,.int .i64,.int .i64] (.va 0)],0,.app 424 [.va 0,.va 1,.va 2,.va 3],.tup [],[some (.arr 56 [.str,.int .i64,.int .i64,.int .i64,.int .i64,.int .i64,.int .i64] (.va 1000))],[.app 425 [.va 0,.va 2,.va 3]]⟩⟩
def h_sym0:HC:=⟨69,5,⟨[.ous 0 (.va 1) 7,.oint .i64 (.va 2),.oint .i64 (.va 3),.oint .i64 (.va 4),.func (.func 47) [.agg [.func (.func 43) [] []]] []],[.arr 56 [.str,.int .i64,.int .i64,.int .i64,.int .i64,.int .i64,.int .i64] (.va 0)],0,.app 426 [.va 0,.va 1,.va 2,.va 3,.va 4,.ci 1],.tup [],[some (.arr 56 [.str,.int .i64,.int .i64,.int .i64,.int .i64,.int .i64,.int .i64] (.va 1000))],[.app 425 [.va 0,.va 2,.va 4]]⟩⟩
def L6:List HC:=[h_insC,h_sym0]
def h_sym1:HC:=⟨69,5,⟨[.ous 0 (.va 1) 7,.oint .i64 (.va 2),.oint .i64 (.va 3),.oint .i64 (.va 4),.func (.func 47) [.agg [.func (.func 43) [] []]] []],[.arr 56 [.str,.int .i64,.int .i64,.int .i64,.int .i64,.int .i64,.int .i64] (.va 0)],0,.app 426 [.va 0,.va 1,.va 2,.va 3,.va 4,.ci 2],.tup [],[some (.arr 56 [.str,.int .i64,.int .i64,.int .i64,.int .i64,.int .i64,.int .i64] (.va 1000))],[.app 425 [.va 0,.va 2,.va 4]]⟩⟩
def L7:List HC:=[h_sym1]
def h_sym2:HC:=⟨69,5,⟨[.ous 0 (.va 1) 7,.oint .i64 (.va 2),.oint .i64 (.va 3),.oint .i64 (.va 4),.func (.func 47) [.agg [.func (.func 43) [] []]] []],[.arr 56 [.str,.int .i64,.int .i64,.int .i64,.int .i64,.int .i64,.int .i64] (.va 0)],0,.app 426 [.va 0,.va 1,.va 2,.va 3,.va 4,.ci 4],.tup [],[some (.arr 56 [.str,.int .i64,.int .i64,.int .i64,.int .i64,.int .i64,.int .i64] (.va 1000))],[.app 425 [.va 0,.va 2,.va 4]]⟩⟩
def L8:List HC:=[h_sym2]
def h_sym3:HC:=⟨69,5,⟨[.ous 0 (.va 1) 7,.oint .i64 (.va 2),.oint .i64 (.va 3),.oint .i64 (.va 4),.func (.func 47) [.agg [.func (.func 43) [] []]] []],[.arr 56 [.str,.int .i64,.int .i64,.int .i64,.int .i64,.int .i64,.int .i64] (.va 0)],0,.app 426 [.va 0,.va 1,.va 2,.va 3,.va 4,.ci 8],.tup [],[some (.arr 56 [.str,.int .i64,.int .i64,.int .i64,.int .i64,.int .i64,.int .i64] (.va 1000))],[.app 425 [.va 0,.va 2,.va 4]]⟩⟩
def L9:List HC:=[h_sym3]
def h_sym4:HC:=⟨69,5,⟨[.ous 0 (.va 1) 7,.oint .i64 (.va 2),.oint .i64 (.va 3),.oint .i64 (.va 4),.func (.func 47) [.agg [.func (.func 43) [] []]] []],[.arr 56 [.str,.int .i64,.int .i64,.int .i64,.int .i64,.int .i64,.int .i64] (.va 0)],0,.app 426 [.va 0,.va 1,.va 2,.va 3,.va 4,.ci 16],.tup [],[some (.arr 56 [.str,.int .i64,.int .i64,.int .i64,.int .i64,.int .i64,.int .i64] (.va 1000))],[.app 425 [.va 0,.va 2,.va 4]]⟩⟩
def L10:List HC:=[h_sym4]
def h_sym5:HC:=⟨69,5,⟨[.ous 0 (.va 1) 7,.oint .i64 (.va 2),.oint .i64 (.va 3),.oint .i64 (.va 4),.func (.func 47) [.agg [.func (.func 43) [] []]] []],[.arr 56 [.str,.int .i64,.int .i64,.int .i64,.int .i64,.int .i64,.int .i64] (.va 0)],0,.app 426 [.va 0,.va 1,.va 2,.va 3,.va 4,.ci 32],.tup [],[some (.arr 56 [.str,.int .i64,.int .i64,.int .i64,.int .i64,.int .i64,.int .i64] (.va 1000))],[.app 425 [.va 0,.va 2,.va 4]]⟩⟩
def L11:List HC:=[h_sym5]
def h_sym6:HC:=⟨69,5,⟨[.ous 0 (.va 1) 7,.oint .i64 (.va 2),.oint .i64 (.va 3),.oint .i64 (.va 4),.func (.func 47) [.agg [.func (.func 43) [] []]] []],[.arr 56 [.str,.int .i64,.int .i64,.int .i64,.int .i64,.int .i64,.int .i64] (.va 0)],0,.app 426 [.va 0,.va 1,.va 2,.va 3,.va 4,.ci 64],.tup [],[some (.arr 56 [.str,.int .i64,.int .i64,.int .i64,.int .i64,.int .i64,.int .i64] (.va 1000))],[.app 425 [.va 0,.va 2,.va 4]]⟩⟩
def L12:List HC:=[h_sym6]
def h_sym7:HC:=⟨69,5,⟨[.ous 0 (.va 1) 7,.oint .i64 (.va 2),.oint .i64 (.va 3),.oint .i64 (.va 4),.func (.func 47) [.agg [.func (.func 43) [] []]] []],[.arr 56 [.str,.int .i64,.int .i64,.int .i64,.int .i64,.int .i64,.int .i64] (.va 0)],0,.app 426 [.va 0,.va 1,.va 2,.va 3,.va 4,.ci 128],.tup [],[some (.arr 56 [.str,.int .i64,.int .i64,.int .i64,.int .i64,.int .i64,.int .i64] (.va 1000))],[.app 425 [.va 0,.va 2,.va 4]]⟩⟩
def L13:List HC:=[h_sym7]
def h_sym8:HC:=⟨69,5,⟨[.ous 0 (.va 1) 7,.oint .i64 (.va 2),.oint .i64 (.va 3),.oint .i64 (.va 4),.func (.func 47) [.agg [.func (.func 43) [] []]] []],[.arr 56 [.str,.int .i64,.int .i64,.int .i64,.int .i64,.int .i64,.int .i64] (.va 0)],0,.app 426 [.va 0,.va 1,.va 2,.va 3,.va 4,.ci 256],.tup [],[some (.arr 56 [.str,.int .i64,.int .i64,.int .i64,.int .i64,.int .i64,.int .i64] (.va 1000))],[.app 425 [.va 0,.va 2,.va 4]]⟩⟩
def L14:List HC:=[h_sym8]
def h_sym9:HC:=⟨69,5,⟨[.ous 0 (.va 1) 7,.oint .i64 (.va 2),.oint .i64 (.va 3),.oint .i64 (.va 4),.func (.func 47) [.agg [.func (.func 43) [] []]] []],[.arr 56 [.str,.int .i64,.int .i64,.int .i64,.int .i64,.int .i64,.int .i64] (.va 0)],0,.app 426 [.va 0,.va 1,.va 2,.va 3,.va 4,.ci 512],.tup [],[some (.arr 56 [.str,.int .i64,.int .i64,.int .i64,.int .i64,.int .i64,.int .i64] (.va 1000))],[.app 425 [.va 0,.va 2,.va 4]]⟩⟩
def L15:List HC:=[h_sym9]
def h_stab:HC:=⟨58,3,⟨[.ous 0 (.va 1) 7,.oint .i64 (.va 2),.func (.func 47) [.agg [.func (.func 43) [] []]] []],[.arr 56 [.str,.int .i64,.int .i64,.int .i64,.int .i64,.int .i64,.int .i64] (.va 0)],0,.app 428 [.va 0,.va 1,.va 2],.tup [],[some (.arr 56 [.str,.int .i64,.int .i64,.int .i64,.int .i64,.int .i64,.int .i64] (.va 1000))],[.app 425 [.va 0,.ci 0,.va 2]]⟩⟩
def L16:List HC:=[h_stab]
def h_sstab:HC:=⟨46,1,⟨[.ous 0 (.op .llen [.va 0]) 7,.func (.func 47) [.agg [.func (.func 43) [] []]] []],[.arr 56 [.str,.int .i64,.int .i64,.int .i64,.int .i64,.int .i64,.int .i64] (.va 0)],0,.op .and [.op (.cmp .leq) [.op .llen [.va 0],.ci 400],.app 431 [.va 0]],.tup [],[some (.arr 56 [.str,.int .i64,.int .i64,.int .i64,.int .i64,.int .i64,.int .i64] (.va 1000))],[.app 425 [.va 0,.ci 0,.op .llen [.va 0]]]⟩⟩
def L17:List HC:=[h_sstab]
def h_aggSort:HC:=⟨29,1,⟨[.bool false,.osl 0 (.ci 0) (.op .llen [.va 0]) 7],[.arr 4294967295 [.str,.int .i64,.int .i64,.int .i64,.int .i64,.int .i64,.int .i64] (.va 0)],1,.op .and [.op (.cmp .leq) [.op .llen [.va 0],.ci 400],.app 431 [.va 0]],.ous 1 (.op .llen [.va 1000]) 7,[some (.arr 56 [.str,.int .i64,.int .i64,.int .i64,.int .i64,.int .i64,.int .i64] (.va 1000))],[.app 490 [.va 0]]⟩⟩
def h_sort5:HC:=⟨30,1,⟨[.bool false,.osl 0 (.ci 0) (.op .llen [.va 0]) 7],[.arr 4294967295 [.str,.int .i64,.int .i64,.int .i64,.int .i64,.int .i64,.int .i64] (.va 0)],1,.op .and [.op (.cmp .leq) [.op .llen [.va 0],.ci 400],.app 431 [.va 0]],.ous 1 (.op .llen [.va 1000]) 7,[some (.arr 66 [.str,.int .i64,.int .i64,.int .i64,.int .i64,.int .i64,.int .i64] (.va 1000))],[.app 490 [.va 0]]⟩⟩
def h_aggSortB:HC:=⟨29,2,⟨[.bool false,.ous 0 (.va 0) 7],[.bag 56 [.str,.int .i64,.int .i64,.int .i64,.int .i64,.int .i64,.int .i64] (.va 1)],1,.op .and [.op (.cmp .eql) [.va 0,.op .llen [.va 1]],.op .and [.op .and [.op (.cmp .leq) [.op .llen [.va 1],.ci 400],.app 431 [.va 1]],.app 491 [.va 1]]],.ous 1 (.op .llen [.va 1000]) 7,[some (.arr 56 [.str,.int .i64,.int .i64,.int .i64,.int .i64,.int .i64,.int .i64] (.va 1000))],[.app 490 [.va 1]]⟩⟩
def L18:List HC:=[h_aggSort,h_sort5,h_aggSortB]
def h_applyA:HC:=⟨13,2,⟨[.osl 0 (.ci 0) (.op .llen [.va 0]) 7,.osl 1 (.ci 0) (.op .llen [.va 1]) 8],[.arr 4294967295 [.str,.int .i64,.int .i64,.int .i64,.int .i64,.int .i64,.int .i64] (.va 0),.arr 4294967295 [.str,.int .i64,.int .i64,.bool,.int .i64,.int .i64,.int .i64,.int .i64] (.va 1)],2,.op .and [.op .and [.op (.cmp .leq) [.op .llen [.va 0],.ci 200],.op (.cmp .leq) [.op .llen [.va 1],.ci 200]],.op .and [.app 431 [.va 0],.app 433 [.va 1]]],.tup [.ous 2 (.op .llen [.va 1001]) 7,.oint .i64 (.va 1000)],[some (.arr 56 [.str,.int .i64,.int .i64,.int .i64,.int .i64,.int .i64,.int .i64] (.va 1001))],[.app 232 [.va 0,.va 1],.app 222 [.va 0,.va 1]]⟩⟩
def h_chgOkR:HC:=⟨35,1,⟨[.osl 0 (.ci 0) (.op .llen [.va 0]) 8],[.arr 4294967295 [.str,.int .i64,.int .i64,.bool,.int .i64,.int .i64,.int .i64,.int .i64] (.va 0)],1,.op (.cmp .leq) [.op .llen [.va 0],.ci 400],.obool (.va 1000),[],[.app 225 [.va 0]]⟩⟩
def L19:List HC:=[h_applyA,h_chgOkR]
def h_rightR:HC:=⟨17,2,⟨[.osl 0 (.ci 0) (.op .llen [.va 0]) 7,.osl 1 (.ci 0) (.op .llen [.va 1]) 8],[.arr 4294967295 [.str,.int .i64,.int .i64,.int .i64,.int .i64,.int .i64,.int .i64] (.va 0),.arr 4294967295 [.str,.int .i64,.int .i64,.bool,.int .i64,.int .i64,.int .i64,.int .i64] (.va 1)],2,.op .and [.op (.cmp .leq) [.op .llen [.va 0],.ci 400],.op (.cmp .leq) [.op .llen [.va 1],.ci 400]],.obool (.va 1000),[],[.app 220 [.va 0,.va 1]]⟩⟩
def L20:List HC:=[h_rightR]
def h_applyR:HC:=⟨14,2,⟨[.osl 0 (.ci 0) (.op .llen [.va 0]) 7,.osl 1 (.ci 0) (.op .llen [.va 1]) 8],[.arr 4294967295 [.str,.int .i64,.int .i64,.int .i64,.int .i64,.int .i64,.int .i64] (.va 0),.arr 4294967295 [.str,.int .i64,.int .i64,.bool,.int .i64,.int .i64,.int .i64,.int .i64] (.va 1)],2,.op .and [.op .and [.op (.cmp .leq) [.op .llen [.va 0],.ci 200],.op (.cmp .leq) [.op .llen [.va 1],.ci 200]],.op .and [.app 431 [.va 0],.app 433 [.va 1]]],.tup [.ous 2 (.op .llen [.va 1001]) 7,.oint .i64 (.va 1000)],[some (.arr 66 [.str,.int .i64,.int .i64,.int .i64,.int .i64,.int .i64,.int .i64] (.va 1001))],[.app 232 [.va 0,.va 1],.app 222 [.va 0,.va 1]]⟩⟩
def L21:List HC:=[h_applyR]
def h_rowsN:HC:=⟨6,1,⟨[.osl 0 (.ci 0) (.op .llen [.va 0]) 7],[.arr 4294967295 [.str,.int .i64,.int .i64,.int .i64,.int .i64,.int .i64,.int .i64] (.va 0)],1,.op .and [.op (.cmp .leq) [.op .llen [.va 0],.ci 400],.app 431 [.va 0]],.ous 1 (.op .llen [.va 1000]) 7,[some (.arr 66 [.str,.int .i64,.int .i64,.int .i64,.int .i64,.int .i64,.int .i64] (.va 1000))],[.va 0]⟩⟩
def h_changesN:HC:=⟨8,1,⟨[.osl 0 (.ci 0) (.op .llen [.va 0]) 8],[.arr 4294967295 [.str,.int .i64,.int .i64,.bool,.int .i64,.int .i64,.int .i64,.int .i64] (.va 0)],1,.op .and [.op (.cmp .leq) [.op .llen [.va 0],.ci 1000],.app 433 [.va 0]],.ous 1 (.op .llen [.va 1000]) 8,[some (.arr 68 [.str,.int .i64,.int .i64,.bool,.int .i64,.int .i64,.int .i64,.int .i64] (.va 1000))],[.va 0]⟩⟩
def h_fewChg:HC:=⟨7,1,⟨[.osl 0 (.ci 0) (.op .llen [.va 0]) 8],[.arr 4294967295 [.str,.int .i64,.int .i64,.bool,.int .i64,.int .i64,.int .i64,.int .i64] (.va 0)],1,.op (.cmp .leq) [.op .llen [.va 0],.ci 9223372036854775807],.obool (.va 1000),[],[.app 212 [.va 0]]⟩⟩
def h_spoilRs:HC:=⟨18,2,⟨[.ous 0 (.va 0) 7],[.arr 56 [.str,.int .i64,.int .i64,.int .i64,.int .i64,.int .i64,.int .i64] (.va 1)],0,.op .and [.op (.cmp .eql) [.va 0,.op .llen [.va 1]],.op (.cmp .leq) [.op .llen [.va 1],.ci 1000000]],.tup [],[none],[]⟩⟩
def h_diff:HC:=⟨20,2,⟨[.osl 0 (.ci 0) (.op .llen [.va 0]) 7,.osl 1 (.ci 0) (.op .llen [.va 1]) 7],[.arr 4294967295 [.str,.int .i64,.int .i64,.int .i64,.int .i64,.int .i64,.int .i64] (.va 0),.arr 4294967295 [.str,.int .i64,.int .i64,.int .i64,.int .i64,.int .i64,.int .i64] (.va 1)],2,.op .and [.op (.cmp .leq) [.op .llen [.va 0],.ci 400],.op (.cmp .leq) [.op .llen [.va 1],.ci 400]],.tup [.ous 2 (.op .llen [.va 1001]) 8,.oint .i64 (.va 1000)],[some (.arr 58 [.str,.int .i64,.int .i64,.bool,.int .i64,.int .i64,.int .i64,.int .i64] (.va 1001))],[.app 209 [.va 0,.va 1],.app 208 [.va 0,.va 1]]⟩⟩
def h_diffR:HC:=⟨26,2,⟨[.osl 0 (.ci 0) (.op .llen [.va 0]) 7,.osl 1 (.ci 0) (.op .llen [.va 1]) 7],[.arr 4294967295 [.str,.int .i64,.int .i64,.int .i64,.int .i64,.int .i64,.int .i64] (.va 0),.arr 4294967295 [.str,.int .i64,.int .i64,.int .i64,.int .i64,.int .i64,.int .i64] (.va 1)],2,.op .and [.op (.cmp .leq) [.op .llen [.va 0],.ci 400],.op (.cmp .leq) [.op .llen [.va 1],.ci 400]],.tup [.ous 2 (.op .llen [.va 1001]) 8,.oint .i64 (.va 1000)],[some (.arr 68 [.str,.int .i64,.int .i64,.bool,.int .i64,.int .i64,.int .i64,.int .i64] (.va 1001))],[.app 209 [.va 0,.va 1],.app 208 [.va 0,.va 1]]⟩⟩
def L22:List HC:=[h_rowsN,h_changesN,h_fewChg,h_spoilRs,h_diff,h_diffR]theorem names:(Try.prog.funcs.toList.all fun fn=> !(fn.name== "runtime.NumGoroutine"))=true:=by kernel_rfl
theorem env0_ok(ω:Opq)(hω: ∀t,ω.fix t=aq0 Try.prog t):env0.Ok ω:=by
 refine⟨hω,fun f fn h=> ?_,fun f e h=> ?_,fun _ _ _ _ h=>(by cases h),fun _ _ _ h=>(by cases h),fun _ _ _ h=>(by cases h),fun _ _ _ _ _ h=>(by cases h)⟩
 ·have h1:=i6.1 names fn (by
   obtain⟨h2,rfl⟩:=E9.1 h
   exact Array.mem_toList_iff.2 (Array.getElem_mem h2))
  simpa using h1
 ·cases h
theorem env_ok(ω:Opq)(hω: ∀t,ω.fix t=aq0 Try.prog t):env.Ok ω:=
 let h:=env0_ok ω hω
 ⟨h.fix,h.name,h.ext,h.bin,h.un,h.conv,h.blt⟩
theorem orders:Try.prog.follows .mixedOrders=true:=by kernel_rfl
noncomputable def H0:List HC:=[]
noncomputable def H1:List HC:=L0++H0
noncomputable def H2:List HC:=L1++H1
noncomputable def H3:List HC:=L2++H2
noncomputable def H4:List HC:=L3++H3
noncomputable def H5:List HC:=L4++H4
noncomputable def H6:List HC:=L5++H5
noncomputable def H7:List HC:=L6++H6
noncomputable def H8:List HC:=L7++H7
noncomputable def H9:List HC:=L8++H8
noncomputable def H10:List HC:=L9++H9
noncomputable def H11:List HC:=L10++H10
noncomputable def H12:List HC:=L11++H11
noncomputable def H13:List HC:=L12++H12
noncomputable def H14:List HC:=L13++H13
noncomputable def H15:List HC:=L14++H14
noncomputable def H16:List HC:=L15++H15
noncomputable def H17:List HC:=L16++H16
noncomputable def H18:List HC:=L17++H17
noncomputable def H19:List HC:=L18++H18
noncomputable def H20:List HC:=L19++H19
noncomputable def H21:List HC:=L20++H20
noncomputable def H22:List HC:=L21++H21
noncomputable def H23:List HC:=L22++H22
theorem r_works:FC.run env0 1000000 h_works.f h_works.c h_works.c.args=c58:=by kernel_rfl
theorem r_spoilN:FC.run env0 1000000 h_spoilN.f h_spoilN.c h_spoilN.c.args=bC6:=by kernel_rfl
theorem r_spoilRN:FC.run env0 1000000 h_spoilRN.f h_spoilRN.c h_spoilRN.c.args=bg6:=by kernel_rfl
theorem r_fewRows:FC.run (env.hooks H1) 1000000 h_fewRows.f h_fewRows.c h_fewRows.c.args=at5:=by kernel_rfl
theorem r_rows:FC.run (env.hooks H1) 1000000 h_rows.f h_rows.c h_rows.c.args=bf3:=by kernel_rfl
theorem r_changes:FC.run (env.hooks H1) 1000000 h_changes.f h_changes.c h_changes.c.args=ah2:=by kernel_rfl
theorem r_sameV:FC.run (env.hooks H1) 1000000 h_sameV.f h_sameV.c h_sameV.c.args=b44:=by kernel_rfl
theorem r_sameC:FC.run (env.hooks H1) 1000000 h_sameC.f h_sameC.c h_sameC.c.args=b45:=by kernel_rfl
theorem r_spoilC:FC.run (env.hooks H1) 1000000 h_spoilC.f h_spoilC.c h_spoilC.c.args=aD8:=by kernel_rfl
theorem r_rowsOk:FC.run (env.hooks H1) 1000000 h_rowsOk.f h_rowsOk.c h_rowsOk.c.args=aD9:=by kernel_rfl
theorem r_find:FC.run (env.hooks H1) 1000000 h_find.f h_find.c h_find.c.args=bA9:=by kernel_rfl
theorem r_less:FC.run (env.hooks H1) 1000000 h_less.f h_less.c h_less.c.args=bB0:=by kernel_rfl
theorem r_prim:FC.run (env.hooks H1) 1000000 h_prim.f h_prim.c h_prim.c.args=bB3:=by kernel_rfl
theorem r_sortedR:FC.run (env.hooks H2) 1000000 h_sortedR.f h_sortedR.c h_sortedR.c.args=at6:=by kernel_rfl
theorem r_right:FC.run (env.hooks H3) 1000000 h_right.f h_right.c h_right.c.args=b50:=by kernel_rfl
theorem r_cloneR:FC.run (env.hooks H4) 1000000 h_cloneR.f h_cloneR.c h_cloneR.c.args=at9:=by kernel_rfl
theorem r_swapR:FC.run (env.hooks H4) 1000000 h_swapR.f h_swapR.c h_swapR.c.args=b47:=by kernel_rfl
theorem r_cmpR:FC.run (env.hooks H4) 1000000 h_cmpR.f h_cmpR.c h_cmpR.c.args=bB7:=by kernel_rfl
theorem r_rotC:FC.run (env.hooks H5) 1000000 h_rotC.f h_rotC.c h_rotC.c.args=bB8:=by kernel_rfl
theorem r_insC:FC.run (env.hooks H6) 1000000 h_insC.f h_insC.c h_insC.c.args=bB9:=by kernel_rfl
theorem r_sym1:FC.run (env.hooks H7) 1000000 h_sym1.f h_sym1.c h_sym1.c.args=ab5 1:=by kernel_rfl
theorem r_sym2:FC.run (env.hooks H8) 1000000 h_sym2.f h_sym2.c h_sym2.c.args=ab5 2:=by kernel_rfl
theorem r_sym3:FC.run (env.hooks H9) 1000000 h_sym3.f h_sym3.c h_sym3.c.args=ab5 4:=by kernel_rfl
theorem r_sym4:FC.run (env.hooks H10) 1000000 h_sym4.f h_sym4.c h_sym4.c.args=ab5 8:=by kernel_rfl
theorem r_sym5:FC.run (env.hooks H11) 1000000 h_sym5.f h_sym5.c h_sym5.c.args=ab5 16:=by kernel_rfl
theorem r_sym6:FC.run (env.hooks H12) 1000000 h_sym6.f h_sym6.c h_sym6.c.args=ab5 32:=by kernel_rfl
theorem r_sym7:FC.run (env.hooks H13) 1000000 h_sym7.f h_sym7.c h_sym7.c.args=ab5 64:=by kernel_rfl
theorem r_sym8:FC.run (env.hooks H14) 1000000 h_sym8.f h_sym8.c h_sym8.c.args=ab5 128:=by kernel_rfl
theorem r_sym9:FC.run (env.hooks H15) 1000000 h_sym9.f h_sym9.c h_sym9.c.args=ab5 256:=by kernel_rfl
theorem r_stab:FC.run (env.hooks H16) 1000000 h_stab.f h_stab.c h_stab.c.args=bC5:=by kernel_rfl
theorem r_sstab:FC.run (env.hooks H17) 1000000 h_sstab.f h_sstab.c h_sstab.c.args=b48:=by kernel_rfl
theorem r_aggSort:FC.run (env.hooks H18) 1000000 h_aggSort.f h_aggSort.c h_aggSort.c.args=au4:=by kernel_rfl
theorem r_sort5:FC.run (env.hooks H18) 1000000 h_sort5.f h_sort5.c h_sort5.c.args=b49:=by kernel_rfl
theorem r_applyA:FC.run (env.hooks H19) 1000000 h_applyA.f h_applyA.c h_applyA.c.args=aE1:=by kernel_rfl
theorem r_chgOkR:FC.run (env.hooks H19) 1000000 h_chgOkR.f h_chgOkR.c h_chgOkR.c.args=aE2:=by kernel_rfl
theorem r_rightR:FC.run (env.hooks H20) 1000000 h_rightR.f h_rightR.c h_rightR.c.args=aE3:=by kernel_rfl
theorem r_applyR:FC.run (env.hooks H21) 1000000 h_applyR.f h_applyR.c h_applyR.c.args=aE4:=by kernel_rfl
theorem r_rowsN:FC.run (env.hooks H22) 1000000 h_rowsN.f h_rowsN.c h_rowsN.c.args=bq2:=by kernel_rfl
theorem r_changesN:FC.run (env.hooks H22) 1000000 h_changesN.f h_changesN.c h_changesN.c.args=ay2:=by kernel_rfl
theorem r_fewChg:FC.run (env.hooks H22) 1000000 h_fewChg.f h_fewChg.c h_fewChg.c.args=aE5:=by kernel_rfl
theorem r_spoilRs:FC.run (env.hooks H22) 1000000 h_spoilRs.f h_spoilRs.c h_spoilRs.c.args=au8:=by kernel_rfl
theorem r_diff:FC.run (env.hooks H22) 1000000 h_diff.f h_diff.c h_diff.c.args=bB4:=by kernel_rfl
theorem r_diffR:FC.run (env.hooks H22) 1000000 h_diffR.f h_diffR.c h_diffR.c.args=b46:=by kernel_rfl
open Go Go.Ev Go.Shelf
def Om(ω:Opq):Prop:=OmF F Try.prog ω
theorem om_upd(ω:Opq)(v0:Nat)(l:List Val)(h:Om ω):Om (ω.upd v0 l):=h
theorem om_f{ω:Opq}(h:Om ω): ∀i a,ω.f i a=F i a:=fun i a=>by rw[h.1]
theorem e_ok(ω:Opq)(h:Om ω):env.Ok ω:=env_ok ω h.2
theorem e0_ok(ω:Opq)(h:Om ω):env0.Ok ω:=env0_ok ω h.2
theorem h0_ok: ∀x∈H0,R4 env Om x:=fun x hx=>by cases hx
theorem k_works:R4 env Om h_works:=
 P0 (E:=env0) (cs:=[]) om_upd e0_ok orders (fun x hx=>by cases hx) (n:=1000000) (by kernel_rfl) (P1 (T:=c58) r_works fun ω hω hn=>by
   exact rfl)
theorem k_spoilN:R4 env Om h_spoilN:=
 P0 (E:=env0) (cs:=[]) om_upd e0_ok orders (fun x hx=>by cases hx) (n:=1000000) (by kernel_rfl) (P1 (T:=bC6) r_spoilN fun ω hω hn=>by
   exact rfl)
theorem k_spoilRN:R4 env Om h_spoilRN:=
 P0 (E:=env0) (cs:=[]) om_upd e0_ok orders (fun x hx=>by cases hx) (n:=1000000) (by kernel_rfl) (P1 (T:=bg6) r_spoilRN fun ω hω hn=>by
   exact rfl)
theorem l0_ok: ∀x∈L0,R4 env Om x:=by
 exact P9 (P9 (P9 (fun x hx=>(by cases hx)) k_spoilRN) k_spoilN) k_works
theorem h1_ok: ∀x∈H1,R4 env Om x:=W5 h0_ok l0_ok
theorem k_fewRows:R4 env Om h_fewRows:=
 P0 (E:=env) (cs:=H1) om_upd e_ok orders h1_ok (n:=1000000) (by kernel_rfl) (P1 (T:=at5) r_fewRows fun ω hω hn=>by
   have hn:=hn
   simp only[h_fewRows,dB,den,N2,Q9,Q7,N5,O8,Z9,P2,R1,O5,decide_eq_true_eq,d6,e8]at hn
   exact(c92 (om_f hω) (by omega)).trans (by simp only[h_fewRows,N2,den,Q9,om_f hω,N5,O8]))
theorem k_rows:R4 env Om h_rows:=
 P0 (E:=env) (cs:=H1) om_upd e_ok orders h1_ok (n:=1000000) (by kernel_rfl) (P1 (T:=bf3) r_rows fun ω hω hn=>by
   have hn:=hn
   simp only[h_rows,dB,den,N2,Q9,Q7,N5,O8,Z9,P2,R1,O5,decide_eq_true_eq,d6,e8]at hn
   exact(cu6 (om_f hω) (by omega)).trans (by simp only[h_rows,N2,den,Q9,om_f hω,N5,O8]))
theorem k_changes:R4 env Om h_changes:=
 P0 (E:=env) (cs:=H1) om_upd e_ok orders h1_ok (n:=1000000) (by kernel_rfl) (P1 (T:=ah2) r_changes fun ω hω hn=>by
   have hn:=hn
   simp only[h_changes,dB,den,N2,Q9,Q7,N5,O8,Z9,P2,R1,O5,decide_eq_true_eq,d6,e8]at hn
   exact(bh5 (om_f hω) (by omega)).trans (by simp only[h_changes,N2,den,Q9,om_f hω,N5,O8]))
theorem k_sameV:R4 env Om h_sameV:=
 P0 (E:=env) (cs:=H1) om_upd e_ok orders h1_ok (n:=1000000) (by kernel_rfl) (P1 (T:=b44) r_sameV fun ω hω hn=>by
   have hn:=hn
   simp only[h_sameV,dB,den,N2,Q9,Q7,N5,O8,Z9,P2,R1,O5,decide_eq_true_eq,d6,e8]at hn
   exact(cJ0 (om_f hω) (by omega)).trans (by simp only[h_sameV,N2,den,Q9,om_f hω,N5,O8]))
theorem k_sameC:R4 env Om h_sameC:=
 P0 (E:=env) (cs:=H1) om_upd e_ok orders h1_ok (n:=1000000) (by kernel_rfl) (P1 (T:=b45) r_sameC fun ω hω hn=>by
   have hn:=hn
   simp only[h_sameC,dB,den,N2,Q9,Q7,N5,O8,Z9,P2,R1,O5,decide_eq_true_eq,d6,e8]at hn
   exact(cJ1 (om_f hω) (by omega)).trans (by simp only[h_sameC,N2,den,Q9,om_f hω,N5,O8]))
theorem k_spoilC:R4 env Om h_spoilC:=
 P0 (E:=env) (cs:=H1) om_upd e_ok orders h1_ok (n:=1000000) (by kernel_rfl) (P1 (T:=aD8) r_spoilC fun ω hω hn=>by
   have hn:=hn
   simp only[h_spoilC,dB,den,N2,Q9,Q7,N5,O8,Z9,P2,R1,O5,decide_eq_true_eq,d6,e8]at hn
   have h1:=hn.1
   have h2:=hn.2
   exact cn4 (om_f hω) h1 (by omega))
theorem k_rowsOk:R4 env Om h_rowsOk:=
 P0 (E:=env) (cs:=H1) om_upd e_ok orders h1_ok (n:=1000000) (by kernel_rfl) (P1 (T:=aD9) r_rowsOk fun ω hω hn=>by
   have hn:=hn
   simp only[h_rowsOk,dB,den,N2,Q9,Q7,N5,O8,Z9,P2,R1,O5,decide_eq_true_eq,d6,e8]at hn
   exact(cn5 (om_f hω) (by omega)).trans (by simp only[h_rowsOk,N2,den,Q9,om_f hω,N5,O8]))
theorem k_find:R4 env Om h_find:=
 P0 (E:=env) (cs:=H1) om_upd e_ok orders h1_ok (n:=1000000) (by kernel_rfl) (P1 (T:=bA9) r_find fun ω hω hn=>by
   have hn:=hn
   simp only[h_find,dB,den,N2,Q9,Q7,N5,O8,Z9,P2,R1,O5,decide_eq_true_eq,d6,e8]at hn
   exact(d05 (om_f hω) (by omega)).trans (by simp only[h_find,N2,den,Q9,om_f hω,N5,O8]))
theorem k_less:R4 env Om h_less:=
 P0 (E:=env) (cs:=H1) om_upd e_ok orders h1_ok (n:=1000000) (by kernel_rfl) (P1 (T:=bB0) r_less fun ω hω hn=>by
   exact(d03).trans (by simp only[h_less,N2,den,Q9,om_f hω,N5,O8]))
theorem k_prim:R4 env Om h_prim:=
 P0 (E:=env) (cs:=H1) om_upd e_ok orders h1_ok (n:=1000000) (by kernel_rfl) (P1 (T:=bB3) r_prim fun ω hω hn=>by
   exact(d04).trans (by simp only[h_prim,N2,den,Q9,om_f hω,N5,O8]))
theorem l1_ok: ∀x∈L1,R4 env Om x:=by
 exact P9 (P9 (P9 (P9 (P9 (P9 (P9 (P9 (P9 (P9 (fun x hx=>(by cases hx)) k_prim) k_less) k_find) k_rowsOk) k_spoilC) k_sameC) k_sameV) k_changes) k_rows) k_fewRows
theorem h2_ok: ∀x∈H2,R4 env Om x:=W5 h1_ok l1_ok
theorem k_sortedR:R4 env Om h_sortedR:=
 P0 (E:=env) (cs:=H2) om_upd e_ok orders h2_ok (n:=1000000) (by kernel_rfl) (P1 (T:=at6) r_sortedR fun ω hω hn=>by
   have hn:=hn
   simp only[h_sortedR,dB,den,N2,Q9,Q7,N5,O8,Z9,P2,R1,O5,decide_eq_true_eq,d6,e8]at hn
   exact(c93 (om_f hω) (by omega)).trans (by simp only[h_sortedR,N2,den,Q9,om_f hω,N5,O8]))
def sortRen:Go.Shelf.Ren:=⟨fun|6=>52|15=>62|14=>61|28=>78|29=>79|20=>70|21=>71|22=>72|23=>73|24=>74|25=>75|26=>76|27=>77|46=>82|47=>83|48=>84|49=>85|50=>86|57=>88|n=>n,fun|22=>30|24=>58|25=>96|3=>3|39=>105|0=>0|53=>126|55=>128|4=>4|46=>119|45=>118|50=>123|5=>5|9=>9|66=>130|70=>134|76=>136|77=>137|n=>n,fun|n=>n⟩
theorem sortLays:Go.Proofs.SlLaysF0.n6 Try.prog sortRen:={
 mixed:=by kernel_rfl
 f6:=⟨Try.f52.name,by decide,Try.func52.trans (congrArg some (by kernel_rfl))⟩
 f14:=⟨Try.f61.name,by decide,Try.func61.trans (congrArg some (by kernel_rfl))⟩
 f15:=Try.func62.trans (congrArg some (by kernel_rfl))
 f20:=⟨Try.f70.name,by decide,Try.func70.trans (congrArg some (by kernel_rfl))⟩
 f21:=⟨Try.f71.name,by decide,Try.func71.trans (congrArg some (by kernel_rfl))⟩
 f22:=⟨Try.f72.name,by decide,Try.func72.trans (congrArg some (by kernel_rfl))⟩
 f23:=⟨Try.f73.name,by decide,Try.func73.trans (congrArg some (by kernel_rfl))⟩
 f24:=⟨Try.f74.name,by decide,Try.func74.trans (congrArg some (by kernel_rfl))⟩
 f25:=⟨Try.f75.name,by decide,Try.func75.trans (congrArg some (by kernel_rfl))⟩
 f26:=⟨Try.f76.name,by decide,Try.func76.trans (congrArg some (by kernel_rfl))⟩
 f27:=⟨Try.f77.name,by decide,Try.func77.trans (congrArg some (by kernel_rfl))⟩
 f28:=Try.func78.trans (congrArg some (by kernel_rfl))
 f29:=Try.func79.trans (congrArg some (by kernel_rfl))
 f46:=⟨Try.f82.name,by decide,Try.func82.trans (congrArg some (by kernel_rfl))⟩
 f47:=Try.func83.trans (congrArg some (by kernel_rfl))
 f48:=Try.func84.trans (congrArg some (by kernel_rfl))
 f49:=⟨Try.f85.name,by decide,Try.func85.trans (congrArg some (by kernel_rfl))⟩
 f50:=⟨Try.f86.name,by decide,Try.func86.trans (congrArg some (by kernel_rfl))⟩
 f57:=⟨Try.f88.name,by decide,Try.func88.trans (congrArg some (by kernel_rfl))⟩
 t0:=Try.underlying0
 a0:=Try.isAgg0
 z0:=Try.sizeOf0
 v0:=Try.zeroValue0
 t3:=Try.underlying3
 a3:=Try.isAgg3
 z3:=Try.sizeOf3
 v3:=Try.zeroValue3
 t4:=Try.underlying4
 a4:=Try.isAgg4
 z4:=Try.sizeOf4
 v4:=Try.zeroValue4
 t5:=Try.underlying5
 a5:=Try.isAgg5
 z5:=Try.sizeOf5
 v5:=Try.zeroValue5
 t9:=Try.underlying9
 a9:=Try.isAgg9
 z9:=Try.sizeOf9
 v9:=Try.zeroValue9
 t22:=Try.underlying30
 a22:=Try.isAgg30
 z22:=Try.sizeOf30
 v22:=Try.zeroValue30
 t25:=Try.underlying96
 a25:=Try.isAgg96
 z25:=Try.sizeOf96
 v25:=Try.zeroValue96
 t39:=Try.underlying105
 a39:=Try.isAgg105
 z39:=Try.sizeOf105
 v39:=Try.zeroValue105
 t45:=Try.underlying118
 a45:=Try.isAgg118
 z45:=Try.sizeOf118
 v45:=Try.zeroValue118
 t46:=Try.underlying119
 a46:=Try.isAgg119
 z46:=Try.sizeOf119
 v46:=Try.zeroValue119
 t50:=Try.underlying123
 a50:=Try.isAgg123
 z50:=Try.sizeOf123
 v50:=Try.zeroValue123
 t53:=Try.underlying126
 a53:=Try.isAgg126
 z53:=Try.sizeOf126
 v53:=Try.zeroValue126
 t55:=Try.underlying128
 a55:=Try.isAgg128
 z55:=Try.sizeOf128
 v55:=Try.zeroValue128
 t66:=Try.underlying130
 a66:=Try.isAgg130
 z66:=Try.sizeOf130
 v66:=Try.zeroValue130
 t70:=Try.underlying134
 a70:=Try.isAgg134
 z70:=Try.sizeOf134
 v70:=Try.zeroValue134
 t76:=Try.underlying136
 a76:=Try.isAgg136
 z76:=Try.sizeOf136
 v76:=Try.zeroValue136
 t77:=Try.underlying137
 a77:=Try.isAgg137
 z77:=Try.sizeOf137
 v77:=Try.zeroValue137}
noncomputable def om0:Opq:=⟨ω0.v,ω0.w,F,ω0.one,aq0 Try.prog,fun _=>none⟩
theorem omF_mk(G:Nat→List Val→Val)(P:Program):OmF G P ⟨ω0.v,ω0.w,G,ω0.one,aq0 P,fun _=>none⟩:=⟨rfl,fun _=>rfl⟩
theorem om0_ok:Om om0:=omF_mk F Try.prog
theorem k_cmp:cm2 Try.prog 53 [.str,.int .i64,.int .i64,.bool,.int .i64,.int .i64,.int .i64,.int .i64] cfV:=
 cY6 (E:=env) om_upd om0_ok k_prim (x:= .app 206 [.va 0,.va 1,.va 2,.va 8,.va 9,.va 10]) (h2:=Heap.empty) (by kernel_rfl) (fun ω hω a b ha hb=>by
   have a0:ω.w 0=a.toL.getD 0 default:=ha 0 (by decide)
   have a1:ω.w 1=a.toL.getD 1 default:=ha 1 (by decide)
   have a2:ω.w 2=a.toL.getD 2 default:=ha 2 (by decide)
   have b0:ω.w 8=b.toL.getD 0 default:=hb 0 (by decide)
   have b1:ω.w 9=b.toL.getD 1 default:=hb 1 (by decide)
   have b2:ω.w 10=b.toL.getD 2 default:=hb 2 (by decide)
   show(ω.f 206 [ω.w 0,ω.w 1,ω.w 2,ω.w 8,ω.w 9,ω.w 10]).toI=_
   rw[om_f hω,a0,a1,a2,b0,b1,b2];rfl)
theorem k_SORT:R4 env Om h_SORT:=
 (c55 (E:=env) om_upd (nv:=2) (by kernel_rfl) (cF1 (E:=env) sortLays (f:=52) rfl (g:=53) (sig:=[.str,.int .i64,.int .i64,.bool,.int .i64,.int .i64,.int .i64,.int .i64]) (e:=58) (id:=211) (cf:=cfV) Try.isAgg58 Try.sizeOf58 c63 (enters_of Try.func53 (by kernel_rfl) rfl) k_cmp (fun ω hω l=>by rw[om_f hω];rfl) (by kernel_rfl)):R4 env Om ⟨52,2,c54 53 58 [.str,.int .i64,.int .i64,.bool,.int .i64,.int .i64,.int .i64,.int .i64] 211⟩)
theorem l2_ok: ∀x∈L2,R4 env Om x:=by
 exact P9 (P9 (fun x hx=>(by cases hx)) k_SORT) k_sortedR
theorem h3_ok: ∀x∈H3,R4 env Om x:=W5 h2_ok l2_ok
theorem k_right:R4 env Om h_right:=
 P0 (E:=env) (cs:=H3) om_upd e_ok orders h3_ok (n:=1000000) (by kernel_rfl) (P1 (T:=b50) r_right fun ω hω hn=>by
   have hn:=hn
   simp only[h_right,dB,den,N2,Q9,Q7,N5,O8,Z9,P2,R1,O5,decide_eq_true_eq,d6,e8]at hn
   have h1:=hn.1
   have h2:=hn.2
   exact(cL7 (om_f hω) (by omega) (by omega)).trans (by simp only[h_right,N2,den,Q9,om_f hω,N5,O8]))
theorem l3_ok: ∀x∈L3,R4 env Om x:=by
 exact P9 (fun x hx=>(by cases hx)) k_right
theorem h4_ok: ∀x∈H4,R4 env Om x:=W5 h3_ok l3_ok
theorem k_cloneR:R4 env Om h_cloneR:=
 P0 (E:=env) (cs:=H4) om_upd e_ok orders h4_ok (n:=1000000) (by kernel_rfl) (P1 (T:=at9) r_cloneR fun ω hω hn=>by
   have hn:(decide (((ω.w 0).toL.length:Int)≤400)&&(ω.f 431 [ω.w 0]).toB)=true:=hn
   obtain⟨h1,h2⟩:=M6 hn
   rw[om_f hω]at h2
   exact(S7.t_cloneR (om_f hω) (by have:=of_decide_eq_true h1;omega) h2).trans (by simp only[h_cloneR,N2,den,om_f hω]))
theorem k_swapR:R4 env Om h_swapR:=
 P0 (E:=env) (cs:=H4) om_upd e_ok orders h4_ok (n:=1000000) (by kernel_rfl) (P1 (T:=b47) r_swapR fun ω hω hn=>by
   have hn:(ω.f 420 [ω.w 0,ω.w 1,ω.w 2,ω.w 3,ω.w 4]).toB=true:=hn
   rw[om_f hω]at hn
   exact(S7.t_swapR (om_f hω) hn).trans (by simp only[h_swapR,N2,den,om_f hω]))
theorem k_cmpR:R4 env Om h_cmpR:=
 P0 (E:=env) (cs:=H4) om_upd e_ok orders h4_ok (n:=1000000) (by kernel_rfl) (P1 (T:=bB7) r_cmpR fun ω hω hn=>by
   exact(S7.t_cmpR).trans (by simp only[h_cmpR,N2,den,Q9,om_f hω,N5,O8]))
theorem l4_ok: ∀x∈L4,R4 env Om x:=by
 exact P9 (P9 (P9 (fun x hx=>(by cases hx)) k_cmpR) k_swapR) k_cloneR
theorem h5_ok: ∀x∈H5,R4 env Om x:=W5 h4_ok l4_ok
theorem k_rotC:R4 env Om h_rotC:=
 P0 (E:=env) (cs:=H5) om_upd e_ok orders h5_ok (n:=1000000) (by kernel_rfl) (P1 (T:=bB8) r_rotC fun ω hω hn=>by
   have hn:(ω.f 422 [ω.w 0,ω.w 1,ω.w 2,ω.w 3,ω.w 4]).toB=true:=hn
   rw[om_f hω]at hn
   exact(S7.t_rotC (om_f hω) hn).trans (by simp only[h_rotC,N2,den,om_f hω]))
theorem l5_ok: ∀x∈L5,R4 env Om x:=by
 exact P9 (fun x hx=>(by cases hx)) k_rotC
theorem h6_ok: ∀x∈H6,R4 env Om x:=W5 h5_ok l5_ok
theorem k_insC:R4 env Om h_insC:=
 P0 (E:=env) (cs:=H6) om_upd e_ok orders h6_ok (n:=1000000) (by kernel_rfl) (P1 (T:=bB9) r_insC fun ω hω hn=>by
   have hn:(ω.f 424 [ω.w 0,ω.w 1,ω.w 2,ω.w 3]).toB=true:=hn
   rw[om_f hω]at hn
   exact(S7.t_insC (om_f hω) hn).trans (by simp only[h_insC,N2,den,om_f hω]))
theorem k_sym0:R4 env Om h_sym0:=
 P0 (E:=env) (cs:=H6) om_upd e_ok orders h6_ok (n:=1000000) (by kernel_rfl) (fun ω hω hn=>by
   have hn:(ω.f 426 [ω.w 0,ω.w 1,ω.w 2,ω.w 3,ω.w 4,.vi 1]).toB=true:=hn
   rw[om_f hω]at hn
   exact(S7.sym_vac hn).elim)
theorem l6_ok: ∀x∈L6,R4 env Om x:=by
 exact P9 (P9 (fun x hx=>(by cases hx)) k_sym0) k_insC
theorem h7_ok: ∀x∈H7,R4 env Om x:=W5 h6_ok l6_ok
theorem k_sym1:R4 env Om h_sym1:=
 P0 (E:=env) (cs:=H7) om_upd e_ok orders h7_ok (n:=1000000) (by kernel_rfl) (P1 (T:=ab5 1) r_sym1 fun ω hω hn=>by
   have hn:(ω.f 426 [ω.w 0,ω.w 1,ω.w 2,ω.w 3,ω.w 4,.vi 2]).toB=true:=hn
   rw[om_f hω]at hn
   exact(S7.t_sym (B:=1) (om_f hω) hn).trans (by simp only[h_sym1,N2,den,om_f hω]))
theorem l7_ok: ∀x∈L7,R4 env Om x:=by
 exact P9 (fun x hx=>(by cases hx)) k_sym1
theorem h8_ok: ∀x∈H8,R4 env Om x:=W5 h7_ok l7_ok
theorem k_sym2:R4 env Om h_sym2:=
 P0 (E:=env) (cs:=H8) om_upd e_ok orders h8_ok (n:=1000000) (by kernel_rfl) (P1 (T:=ab5 2) r_sym2 fun ω hω hn=>by
   have hn:(ω.f 426 [ω.w 0,ω.w 1,ω.w 2,ω.w 3,ω.w 4,.vi 4]).toB=true:=hn
   rw[om_f hω]at hn
   exact(S7.t_sym (B:=2) (om_f hω) hn).trans (by simp only[h_sym2,N2,den,om_f hω]))
theorem l8_ok: ∀x∈L8,R4 env Om x:=by
 exact P9 (fun x hx=>(by cases hx)) k_sym2
theorem h9_ok: ∀x∈H9,R4 env Om x:=W5 h8_ok l8_ok
theorem k_sym3:R4 env Om h_sym3:=
 P0 (E:=env) (cs:=H9) om_upd e_ok orders h9_ok (n:=1000000) (by kernel_rfl) (P1 (T:=ab5 4) r_sym3 fun ω hω hn=>by
   have hn:(ω.f 426 [ω.w 0,ω.w 1,ω.w 2,ω.w 3,ω.w 4,.vi 8]).toB=true:=hn
   rw[om_f hω]at hn
   exact(S7.t_sym (B:=4) (om_f hω) hn).trans (by simp only[h_sym3,N2,den,om_f hω]))
theorem l9_ok: ∀x∈L9,R4 env Om x:=by
 exact P9 (fun x hx=>(by cases hx)) k_sym3
theorem h10_ok: ∀x∈H10,R4 env Om x:=W5 h9_ok l9_ok
theorem k_sym4:R4 env Om h_sym4:=
 P0 (E:=env) (cs:=H10) om_upd e_ok orders h10_ok (n:=1000000) (by kernel_rfl) (P1 (T:=ab5 8) r_sym4 fun ω hω hn=>by
   have hn:(ω.f 426 [ω.w 0,ω.w 1,ω.w 2,ω.w 3,ω.w 4,.vi 16]).toB=true:=hn
   rw[om_f hω]at hn
   exact(S7.t_sym (B:=8) (om_f hω) hn).trans (by simp only[h_sym4,N2,den,om_f hω]))
theorem l10_ok: ∀x∈L10,R4 env Om x:=by
 exact P9 (fun x hx=>(by cases hx)) k_sym4
theorem h11_ok: ∀x∈H11,R4 env Om x:=W5 h10_ok l10_ok
theorem k_sym5:R4 env Om h_sym5:=
 P0 (E:=env) (cs:=H11) om_upd e_ok orders h11_ok (n:=1000000) (by kernel_rfl) (P1 (T:=ab5 16) r_sym5 fun ω hω hn=>by
   have hn:(ω.f 426 [ω.w 0,ω.w 1,ω.w 2,ω.w 3,ω.w 4,.vi 32]).toB=true:=hn
   rw[om_f hω]at hn
   exact(S7.t_sym (B:=16) (om_f hω) hn).trans (by simp only[h_sym5,N2,den,om_f hω]))
theorem l11_ok: ∀x∈L11,R4 env Om x:=by
 exact P9 (fun x hx=>(by cases hx)) k_sym5
theorem h12_ok: ∀x∈H12,R4 env Om x:=W5 h11_ok l11_ok
theorem k_sym6:R4 env Om h_sym6:=
 P0 (E:=env) (cs:=H12) om_upd e_ok orders h12_ok (n:=1000000) (by kernel_rfl) (P1 (T:=ab5 32) r_sym6 fun ω hω hn=>by
   have hn:(ω.f 426 [ω.w 0,ω.w 1,ω.w 2,ω.w 3,ω.w 4,.vi 64]).toB=true:=hn
   rw[om_f hω]at hn
   exact(S7.t_sym (B:=32) (om_f hω) hn).trans (by simp only[h_sym6,N2,den,om_f hω]))
theorem l12_ok: ∀x∈L12,R4 env Om x:=by
 exact P9 (fun x hx=>(by cases hx)) k_sym6
theorem h13_ok: ∀x∈H13,R4 env Om x:=W5 h12_ok l12_ok
theorem k_sym7:R4 env Om h_sym7:=
 P0 (E:=env) (cs:=H13) om_upd e_ok orders h13_ok (n:=1000000) (by kernel_rfl) (P1 (T:=ab5 64) r_sym7 fun ω hω hn=>by
   have hn:(ω.f 426 [ω.w 0,ω.w 1,ω.w 2,ω.w 3,ω.w 4,.vi 128]).toB=true:=hn
   rw[om_f hω]at hn
   exact(S7.t_sym (B:=64) (om_f hω) hn).trans (by simp only[h_sym7,N2,den,om_f hω]))
theorem l13_ok: ∀x∈L13,R4 env Om x:=by
 exact P9 (fun x hx=>(by cases hx)) k_sym7
theorem h14_ok: ∀x∈H14,R4 env Om x:=W5 h13_ok l13_ok
theorem k_sym8:R4 env Om h_sym8:=
 P0 (E:=env) (cs:=H14) om_upd e_ok orders h14_ok (n:=1000000) (by kernel_rfl) (P1 (T:=ab5 128) r_sym8 fun ω hω hn=>by
   have hn:(ω.f 426 [ω.w 0,ω.w 1,ω.w 2,ω.w 3,ω.w 4,.vi 256]).toB=true:=hn
   rw[om_f hω]at hn
   exact(S7.t_sym (B:=128) (om_f hω) hn).trans (by simp only[h_sym8,N2,den,om_f hω]))
theorem l14_ok: ∀x∈L14,R4 env Om x:=by
 exact P9 (fun x hx=>(by cases hx)) k_sym8
theorem h15_ok: ∀x∈H15,R4 env Om x:=W5 h14_ok l14_ok
theorem k_sym9:R4 env Om h_sym9:=
 P0 (E:=env) (cs:=H15) om_upd e_ok orders h15_ok (n:=1000000) (by kernel_rfl) (P1 (T:=ab5 256) r_sym9 fun ω hω hn=>by
   have hn:(ω.f 426 [ω.w 0,ω.w 1,ω.w 2,ω.w 3,ω.w 4,.vi 512]).toB=true:=hn
   rw[om_f hω]at hn
   exact(S7.t_sym (B:=256) (om_f hω) hn).trans (by simp only[h_sym9,N2,den,om_f hω]))
theorem l15_ok: ∀x∈L15,R4 env Om x:=by
 exact P9 (fun x hx=>(by cases hx)) k_sym9
theorem h16_ok: ∀x∈H16,R4 env Om x:=W5 h15_ok l15_ok
theorem k_stab:R4 env Om h_stab:=
 P0 (E:=env) (cs:=H16) om_upd e_ok orders h16_ok (n:=1000000) (by kernel_rfl) (P1 (T:=bC5) r_stab fun ω hω hn=>by
   have hn:(ω.f 428 [ω.w 0,ω.w 1,ω.w 2]).toB=true:=hn
   rw[om_f hω]at hn
   exact(S7.t_stab (om_f hω) hn).trans (by simp only[h_stab,N2,den,om_f hω]))
theorem l16_ok: ∀x∈L16,R4 env Om x:=by
 exact P9 (fun x hx=>(by cases hx)) k_stab
theorem h17_ok: ∀x∈H17,R4 env Om x:=W5 h16_ok l16_ok
theorem k_sstab:R4 env Om h_sstab:=
 P0 (E:=env) (cs:=H17) om_upd e_ok orders h17_ok (n:=1000000) (by kernel_rfl) (P1 (T:=b48) r_sstab fun ω hω hn=>by
   have hn:(decide (((ω.w 0).toL.length:Int)≤400)&&(ω.f 431 [ω.w 0]).toB)=true:=hn
   obtain⟨h1,h2⟩:=M6 hn
   rw[om_f hω]at h2
   exact(S7.t_sstab (om_f hω) (by have:=of_decide_eq_true h1;omega) h2).trans (by simp only[h_sstab,N2,den,Q9,om_f hω]))
theorem l17_ok: ∀x∈L17,R4 env Om x:=by
 exact P9 (fun x hx=>(by cases hx)) k_sstab
theorem h18_ok: ∀x∈H18,R4 env Om x:=W5 h17_ok l17_ok
theorem k_aggSort:R4 env Om h_aggSort:=
 P0 (E:=env) (cs:=H18) om_upd e_ok orders h18_ok (n:=1000000) (by kernel_rfl) (P1 (T:=au4) r_aggSort fun ω hω hn=>by
   have hn:(decide (((ω.w 0).toL.length:Int)≤400)&&(ω.f 431 [ω.w 0]).toB)=true:=hn
   obtain⟨h1,h2⟩:=M6 hn
   rw[om_f hω]at h2
   exact(S7.t_aggSort (om_f hω) (by have:=of_decide_eq_true h1;omega) h2).trans (by simp only[h_aggSort,N2,den,om_f hω]))
theorem k_sort5:R4 env Om h_sort5:=
 P0 (E:=env) (cs:=H18) om_upd e_ok orders h18_ok (n:=1000000) (by kernel_rfl) (P1 (T:=b49) r_sort5 fun ω hω hn=>by
   have hn:(decide (((ω.w 0).toL.length:Int)≤400)&&(ω.f 431 [ω.w 0]).toB)=true:=hn
   obtain⟨h1,h2⟩:=M6 hn
   rw[om_f hω]at h2
   exact(S7.t_sort5 (om_f hω) (by have:=of_decide_eq_true h1;omega) h2).trans (by simp only[h_sort5,N2,den,om_f hω]))
theorem k_aggSortB:R4 env Om h_aggSortB:=
 (c55 (E:=env) om_upd (nv:=2) (by kernel_rfl) (cF2 om_upd k_aggSort (e:=56) (sig:=[.str,.int .i64,.int .i64,.int .i64,.int .i64,.int .i64,.int .i64]) (id:=490) (by kernel_rfl) (fun ω hω hn=>d22 (om_f hω) hn) (by kernel_rfl)):R4 env Om ⟨h_aggSort.f,2,cO3 56 [.str,.int .i64,.int .i64,.int .i64,.int .i64,.int .i64,.int .i64] h_aggSortB.c.need 490⟩)
theorem l18_ok: ∀x∈L18,R4 env Om x:=by
 exact P9 (P9 (P9 (fun x hx=>(by cases hx)) k_aggSortB) k_sort5) k_aggSort
theorem h19_ok: ∀x∈H19,R4 env Om x:=W5 h18_ok l18_ok
theorem k_applyA:R4 env Om h_applyA:=
 P0 (E:=env) (cs:=H19) om_upd e_ok orders h19_ok (n:=1000000) (by kernel_rfl) (P1 (T:=aE1) r_applyA fun ω hω hn=>by
   have hn:((decide (((ω.w 0).toL.length:Int)≤200)&&decide (((ω.w 1).toL.length:Int)≤200))&&((ω.f 431 [ω.w 0]).toB&&(ω.f 433 [ω.w 1]).toB))=true:=hn
   obtain⟨h1,h2⟩:=M6 hn
   obtain⟨h3,h4⟩:=M6 h1
   obtain⟨h5,h6⟩:=M6 h2
   rw[om_f hω]at h5 h6
   exact(co4 (om_f hω) (by have:=of_decide_eq_true h3;omega) (by have:=of_decide_eq_true h4;omega) h5 h6).trans (by simp only[h_applyA,N2,den,om_f hω]))
theorem k_chgOkR:R4 env Om h_chgOkR:=
 P0 (E:=env) (cs:=H19) om_upd e_ok orders h19_ok (n:=1000000) (by kernel_rfl) (P1 (T:=aE2) r_chgOkR fun ω hω hn=>by
   have hn:=hn
   simp only[h_chgOkR,dB,den,N2,Q9,Q7,N5,O8,Z9,P2,R1,O5,decide_eq_true_eq,d6,e8]at hn
   exact(cn9 (om_f hω) (by omega)).trans (by simp only[h_chgOkR,N2,den,Q9,om_f hω,N5,O8]))
theorem l19_ok: ∀x∈L19,R4 env Om x:=by
 exact P9 (P9 (fun x hx=>(by cases hx)) k_chgOkR) k_applyA
theorem h20_ok: ∀x∈H20,R4 env Om x:=W5 h19_ok l19_ok
theorem k_rightR:R4 env Om h_rightR:=
 P0 (E:=env) (cs:=H20) om_upd e_ok orders h20_ok (n:=1000000) (by kernel_rfl) (P1 (T:=aE3) r_rightR fun ω hω hn=>by
   have hn:=hn
   simp only[h_rightR,dB,den,N2,Q9,Q7,N5,O8,Z9,P2,R1,O5,decide_eq_true_eq,d6,e8]at hn
   have h1:=hn.1
   have h2:=hn.2
   exact(co0 (om_f hω) (by omega) (by omega)).trans (by simp only[h_rightR,N2,den,Q9,om_f hω,N5,O8]))
theorem l20_ok: ∀x∈L20,R4 env Om x:=by
 exact P9 (fun x hx=>(by cases hx)) k_rightR
theorem h21_ok: ∀x∈H21,R4 env Om x:=W5 h20_ok l20_ok
theorem k_applyR:R4 env Om h_applyR:=
 P0 (E:=env) (cs:=H21) om_upd e_ok orders h21_ok (n:=1000000) (by kernel_rfl) (P1 (T:=aE4) r_applyR fun ω hω hn=>by
   have hn:((decide (((ω.w 0).toL.length:Int)≤200)&&decide (((ω.w 1).toL.length:Int)≤200))&&((ω.f 431 [ω.w 0]).toB&&(ω.f 433 [ω.w 1]).toB))=true:=hn
   obtain⟨h1,h2⟩:=M6 hn
   obtain⟨h3,h4⟩:=M6 h1
   obtain⟨h5,h6⟩:=M6 h2
   rw[om_f hω]at h5 h6
   exact(co3 (om_f hω) (by have:=of_decide_eq_true h3;omega) (by have:=of_decide_eq_true h4;omega) h5 h6).trans (by simp only[h_applyR,N2,den,om_f hω]))
theorem l21_ok: ∀x∈L21,R4 env Om x:=by
 exact P9 (fun x hx=>(by cases hx)) k_applyR
theorem h22_ok: ∀x∈H22,R4 env Om x:=W5 h21_ok l21_ok
theorem k_rowsN:R4 env Om h_rowsN:=
 P0 (E:=env) (cs:=H22) om_upd e_ok orders h22_ok (n:=1000000) (by kernel_rfl) (P1 (T:=bq2) r_rowsN fun ω hω hn=>by
   have hn:(decide (((ω.w 0).toL.length:Int)≤400)&&(ω.f 431 [ω.w 0]).toB)=true:=hn
   obtain⟨h1,h2⟩:=M6 hn
   rw[om_f hω]at h2
   exact(cM7 (om_f hω) (by have:=of_decide_eq_true h1;omega) h2).trans (by simp only[h_rowsN,N2,den,om_f hω]))
theorem k_changesN:R4 env Om h_changesN:=
 P0 (E:=env) (cs:=H22) om_upd e_ok orders h22_ok (n:=1000000) (by kernel_rfl) (P1 (T:=ay2) r_changesN fun ω hω hn=>by
   have hn:(decide (((ω.w 0).toL.length:Int)≤1000)&&(ω.f 433 [ω.w 0]).toB)=true:=hn
   obtain⟨h1,h2⟩:=M6 hn
   rw[om_f hω]at h2
   exact(bM8 (om_f hω) (by have:=of_decide_eq_true h1;omega) h2).trans (by simp only[h_changesN,N2,den,om_f hω]))
theorem k_fewChg:R4 env Om h_fewChg:=
 P0 (E:=env) (cs:=H22) om_upd e_ok orders h22_ok (n:=1000000) (by kernel_rfl) (P1 (T:=aE5) r_fewChg fun ω hω hn=>by
   have hn:=hn
   simp only[h_fewChg,dB,den,N2,Q9,Q7,N5,O8,Z9,P2,R1,O5,decide_eq_true_eq,d6,e8]at hn
   exact(co5 (om_f hω) (by omega)).trans (by simp only[h_fewChg,N2,den,Q9,om_f hω,N5,O8]))
theorem k_spoilRs:R4 env Om h_spoilRs:=
 P0 (E:=env) (cs:=H22) om_upd e_ok orders h22_ok (n:=1000000) (by kernel_rfl) (P1 (T:=au8) r_spoilRs fun ω hω hn=>by
   have hn:=hn
   simp only[h_spoilRs,dB,den,N2,Q9,Q7,N5,O8,Z9,P2,R1,O5,decide_eq_true_eq,d6,e8]at hn
   have h1:=hn.1
   have h2:=hn.2
   exact ca8 (om_f hω) h1 (by omega))
theorem k_diff:R4 env Om h_diff:=
 P0 (E:=env) (cs:=H22) om_upd e_ok orders h22_ok (n:=1000000) (by kernel_rfl) (P1 (T:=bB4) r_diff fun ω hω hn=>by
   have hn:=hn
   simp only[h_diff,dB,den,N2,Q9,Q7,N5,O8,Z9,P2,R1,O5,decide_eq_true_eq,d6,e8]at hn
   have h1:=hn.1
   have h2:=hn.2
   exact(d10 (om_f hω) (by omega) (by omega)).trans (by simp only[h_diff,N2,den,Q9,om_f hω,N5,O8]))
theorem k_diffR:R4 env Om h_diffR:=
 P0 (E:=env) (cs:=H22) om_upd e_ok orders h22_ok (n:=1000000) (by kernel_rfl) (P1 (T:=b46) r_diffR fun ω hω hn=>by
   have hn:=hn
   simp only[h_diffR,dB,den,N2,Q9,Q7,N5,O8,Z9,P2,R1,O5,decide_eq_true_eq,d6,e8]at hn
   have h1:=hn.1
   have h2:=hn.2
   exact(cK8 (om_f hω) (by omega) (by omega)).trans (by simp only[h_diffR,N2,den,Q9,om_f hω,N5,O8]))
theorem l22_ok: ∀x∈L22,R4 env Om x:=by
 exact P9 (P9 (P9 (P9 (P9 (P9 (fun x hx=>(by cases hx)) k_diffR) k_diff) k_spoilRs) k_fewChg) k_changesN) k_rowsN
theorem h23_ok: ∀x∈H23,R4 env Om x:=W5 h22_ok l22_ok
end Go.Proofs.Ytbfbcanipfnfeaa.Ctr
