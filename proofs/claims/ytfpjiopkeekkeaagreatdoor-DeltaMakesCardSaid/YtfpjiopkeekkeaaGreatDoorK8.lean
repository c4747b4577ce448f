import Derived.Test.YtfpjiopkeekkeaaGreatDoorRows
import Derived.Test.YtfpjiopkeekkeaaGreatDoorEJ3
import Derived.Test.YtfpjiopkeekkeaaGreatDoorE43
import Derived.ProofKit
set_option linter.unusedVariables false
set_option linter.unusedSimpArgs false
namespace Go.Proofs.YtfpjiopkeekkeaaGreatDoor.Ctr
open Go Go.Ev
def funIn(t g:Nat)(a:Fr):Bool:=match a.slot t with
 | .func (.func f) _ _=>Nat.beq f g
 |_=>false
noncomputable def env0:Env:=⟨Tryz.prog,fun f=>bif Nat.beq f 90 then some (.count)else bif Nat.beq f 99 then some (.indexByte)else bif Nat.beq f 83 then some (.ident)else bif Nat.beq f 94 then some (.makeNoZero 102)else none,fun _=>false,fun _=>false,fun _ _ _=> .bad,fun _ _=>none,fun _ _ _ _=>none⟩
noncomputable def loops(f:FuncId)(r:Nat)(a:Fr)(h:Heap):Option LSpec:=bif Nat.beq f 16&&Nat.beq r 2 then some (ai4 ⟨101,2000,[4,5,6,7,8,9,10,11,12,13,14,15,16,17],[],[2,3],[],[0],[(.exit 0,[]),(.ret,[])],[],[],false⟩ a h)else bif Nat.beq f 18&&Nat.beq r 3 then some (ai4 ⟨140,2000,[6,7,8,13,14,15,16,17,18,19,20,21,22,23,24,25,26,27,28,29,30,31,32,33,34,35,36,37,38,39,40],[],[12],[4],[4,10,11],[(.exit 0,[]),(.ret,[])],[(4,[.str,.int .i64,.int .i64],[.int .i64,.int .i64,.int .i64,.int .i64])],[],false⟩ a h)else bif Nat.beq f 42&&Nat.beq r 2&&funIn 1 21 a then some (ai4 ⟨221,2000,[5,9,10,11,12,13,14,15,16,17,18],[],[4,8],[1001],[0,1,7],[(.exit 0,[]),(.ret,[])],[(1001,[.str,.int .i64,.int .i64],[.int .i64])],[],false⟩ a h)else bif Nat.beq f 9&&Nat.beq r 13 then some (ai4 ⟨224,2000,[11,12,41,42,43,44,45,46,47,48,49,50,51],[(10,none,48,[.str,.int .i64,.int .i64,.int .i64,.int .i64,.int .i64,.int .i64])],[10],[],[40],[(.exit 2,[])],[],[],true⟩ a h)else bif Nat.beq f 9&&Nat.beq r 5 then some (ai4 ⟨223,2000,[9,25,26,27,28,29,30,31,32,33,34,35,36,37,38],[],[24],[6],[6,22,23],[(.exit 0,[])],[(20006,[],[])],[],false⟩ a h)else bif Nat.beq f 7&&Nat.beq r 7 then some (ai4 ⟨141,2000,[12,13,14,38,39,40,41,42,43,44,45,46,47,48,49,50,51,52,53,54,55,56],[(10,none,50,[.str,.int .i64,.int .i64,.bool,.int .i64,.int .i64,.int .i64,.int .i64])],[10,37],[],[1,6,8,35,36],[(.exit 0,[])],[],[],false⟩ a h)else bif Nat.beq f 7&&Nat.beq r 14 then some (ai4 ⟨142,2000,[16,17,18,60,61,62,63,64,65,66,67,68,69,70,71,72,73,74,75,76,77,78,79,80,81,82,83,84,85,86],[(10,none,50,[.str,.int .i64,.int .i64,.bool,.int .i64,.int .i64,.int .i64,.int .i64])],[10,59],[],[6,57,58],[(.exit 2,[])],[],[],false⟩ a h)else bif Nat.beq f 78&&Nat.beq r 1 then some (ai4 ⟨452,2000,[11,12,13,14,15,16,17,18,19,20,21,22,23,24,25,26,27,28,29,30,31,32,33,34,35,36,37],[],[10],[0],[0,1,2,3],[(.exit 0,[])],[],[],false⟩ a h)else bif Nat.beq f 68&&Nat.beq r 2 then some (ai4 ⟨458,2000,[18,19,20,21,22,23,24,25,26,27,28,29,30,31,32,33,34,35,36,37,38,39,40,41,42,43,44,45,46,47,48,49],[],[10,11],[0],[0,2,4],[(.exit 0,[])],[],[],false⟩ a h)else bif Nat.beq f 54&&Nat.beq r 1 then some (ai4 ⟨460,2000,[9,12,13,14,15,16,17,18,19,20,21,22,23,24,25,26,27,28,29,30,31,32,33,34,35,36,37,38,39,40,41,42,43,44,45,46,47,48,49,50,51,52],[],[8],[0],[0,1,2,3],[(.exit 0,[])],[],[],false⟩ a h)else bif Nat.beq f 54&&Nat.beq r 4 then some (ai4 ⟨461,3000,[18,19,20,21,22,23,24,25,26,27,28,29,30,31,32,33,34,35,36,37,38,39,40,41,42,43,44,45,46,47,48,49,50,51,52],[],[9],[0],[0,1,2,3,8],[(.exit 2,[])],[],[],false⟩ a h)else bif Nat.beq f 55&&Nat.beq r 3 then some (ai4 ⟨462,2000,[12,31,32,33,34,35,36,37,38,39,40,41,42,43,44,45,46,47,48,49,50,51,52,53],[],[10,11],[],[0,1,4],[(.exit 0,[])],[],[],false⟩ a h)else bif Nat.beq f 55&&Nat.beq r 9 then some (ai4 ⟨463,3000,[55,56,57,58,59,60,61,62,63,64,65,66,67,68,69,70,71,72,73,74,75,76],[],[13],[0],[0,10],[(.exit 2,[])],[],[],false⟩ a h)else bif Nat.beq f 55&&Nat.beq r 15 then some (ai4 ⟨464,2000,[16,83,84,85,86,87,88,89,90,91,92,93,94,95,96,97,98,99,100,101,102,103,104,105,106],[],[14,15],[],[0,2,4],[(.exit 4,[])],[],[],false⟩ a h)else bif Nat.beq f 55&&Nat.beq r 21 then some (ai4 ⟨465,3000,[108,109,110,111,112,113,114,115,116,117,118,119,120,121,122,123,124,125,126,127,128],[],[17],[0],[0,14],[(.exit 6,[])],[],[],false⟩ a h)else bif Nat.beq f 55&&Nat.beq r 33 then some (ai4 ⟨466,2000,[23,149,150,151,152,153,154,155,156,157,158,159,160,161,162,163,164,165,166,167,168,169,170,171,172,173,174],[],[20,21],[],[0,1,2,3,4,18,19,22],[(.exit 8,[])],[],[],false⟩ a h)else bif Nat.beq f 45&&Nat.beq r 2 then some (ai4 ⟨467,2000,[11,12,13,14,15,16,17,18,19,20,21,22],[],[7,8],[0],[0,1,2,6],[(.exit 0,[])],[],[],false⟩ a h)else bif Nat.beq f 45&&Nat.beq r 7 then some (ai4 ⟨468,3000,[7,8,9,28,29,30,31,32,33,34,35,36,37,38,39,40,41,42,43,44,45,46,47,48,49,50,51,52,53,54,55,56,57,58,59,60,61,62],[],[6],[0],[0,1,2],[(.exit 2,[])],[],[],false⟩ a h)else bif Nat.beq f 45&&Nat.beq r 9 then some (ai4 ⟨469,4000,[33,34,35,36,37,38,39,40,41,42,43,44,45,46,47,48],[],[7,8],[0],[0,1,2,6],[(.exit 4,[])],[],[],false⟩ a h)else bif Nat.beq f 84&&Nat.beq r 13 then some (ai4 ⟨320,2000,[12,54,55,56,57,58,59,60,61,62,63,64,65,66,67,68,69,70,71,72,73],[(10,some (1),5,[.int .u8])],[11,53],[10],[0,1,2,10,52],[(.exit 0,[])],[],[],false⟩ a h)else bif Nat.beq f 37&&Nat.beq r 4 then some (ai4 ⟨651,2000,[5,14,15,16,17,18,19,20,21,22,23,24,25],[],[4,13],[],[0,1,12],[(.exit 0,[]),(.ret,[])],[],[],false⟩ a h)else bif Nat.beq f 23&&Nat.beq r 4 then some (ai4 ⟨107,2000,[5,14,15,16,17,18,19,20,21,22,23,24,25],[],[4,13],[],[0,1,12],[(.exit 0,[]),(.ret,[])],[],[],false⟩ a h)else bif Nat.beq f 79&&Nat.beq r 1 then some (ai4 ⟨652,2000,[11,12,13,14,15,16,17,18,19,20,21,22,23,24,25,26,27,28,29,30,31,32,33,34,35,36,37],[],[10],[0],[0,1,2,3],[(.exit 0,[])],[],[],false⟩ a h)else bif Nat.beq f 69&&Nat.beq r 2 then some (ai4 ⟨658,2000,[18,19,20,21,22,23,24,25,26,27,28,29,30,31,32,33,34,35,36,37,38,39,40,41,42,43,44,45,46,47,48,49],[],[10,11],[0],[0,2,4],[(.exit 0,[])],[],[],false⟩ a h)else bif Nat.beq f 56&&Nat.beq r 1 then some (ai4 ⟨660,2000,[9,12,13,14,15,16,17,18,19,20,21,22,23,24,25,26,27,28,29,30,31,32,33,34,35,36,37,38,39,40,41,42,43,44,45,46,47,48,49,50,51,52],[],[8],[0],[0,1,2,3],[(.exit 0,[])],[],[],false⟩ a h)else bif Nat.beq f 56&&Nat.beq r 4 then some (ai4 ⟨661,3000,[18,19,20,21,22,23,24,25,26,27,28,29,30,31,32,33,34,35,36,37,38,39,40,41,42,43,44,45,46,47,48,49,50,51,52],[],[9],[0],[0,1,2,3,8],[(.exit 2,[])],[],[],false⟩ a h)else bif Nat.beq f 57&&Nat.beq r 3 then some (ai4 ⟨662,2000,[12,31,32,33,34,35,36,37,38,39,40,41,42,43,44,45,46,47,48,49,50,51,52,53],[],[10,11],[],[0,1,4],[(.exit 0,[])],[],[],false⟩ a h)else bif Nat.beq f 57&&Nat.beq r 9 then some (ai4 ⟨663,3000,[55,56,57,58,59,60,61,62,63,64,65,66,67,68,69,70,71,72,73,74,75,76],[],[13],[0],[0,10],[(.exit 2,[])],[],[],false⟩ a h)else bif Nat.beq f 57&&Nat.beq r 15 then some (ai4 ⟨664,2000,[16,83,84,85,86,87,88,89,90,91,92,93,94,95,96,97,98,99,100,101,102,103,104,105,106],[],[14,15],[],[0,2,4],[(.exit 4,[])],[],[],false⟩ a h)else bif Nat.beq f 57&&Nat.beq r 21 then some (ai4 ⟨665,3000,[108,109,110,111,112,113,114,115,116,117,118,119,120,121,122,123,124,125,126,127,128],[],[17],[0],[0,14],[(.exit 6,[])],[],[],false⟩ a h)else bif Nat.beq f 57&&Nat.beq r 33 then some (ai4 ⟨666,2000,[23,149,150,151,152,153,154,155,156,157,158,159,160,161,162,163,164,165,166,167,168,169,170,171,172,173,174],[],[20,21],[],[0,1,2,3,4,18,19,22],[(.exit 8,[])],[],[],false⟩ a h)else bif Nat.beq f 46&&Nat.beq r 2 then some (ai4 ⟨667,2000,[11,12,13,14,15,16,17,18,19,20,21,22],[],[7,8],[0],[0,1,2,6],[(.exit 0,[])],[],[],false⟩ a h)else bif Nat.beq f 46&&Nat.beq r 7 then some (ai4 ⟨668,3000,[7,8,9,28,29,30,31,32,33,34,35,36,37,38,39,40,41,42,43,44,45,46,47,48,49,50,51,52,53,54,55,56,57,58,59,60,61,62],[],[6],[0],[0,1,2],[(.exit 2,[])],[],[],false⟩ a h)else bif Nat.beq f 46&&Nat.beq r 9 then some (ai4 ⟨669,4000,[33,34,35,36,37,38,39,40,41,42,43,44,45,46,47,48],[],[7,8],[0],[0,1,2,6],[(.exit 4,[])],[],[],false⟩ a h)else bif Nat.beq f 42&&Nat.beq r 2&&funIn 1 32 a then some (ai4 ⟨670,2000,[5,9,10,11,12,13,14,15,16,17,18],[],[4,8],[],[0,1,7],[(.exit 0,[]),(.ret,[])],[],[],false⟩ a h)else bif Nat.beq f 30&&Nat.beq r 5 then some (ai4 ⟨671,2000,[7,16,17,18,19,20,21,22,23,24,25,26,27,28,29,30,31,32,33,34,35],[],[5,6],[0],[0,1],[(.exit 0,[])],[],[],false⟩ a h)else bif Nat.beq f 12&&Nat.beq r 3 then some (ai4 ⟨681,2000,[7,8,9,10,11,12,13,14,15,16,17,18,19,20,21,22,23,24,25,26],[(5,none,48,[.str,.int .i64,.int .i64,.int .i64,.int .i64,.int .i64,.int .i64])],[5,6],[],[1,2],[(.exit 0,[])],[],[],false⟩ a h)else none
noncomputable def env:Env:={env0 with lspec:=loops}
def h_works:HC:=⟨6,0,⟨[],[],0,.cb true,.obool (.va 1000),[],[.cb true]⟩⟩
def L0:List HC:=[h_works]
def h_fewRows:HC:=⟨16,1,⟨[.osl 0 (.ci 0) (.op .llen [.va 0]) 7],[.arr 4294967295 [.str,.int .i64,.int .i64,.int .i64,.int .i64,.int .i64,.int .i64] (.va 0)],1,.op (.cmp .leq) [.op .llen [.va 0],.ci 1000],.obool (.va 1000),[],[.app 1 [.va 0]]⟩⟩
def h_prim:HC:=⟨41,16,⟨[.agg [.ostr (.va 0),.oint .i64 (.va 1),.oint .i64 (.va 2),.obool (.va 3),.oint .i64 (.va 4),.oint .i64 (.va 5),.oint .i64 (.va 6),.oint .i64 (.va 7)],.agg [.ostr (.va 8),.oint .i64 (.va 9),.oint .i64 (.va 10),.obool (.va 11),.oint .i64 (.va 12),.oint .i64 (.va 13),.oint .i64 (.va 14),.oint .i64 (.va 15)]],[],0,.cb true,.oint .i64 (.va 1000),[],[.app 206 [.va 0,.va 1,.va 2,.va 8,.va 9,.va 10]]⟩⟩
def h_repl:HC:=⟨81,1,⟨[.ostr (.va 0),.str [0],.str [0,255]],[],0,.op (.cmp .leq) [.op .slen [.va 0],.ci 1000],.ostr (.va 1000),[],[.app 300 [.va 0]]⟩⟩
def h_has:HC:=⟨29,8,⟨[.agg [.oint .u8 (.va 0),.ostr (.va 1),.ostr (.va 2),.oint .i64 (.va 3),.oint .i64 (.va 4)],.agg [.ostr (.va 5),.oint .i64 (.va 6),.oint .i64 (.va 7)]],[],0,.cb true,.obool (.va 1000),[],[.app 304 [.va 0,.va 1,.va 2,.va 3,.va 4,.va 5,.va 6,.va 7]]⟩⟩
def h_partI:HC:=⟨71,1,⟨[.agg [.int .u8 1,.oint .i64 (.va 0),.str []]],[],0,.cb true,.ostr (.va 1000),[],[.app 302 [.va 0]]⟩⟩
def h_cloneR:HC:=⟨26,1,⟨[.osl 0 (.ci 0) (.op .llen [.va 0]) 7],[.arr 4294967295 [.str,.int .i64,.int .i64,.int .i64,.int .i64,.int .i64,.int .i64] (.va 0)],1,.op .and [.op (.cmp .leq) [.op .llen [.va 0],.ci 400],.app 431 [.va 0]],.ous 1 (.op .llen [.va 1000]) 7,[some (.arr 48 [.str,.int .i64,.int .i64,.int .i64,.int .i64,.int .i64,.int .i64] (.va 1000))],[.va 0]⟩⟩
def h_swapR:HC:=⟨78,5,⟨[.ous 0 (.va 1) 7,.oint .i64 (.va 2),.oint .i64 (.va 3),.oint .i64 (.va 4),.func (.func 28) [.agg [.func (.func 24) [] []]] []],[.arr 48 [.str,.int .i64,.int .i64,.int .i64,.int .i64,.int .i64,.int .i64] (.va 0)],0,.app 420 [.va 0,.va 1,.va 2,.va 3,.va 4],.tup [],[some (.arr 48 [.str,.int .i64,.int .i64,.int .i64,.int .i64,.int .i64,.int .i64] (.va 1000))],[.app 421 [.va 0,.va 2,.va 3,.va 4]]⟩⟩
def h_cmpR:HC:=⟨28,14,⟨[.agg [.func (.func 24) [] []],.agg [.ostr (.va 0),.oint .i64 (.va 1),.oint .i64 (.va 2),.oint .i64 (.va 3),.oint .i64 (.va 4),.oint .i64 (.va 5),.oint .i64 (.va 6)],.agg [.ostr (.va 7),.oint .i64 (.va 8),.oint .i64 (.va 9),.oint .i64 (.va 10),.oint .i64 (.va 11),.oint .i64 (.va 12),.oint .i64 (.va 13)]],[],0,.cb true,.oint .i64 (.va 1000),[],[.app 206 [.va 0,.va 1,.va 2,.va 7,.va 8,.va 9]]⟩⟩
def h_sameR:HC:=⟨10,2,⟨[.osl 0 (.ci 0) (.op .llen [.va 0]) 7,.osl 1 (.ci 0) (.op .llen [.va 1]) 7],[.arr 4294967295 [.str,.int .i64,.int .i64,.int .i64,.int .i64,.int .i64,.int .i64] (.va 0),.arr 4294967295 [.str,.int .i64,.int .i64,.int .i64,.int .i64,.int .i64,.int .i64] (.va 1)],2,.op (.cmp .leq) [.op .llen [.va 0],.ci 1000000],.obool (.va 1000),[],[.app 3 [.va 0,.va 1]]⟩⟩
def h_sameC:HC:=⟨15,2,⟨[.osl 0 (.ci 0) (.op .llen [.va 0]) 8,.osl 1 (.ci 0) (.op .llen [.va 1]) 8],[.arr 4294967295 [.str,.int .i64,.int .i64,.bool,.int .i64,.int .i64,.int .i64,.int .i64] (.va 0),.arr 4294967295 [.str,.int .i64,.int .i64,.bool,.int .i64,.int .i64,.int .i64,.int .i64] (.va 1)],2,.op (.cmp .leq) [.op .llen [.va 0],.ci 1000000],.obool (.va 1000),[],[.app 201 [.va 0,.va 1]]⟩⟩
def h_cloneC:HC:=⟨31,1,⟨[.osl 0 (.ci 0) (.op .llen [.va 0]) 8],[.arr 4294967295 [.str,.int .i64,.int .i64,.bool,.int .i64,.int .i64,.int .i64,.int .i64] (.va 0)],1,.op .and [.op (.cmp .leq) [.op .llen [.va 0],.ci 100],.app 631 [.va 0]],.ous 1 (.op .llen [.va 1000]) 8,[some (.arr 50 [.str,.int .i64,.int .i64,.bool,.int .i64,.int .i64,.int .i64,.int .i64] (.va 1000))],[.va 0]⟩⟩
def h_yswap:HC:=⟨79,10,⟨[.ous 1 (.va 6) 8,.oint .i64 (.va 7),.oint .i64 (.va 8),.oint .i64 (.va 9),.func (.func 34) [] [.ptr 0 0]],[.cells 24 0 [.oint .u8 (.va 0),.ostr (.va 1),.ostr (.va 2),.oint .i64 (.va 3),.oint .i64 (.va 4)],.arr 50 [.str,.int .i64,.int .i64,.bool,.int .i64,.int .i64,.int .i64,.int .i64] (.va 5)],1,.app 620 [.va 5,.va 6,.va 7,.va 8,.va 9],.tup [],[some (.arr 50 [.str,.int .i64,.int .i64,.bool,.int .i64,.int .i64,.int .i64,.int .i64] (.va 1000))],[.app 621 [.va 5,.va 7,.va 8,.va 9]]⟩⟩
def L1:List HC:=[h_fewRows,h_prim,h_repl,h_has,h_partI,h_cloneR,h_swapR,h_cmpR,h_sameR,h_sameC,h_cloneC,h_yswap]
def h_SORT:HC:=⟨40,2,⟨[.ous 0 (.va 0) 8,.func (.func 41) [] []],[.arr 50 [.str,.int .i64,.int .i64,.bool,.int .i64,.int .i64,.int .i64,.int .i64] (.va 1)],0,.op .and [.op (.cmp .eql) [.va 0,.op .llen [.va 1]],.op (.cmp .leq) [.op .llen [.va 1],.ci 1000000]],.tup [],[some (.arr 50 [.str,.int .i64,.int .i64,.bool,.int .i64,.int .i64,.int .i64,.int .i64] (.va 1000))],[.app 211 [.va 1]]⟩⟩
def h_rotC:HC:=⟨68,5,⟨[.ous 0 (.va 1) 7,.oint .i64 (.va 2),.oint .i64 (.va 3),.oint .i64 (.va 4),.func (.func 28) [.agg [.func (.func 24) [] []]] []],[.arr 48 [.str,.int .i64,.int .i64,.int .i64,.int .i64,.int .i64,.int .i64] (.va 0)],0,.app 422 [.va 0,.va 1,.va 2,.va 3,.va 4],.tup [],[some (.arr 48 [.str,.int .i64,.int .i64,.int .i64,.int .i64,.int .i64,.int .i64] (.va 1000))],[.app 423 [.va 0,.va 2,.va 3,.va 4]]⟩⟩
def h_partT:HC:=⟨71,1,⟨[.agg [.int .u8 2,.int .i64 0,.ostr (.va 0)]],[],0,.op (.cmp .leq) [.op .slen [.va 0],.ci 1000],.ostr (.va 1000),[],[.app 301 [.va 0]]⟩⟩
def h_yrot:HC:=⟨69,10,⟨[.ous 1 (.va 6) 8,.oint .i64 (.va 7),.oint .i64 (.va 8),.oint .i64 (.va 9),.func (.func 34) [] [.ptr 0 0]],[.cells 24 0 [.oint .u8 (.va 0),.ostr (.va 1),.ostr (.va 2),.oint .i64 (.va 3),.oint .i64 (.va 4)],.arr 50 [.str,.int .i64,.int .i64,.bool,.int .i64,.int .i64,.int .i64,.int .i64] (.va 5)],1,.app 622 [.va 5,.va 6,.va 7,.va 8,.va 9],.tup [],[some (.arr 50 [.str,.int .i64,.int .i64,.bool,.int .i64,.int .i64,.int .i64,.int .i64] (.va 1000))],[.app 623 [.va 5,.va 7,.va 8,.va 9]]⟩⟩
def L2:List HC:=[h_SORT,h_rotC,h_partT,h_yrot]
def h_insC:HC:=⟨54,4,⟨[.ous 0 (.va 1) 7,.oint .i64 (.va 2),.oint .i64 (.va 3),.func (.func 28) [.agg [.func (.func 24) [] []]] []],[.arr 48 [.str,.int .i64,.int .i64,.int .i64,.int .i64,.int .i64,.int .i64] (.va 0)],0,.app 424 [.va 0,.va 1,.va 2,.va 3],.tup [],[some (.arr 48 [.str,.int .i64,.int .i64,.int .i64,.int .i64,.int .i64,.int .i64] (.va 1000))],[.app 425 [.va 0,.va 2,.va 3]]⟩⟩
def h_sym0:HC:=⟨55,5,⟨[.ous 0 (.va 1) 7,.oint .i64 (.va 2),.oint .i64 (.va 3),.oint .i64 (.va 4),.func (.func 28) [.agg [.func (.func 24) [] []]] []],[.arr 48 [.str,.int .i64,.int .i64,.int .i64,.int .i64,.int .i64,.int .i64] (.va 0)],0,.app 426 [.va 0,.va 1,.va 2,.va 3,.va 4,.ci 1],.tup [],[some (.arr 48 [.str,.int .i64,.int .i64,.int .i64,.int .i64,.int .i64,.int .i64] (.va 1000))],[.app 425 [.va 0,.va 2,.va 4]]⟩⟩
def h_kprim:HC:=⟨50,3,⟨[.agg [.ostr (.va 0),.oint .i64 (.va 1),.oint .i64 (.va 2)]],[],0,.op (.cmp .leq) [.op .slen [.va 0],.ci 1000],.ostr (.va 1000),[],[.app 306 [.va 0,.va 1,.va 2]]⟩⟩
def h_ksec:HC:=⟨49,3,⟨[.agg [.ostr (.va 0),.oint .i64 (.va 1),.oint .i64 (.va 2)]],[],0,.op (.cmp .leq) [.op .slen [.va 0],.ci 1000],.ostr (.va 1000),[],[.app 307 [.va 0,.va 1,.va 2]]⟩⟩
def L3:List HC:=[h_insC,h_sym0,h_kprim,h_ksec]
def h_sym1:HC:=⟨55,5,⟨[.ous 0 (.va 1) 7,.oint .i64 (.va 2),.oint .i64 (.va 3),.oint .i64 (.va 4),.func (.func 28) [.agg [.func (.func 24) [] []]] []],[.arr 48 [.str,.int .i64,.int .i64,.int .i64,.int .i64,.int .i64,.int .i64] (.va 0)],0,.app 426 [.va 0,.va 1,.va 2,.va 3,.va 4,.ci 2],.tup [],[some (.arr 48 [.str,.int .i64,.int .i64,.int .i64,.int .i64,.int .i64,.int .i64] (.va 1000))],[.app 425 [.va 0,.va 2,.va 4]]⟩⟩
def h_cmpC:HC:=⟨34,21,⟨[.agg [.ostr (.va 0),.oint .i64 (.va 1),.oint .i64 (.va 2),.obool (.va 3),.oint .i64 (.va 4),.oint .i64 (.va 5),.oint .i64 (.va 6),.oint .i64 (.va 7)],.agg [.ostr (.va 8),.oint .i64 (.va 9),.oint .i64 (.va 10),.obool (.va 11),.oint .i64 (.va 12),.oint .i64 (.va 13),.oint .i64 (.va 14),.oint .i64 (.va 15)],.ptr 0 0],[.cells 24 0 [.oint .u8 (.va 16),.ostr (.va 17),.ostr (.va 18),.oint .i64 (.va 19),.oint .i64 (.va 20)]],1,.op .and [.op (.cmp .leq) [.op .slen [.va 0],.ci 1000],.op (.cmp .leq) [.op .slen [.va 8],.ci 1000]],.oint .i64 (.va 1000),[],[.app 308 [.va 0,.va 1,.va 2,.va 8,.va 9,.va 10,.va 16,.va 17,.va 18,.va 19,.va 20]]⟩⟩
def L4:List HC:=[h_sym1,h_cmpC]
def h_sym2:HC:=⟨55,5,⟨[.ous 0 (.va 1) 7,.oint .i64 (.va 2),.oint .i64 (.va 3),.oint .i64 (.va 4),.func (.func 28) [.agg [.func (.func 24) [] []]] []],[.arr 48 [.str,.int .i64,.int .i64,.int .i64,.int .i64,.int .i64,.int .i64] (.va 0)],0,.app 426 [.va 0,.va 1,.va 2,.va 3,.va 4,.ci 4],.tup [],[some (.arr 48 [.str,.int .i64,.int .i64,.int .i64,.int .i64,.int .i64,.int .i64] (.va 1000))],[.app 425 [.va 0,.va 2,.va 4]]⟩⟩
def h_yins:HC:=⟨56,9,⟨[.ous 1 (.va 6) 8,.oint .i64 (.va 7),.oint .i64 (.va 8),.func (.func 34) [] [.ptr 0 0]],[.cells 24 0 [.oint .u8 (.va 0),.ostr (.va 1),.ostr (.va 2),.oint .i64 (.va 3),.oint .i64 (.va 4)],.arr 50 [.str,.int .i64,.int .i64,.bool,.int .i64,.int .i64,.int .i64,.int .i64] (.va 5)],1,.app 624 [.va 5,.va 6,.va 7,.va 8],.tup [],[some (.arr 50 [.str,.int .i64,.int .i64,.bool,.int .i64,.int .i64,.int .i64,.int .i64] (.va 1000))],[.app 625 [.va 0,.va 1,.va 2,.va 3,.va 4,.va 5,.va 7,.va 8]]⟩⟩
def h_ysm0:HC:=⟨57,10,⟨[.ous 1 (.va 6) 8,.oint .i64 (.va 7),.oint .i64 (.va 8),.oint .i64 (.va 9),.func (.func 34) [] [.ptr 0 0]],[.cells 24 0 [.oint .u8 (.va 0),.ostr (.va 1),.ostr (.va 2),.oint .i64 (.va 3),.oint .i64 (.va 4)],.arr 50 [.str,.int .i64,.int .i64,.bool,.int .i64,.int .i64,.int .i64,.int .i64] (.va 5)],1,.app 626 [.va 0,.va 1,.va 2,.va 3,.va 4,.va 5,.va 6,.va 7,.va 8,.va 9,.ci 1],.tup [],[some (.arr 50 [.str,.int .i64,.int .i64,.bool,.int .i64,.int .i64,.int .i64,.int .i64] (.va 1000))],[.app 625 [.va 0,.va 1,.va 2,.va 3,.va 4,.va 5,.va 7,.va 9]]⟩⟩
def L5:List HC:=[h_sym2,h_yins,h_ysm0]
def h_sym3:HC:=⟨55,5,⟨[.ous 0 (.va 1) 7,.oint .i64 (.va 2),.oint .i64 (.va 3),.oint .i64 (.va 4),.func (.func 28) [.agg [.func (.func 24) [] []]] []],[.arr 48 [.str,.int .i64,.int .i64,.int .i64,.int .i64,.int .i64,.int .i64] (.va 0)],0,.app 426 [.va 0,.va 1,.va 2,.va 3,.va 4,.ci 8],.tup [],[some (.arr 48 [.str,.int .i64,.int .i64,.int .i64,.int .i64,.int .i64,.int .i64] (.va 1000))],[.app 425 [.va 0,.va 2,.va 4]]⟩⟩
def h_ysm1:HC:=⟨57,10,⟨[.ous 1 (.va 6) 8,.oint .i64 (.va 7),.oint .i64 (.va 8),.oint .i64 (.va 9),.func (.func 34) [] [.ptr 0 0]],[.cells 24 0 [.oint .u8 (.va 0),.ostr (.va 1),.ostr (.va 2),.oint .i64 (.va 3),.oint .i64 (.va 4)],.arr 50 [.str,.int .i64,.int .i64,.bool,.int .i64,.int .i64,.int .i64,.int .i64] (.va 5)],1,.app 626 [.va 0,.va 1,.va 2,.va 3,.va 4,.va 5,.va 6,.va 7,.va 8,.va 9,.ci 2],.tup [],[some (.arr 50 [.str,.int .i64,.int .i64,.bool,.int .i64,.int .i64,.int .i64,.int .i64] (.va 1000))],[.app 625 [.va 0,.va 1,.va 2,.va 3,.va 4,.va 5,.va 7,.va 9]]⟩⟩
def L6:List HC:=[h_sym3,h_ysm1]
def h_sym4:HC:=⟨55,5,⟨[.ous 0 (.va 1) 7,.oint .i64 (.va 2),.oint .i64 (.va 3),.oint .i64 (.va 4),.func (.func 28) [.agg [.func (.func 24) [] []]] []],[.arr 48 [.str,.int .i64,.int .i64,.int .i64,.int .i64,.int .i64,.int .i64] (.va 0)],0,.app 426 [.va 0,.va 1,.va 2,.va 3,.va 4,.ci 16],.tup [],[some (.arr 48 [.str,.int .i64,.int .i64,.int .i64,.int .i64,.int .i64,.int .i64] (.va 1000))],[.app 425 [.va 0,.va 2,.va 4]]⟩⟩
def h_ysm2:HC:=⟨57,10,⟨[.ous 1 (.va 6) 8,.oint .i64 (.va 7),.oint .i64 (.va 8),.oint .i64 (.va 9),.func (.func 34) [] [.ptr 0 0]],[.cells 24 0 [.oint .u8 (.va 0),.ostr (.va 1),.ostr (.va 2),.oint .i64 (.va 3),.oint .i64 (.va 4)],.arr 50 [.str,.int .i64,.int .i64,.bool,.int .i64,.int .i64,.int .i64,.int .i64] (.va 5)],1,.app 626 [.va 0,.va 1,.va 2,.va 3,.va 4,.va 5,.va 6,.va 7,.va 8,.va 9,.ci 4],.tup [],[some (.arr 50 [.str,.int .i64,.int .i64,.bool,.int .i64,.int .i64,.int .i64,.int .i64] (.va 1000))],[.app 625 [.va 0,.va 1,.va 2,.va 3,.va 4,.va 5,.va 7,.va 9]]⟩⟩
def L7:List HC:=[h_sym4,h_ysm2]
def h_sym5:HC:=⟨55,5,⟨[.ous 0 (.va 1) 7,.oint .i64 (.va 2),.oint .i64 (.va 3),.oint .i64 (.va 4),.func (.func 28) [.agg [.func (.func 24) [] []]] []],[.arr 48 [.str,.int .i64,.int .i64,.int .i64,.int .i64,.int .i64,.int .i64] (.va 0)],0,.app 426 [.va 0,.va 1,.va 2,.va 3,.va 4,.ci 32],.tup [],[some (.arr 48 [.str,.int .i64,.int .i64,.int .i64,.int .i64,.int .i64,.int .i64] (.va 1000))],[.app 425 [.va 0,.va 2,.va 4]]⟩⟩
def h_ysm3:HC:=⟨57,10,⟨[.ous 1 (.va 6) 8,.oint .i64 (.va 7),.oint .i64 (.va 8),.oint .i64 (.va 9),.func (.func 34) [] [.ptr 0 0]],[.cells 24 0 [.oint .u8 (.va 0),.ostr (.va 1),.ostr (.va 2),.oint .i64 (.va 3),.oint .i64 (.va 4)],.arr 50 [.str,.int .i64,.int .i64,.bool,.int .i64,.int .i64,.int .i64,.int .i64] (.va 5)],1,.app 626 [.va 0,.va 1,.va 2,.va 3,.va 4,.va 5,.va 6,.va 7,.va 8,.va 9,.ci 8],.tup [],[some (.arr 50 [.str,.int .i64,.int .i64,.bool,.int .i64,.int .i64,.int .i64,.int .i64] (.va 1000))],[.app 625 [.va 0,.va 1,.va 2,.va 3,.va 4,.va 5,.va 7,.va 9]]⟩⟩
def L8:List HC:=[h_sym5,h_ysm3]
def h_sym6:HC:=⟨55,5,⟨[.ous 0 (.va 1) 7,.oint .i64 (.va 2),.oint .i64 (.va 3),.oint .i64 (.va 4),.func (.func 28) [.agg [.func (.func 24) [] []]] []],[.arr 48 [.str,.int .i64,.int .i64,.int .i64,.int .i64,.int .i64,.int .i64] (.va 0)],0,.app 426 [.va 0,.va 1,.va 2,.va 3,.va 4,.ci 64],.tup [],[some (.arr 48 [.str,.int .i64,.int .i64,.int .i64,.int .i64,.int .i64,.int .i64] (.va 1000))],[.app 425 [.va 0,.va 2,.va 4]]⟩⟩
def h_ysm4:HC:=⟨57,10,⟨[.ous 1 (.va 6) 8,.oint .i64 (.va 7),.oint .i64 (.va 8),.oint .i64 (.va 9),.func (.func 34) [] [.ptr 0 0]],[.cells 24 0 [.oint .u8 (.va 0),.ostr (.va 1),.ostr (.va 2),.oint .i64 (.va 3),.oint .i64 (.va 4)],.arr 50 [.str,.int .i64,.int .i64,.bool,.int .i64,.int .i64,.int .i64,.int .i64] (.va 5)],1,.app 626 [.va 0,.va 1,.va 2,.va 3,.va 4,.va 5,.va 6,.va 7,.va 8,.va 9,.ci 16],.tup [],[some (.arr 50 [.str,.int .i64,.int .i64,.bool,.int .i64,.int .i64,.int .i64,.int .i64] (.va 1000))],[.app 625 [.va 0,.va 1,.va 2,.va 3,.va 4,.va 5,.va 7,.va 9]]⟩⟩
def L9:List HC:=[h_sym6,h_ysm4]
def h_sym7:HC:=⟨55,5,⟨[.ous 0 (.va 1) 7,.oint .i64 (.va 2),.oint .i64 (.va 3),.oint .i64 (.va 4),.func (.func 28) [.agg [.func (.func 24) [] []]] []],[.arr 48 [.str,.int .i64,.int .i64,.int .i64,.int .i64,.int .i64,.int .i64] (.va 0)],0,.app 426 [.va 0,.va 1,.va 2,.va 3,.va 4,.ci 128],.tup [],[some (.arr 48 [.str,.int .i64,.int .i64,.int .i64,.int .i64,.int .i64,.int .i64] (.va 1000))],[.app 425 [.va 0,.va 2,.va 4]]⟩⟩
def h_ysm5:HC:=⟨57,10,⟨[.ous 1 (.va 6) 8,.oint .i64 (.va 7),.oint .i64 (.va 8),.oint .i64 (.va 9),.func (.func 34) [] [.ptr 0 0]],[.cells 24 0 [.oint .u8 (.va 0),.ostr (.va 1),.ostr (.va 2),.oint .i64 (.va 3),.oint .i64 (.va 4)],.arr 50 [.str,.int .i64,.int .i64,.bool,.int .i64,.int .i64,.int .i64,.int .i64] (.va 5)],1,.app 626 [.va 0,.va 1,.va 2,.va 3,.va 4,.va 5,.va 6,.va 7,.va 8,.va 9,.ci 32],.tup [],[some (.arr 50 [.str,.int .i64,.int .i64,.bool,.int .i64,.int .i64,.int .i64,.int .i64] (.va 1000))],[.app 625 [.va 0,.va 1,.va 2,.va 3,.va 4,.va 5,.va 7,.va 9]]⟩⟩
def L10:List HC:=[h_sym7,h_ysm5]
def h_sym8:HC:=⟨55,5,⟨[.ous 0 (.va 1) 7,.oint .i64 (.va 2),.oint .i64 (.va 3),.oint .i64 (.va 4),.func (.func 28) [.agg [.func (.func 24) [] []]] []],[.arr 48 [.str,.int .i64,.int .i64,.int .i64,.int .i64,.int .i64,.int .i64] (.va 0)],0,.app 426 [.va 0,.va 1,.va 2,.va 3,.va 4,.ci 256],.tup [],[some (.arr 48 [.str,.int .i64,.int .i64,.int .i64,.int .i64,.int .i64,.int .i64] (.va 1000))],[.app 425 [.va 0,.va 2,.va 4]]⟩⟩
def h_ysm6:HC:=⟨57,10,⟨[.ous 1 (.va 6) 8,.oint .i64 (.va 7),.oint .i64 (.va 8),.oint .i64 (.va 9),.func (.func 34) [] [.ptr 0 0]],[.cells 24 0 [.oint .u8 (.va 0),.ostr (.va 1),.ostr (.va 2),.oint .i64 (.va 3),.oint .i64 (.va 4)],.arr 50 [.str,.int .i64,.int .i64,.bool,.int .i64,.int .i64,.int .i64,.int .i64] (.va 5)],1,.app 626 [.va 0,.va 1,.va 2,.va 3,.va 4,.va 5,.va 6,.va 7,.va 8,.va 9,.ci 64],.tup [],[some (.arr 50 [.str,.int .i64,.int .i64,.bool,.int .i64,.int .i64,.int .i64,.int .i64] (.va 1000))],[.app 625 [.va 0,.va 1,.va 2,.va 3,.va 4,.va 5,.va 7,.va 9]]⟩⟩
def L11:List HC:=[h_sym8,h_ysm6]
def h_sym9:HC:=⟨55,5,⟨[.ous 0 (.va 1) 7,.oint .i64 (.va 2),.oint .i64 (.va 3),.oint .i64 (.va 4),.func (.func 28) [.agg [.func (.func 24) [] []]] []],[.arr 48 [.str,.int .i64,.int .i64,.int .i64,.int .i64,.int .i64,.int .i64] (.va 0)],0,.app 426 [.va 0,.va 1,.va 2,.va 3,.va 4,.ci 512],.tup [],[some (.arr 48 [.str,.int .i64,.int .i64,.int .i64,.int .i64,.int .i64,.int .i64] (.va 1000))],[.app 425 [.va 0,.va 2,.va 4]]⟩⟩
def h_ysm7:HC:=⟨57,10,⟨[.ous 1 (.va 6) 8,.oint .i64 (.va 7),.oint .i64 (.va 8),.oint .i64 (.va 9),.func (.func 34) [] [.ptr 0 0]],[.cells 24 0 [.oint .u8 (.va 0),.ostr (.va 1),.ostr (.va 2),.oint .i64 (.va 3),.oint .i64 (.va 4)],.arr 50 [.str,.int .i64,.int .i64,.bool,.int .i64,.int .i64,.int .i64,.int .i64] (.va 5)],1,.app 626 [.va 0,.va 1,.va 2,.va 3,.va 4,.va 5,.va 6,.va 7,.va 8,.va 9,.ci 128],.tup [],[some (.arr 50 [.str,.int .i64,.int .i64,.bool,.int .i64,.int .i64,.int .i64,.int .i64] (.va 1000))],[.app 625 [.va 0,.va 1,.va 2,.va 3,.va 4,.va 5,.va 7,.va 9]]⟩⟩
def L12:List HC:=[h_sym9,h_ysm7]
def h_stab:HC:=⟨45,3,⟨[.ous 0 (.va 1) 7,.oint .i64 (.va 2),.func (.func 28) [.agg [.func (.func 24) [] []]] []],[.arr 48 [.str,.int .i64,.int .i64,.int .i64,.int .i64,.int .i64,.int .i64] (.va 0)],0,.app 428 [.va 0,.va 1,.va 2],.tup [],[some (.arr 48 [.str,.int .i64,.int .i64,.int .i64,.int .i64,.int .i64,.int .i64] (.va 1000))],[.app 425 [.va 0,.ci 0,.va 2]]⟩⟩
def h_ystab:HC:=⟨46,8,⟨[.ous 1 (.va 6) 8,.oint .i64 (.va 7),.func (.func 34) [] [.ptr 0 0]],[.cells 24 0 [.oint .u8 (.va 0),.ostr (.va 1),.ostr (.va 2),.oint .i64 (.va 3),.oint .i64 (.va 4)],.arr 50 [.str,.int .i64,.int .i64,.bool,.int .i64,.int .i64,.int .i64,.int .i64] (.va 5)],1,.app 628 [.va 5,.va 6,.va 7],.tup [],[some (.arr 50 [.str,.int .i64,.int .i64,.bool,.int .i64,.int .i64,.int .i64,.int .i64] (.va 1000))],[.app 625 [.va 0,.va 1,.va 2,.va 3,.va 4,.va 5,.ci 0,.va 7]]⟩⟩
def L13:List HC:=[h_stab,h_ystab]
def h_sstab:HC:=⟨27,1,⟨[.ous 0 (.op .llen [.va 0]) 7,.func (.func 28) [.agg [.func (.func 24) [] []]] []],[.arr 48 [.str,.int .i64,.int .i64,.int .i64,.int .i64,.int .i64,.int .i64] (.va 0)],0,.op .and [.op (.cmp .leq) [.op .llen [.va 0],.ci 400],.app 431 [.va 0]],.tup [],[some (.arr 48 [.str,.int .i64,.int .i64,.int .i64,.int .i64,.int .i64,.int .i64] (.va 1000))],[.app 425 [.va 0,.ci 0,.op .llen [.va 0]]]⟩⟩
def h_ysstab:HC:=⟨33,6,⟨[.ous 1 (.op .llen [.va 5]) 8,.func (.func 34) [] [.ptr 0 0]],[.cells 24 0 [.oint .u8 (.va 0),.ostr (.va 1),.ostr (.va 2),.oint .i64 (.va 3),.oint .i64 (.va 4)],.arr 50 [.str,.int .i64,.int .i64,.bool,.int .i64,.int .i64,.int .i64,.int .i64] (.va 5)],1,.op .and [.op (.cmp .leq) [.op .llen [.va 5],.ci 100],.app 631 [.va 5]],.tup [],[some (.arr 50 [.str,.int .i64,.int .i64,.bool,.int .i64,.int .i64,.int .i64,.int .i64] (.va 1000))],[.app 625 [.va 0,.va 1,.va 2,.va 3,.va 4,.va 5,.ci 0,.op .llen [.va 5]]]⟩⟩
def L14:List HC:=[h_sstab,h_ysstab]
def h_aggSort:HC:=⟨11,1,⟨[.bool false,.osl 0 (.ci 0) (.op .llen [.va 0]) 7],[.arr 4294967295 [.str,.int .i64,.int .i64,.int .i64,.int .i64,.int .i64,.int .i64] (.va 0)],1,.op .and [.op (.cmp .leq) [.op .llen [.va 0],.ci 400],.app 431 [.va 0]],.ous 1 (.op .llen [.va 1000]) 7,[some (.arr 48 [.str,.int .i64,.int .i64,.int .i64,.int .i64,.int .i64,.int .i64] (.va 1000))],[.app 490 [.va 0]]⟩⟩
def h_aggSortB:HC:=⟨11,2,⟨[.bool false,.ous 0 (.va 0) 7],[.bag 48 [.str,.int .i64,.int .i64,.int .i64,.int .i64,.int .i64,.int .i64] (.va 1)],1,.op .and [.op (.cmp .eql) [.va 0,.op .llen [.va 1]],.op .and [.op .and [.op (.cmp .leq) [.op .llen [.va 1],.ci 400],.app 431 [.va 1]],.app 491 [.va 1]]],.ous 1 (.op .llen [.va 1000]) 7,[some (.arr 48 [.str,.int .i64,.int .i64,.int .i64,.int .i64,.int .i64,.int .i64] (.va 1000))],[.app 490 [.va 1]]⟩⟩
def h_right:HC:=⟨8,2,⟨[.osl 0 (.ci 0) (.op .llen [.va 0]) 7,.osl 1 (.ci 0) (.op .llen [.va 1]) 8],[.arr 4294967295 [.str,.int .i64,.int .i64,.int .i64,.int .i64,.int .i64,.int .i64] (.va 0),.arr 4294967295 [.str,.int .i64,.int .i64,.bool,.int .i64,.int .i64,.int .i64,.int .i64] (.va 1)],2,.op .and [.op (.cmp .leq) [.op .llen [.va 0],.ci 400],.op (.cmp .leq) [.op .llen [.va 1],.ci 400]],.obool (.va 1000),[],[.app 220 [.va 0,.va 1]]⟩⟩
def h_of:HC:=⟨13,6,⟨[.agg [.oint .u8 (.va 0),.ostr (.va 1),.ostr (.va 2),.oint .i64 (.va 3),.oint .i64 (.va 4)],.osl 0 (.ci 0) (.op .llen [.va 5]) 8],[.arr 4294967295 [.str,.int .i64,.int .i64,.bool,.int .i64,.int .i64,.int .i64,.int .i64] (.va 5)],1,.op .and [.op (.cmp .leq) [.op .llen [.va 5],.ci 100],.app 631 [.va 5]],.ous 1 (.op .llen [.va 1000]) 8,[some (.arr 50 [.str,.int .i64,.int .i64,.bool,.int .i64,.int .i64,.int .i64,.int .i64] (.va 1000))],[.app 630 [.va 0,.va 1,.va 2,.va 3,.va 4,.va 5]]⟩⟩
def h_had:HC:=⟨12,6,⟨[.agg [.oint .u8 (.va 0),.ostr (.va 1),.ostr (.va 2),.oint .i64 (.va 3),.oint .i64 (.va 4)],.osl 0 (.ci 0) (.op .llen [.va 5]) 7],[.arr 4294967295 [.str,.int .i64,.int .i64,.int .i64,.int .i64,.int .i64,.int .i64] (.va 5)],1,.op .and [.op (.cmp .leq) [.op .llen [.va 5],.ci 400],.app 431 [.va 5]],.ous 1 (.op .llen [.va 1000]) 7,[some (.arr 48 [.str,.int .i64,.int .i64,.int .i64,.int .i64,.int .i64,.int .i64] (.va 1000))],[.app 680 [.va 0,.va 1,.va 2,.va 3,.va 4,.va 5]]⟩⟩
def L15:List HC:=[h_aggSort,h_aggSortB,h_right,h_of,h_had]
def h_applyA:HC:=⟨9,2,⟨[.osl 0 (.ci 0) (.op .llen [.va 0]) 7,.osl 1 (.ci 0) (.op .llen [.va 1]) 8],[.arr 4294967295 [.str,.int .i64,.int .i64,.int .i64,.int .i64,.int .i64,.int .i64] (.va 0),.arr 4294967295 [.str,.int .i64,.int .i64,.bool,.int .i64,.int .i64,.int .i64,.int .i64] (.va 1)],2,.op .and [.op .and [.op (.cmp .leq) [.op .llen [.va 0],.ci 200],.op (.cmp .leq) [.op .llen [.va 1],.ci 200]],.op .and [.app 431 [.va 0],.app 433 [.va 1]]],.tup [.ous 2 (.op .llen [.va 1001]) 7,.oint .i64 (.va 1000)],[some (.arr 48 [.str,.int .i64,.int .i64,.int .i64,.int .i64,.int .i64,.int .i64] (.va 1001))],[.app 232 [.va 0,.va 1],.app 222 [.va 0,.va 1]]⟩⟩
def h_diff:HC:=⟨7,2,⟨[.osl 0 (.ci 0) (.op .llen [.va 0]) 7,.osl 1 (.ci 0) (.op .llen [.va 1]) 7],[.arr 4294967295 [.str,.int .i64,.int .i64,.int .i64,.int .i64,.int .i64,.int .i64] (.va 0),.arr 4294967295 [.str,.int .i64,.int .i64,.int .i64,.int .i64,.int .i64,.int .i64] (.va 1)],2,.op .and [.op (.cmp .leq) [.op .llen [.va 0],.ci 400],.op (.cmp .leq) [.op .llen [.va 1],.ci 400]],.tup [.ous 2 (.op .llen [.va 1001]) 8,.oint .i64 (.va 1000)],[some (.arr 50 [.str,.int .i64,.int .i64,.bool,.int .i64,.int .i64,.int .i64,.int .i64] (.va 1001))],[.app 209 [.va 0,.va 1],.app 208 [.va 0,.va 1]]⟩⟩
def L16:List HC:=[h_applyA,h_diff]
def h_deltaMakes:HC:=⟨3,8,⟨[.osl 0 (.ci 0) (.op .llen [.va 0]) 7,.osl 1 (.ci 0) (.op .llen [.va 1]) 7,.osl 2 (.ci 0) (.op .llen [.va 2]) 7,.agg [.oint .u8 (.va 3),.ostr (.va 4),.ostr (.va 5),.oint .i64 (.va 6),.oint .i64 (.va 7)]],[.arr 4294967295 [.str,.int .i64,.int .i64,.int .i64,.int .i64,.int .i64,.int .i64] (.va 0),.arr 4294967295 [.str,.int .i64,.int .i64,.int .i64,.int .i64,.int .i64,.int .i64] (.va 1),.arr 4294967295 [.str,.int .i64,.int .i64,.int .i64,.int .i64,.int .i64,.int .i64] (.va 2)],3,.op .and [.app 431 [.va 0],.op .and [.app 431 [.va 1],.app 431 [.va 2]]],.obool (.va 1000),[],[.cb true]⟩⟩
def L17:List HC:=[h_deltaMakes]
theorem names:(Tryz.prog.funcs.toList.all fun fn=> !(fn.name== "runtime.NumGoroutine"))=true:=by kernel_rfl
theorem ext90: ∃fn:Func,Tryz.prog.funcs[90]? =some fn∧fn.body=none∧Extern.findNext fn=none∧Extern.find fn=some (Ext.count).model:=
 ⟨_,Tryz.func90,by kernel_rfl,by kernel_rfl,by kernel_rfl⟩
theorem ext99: ∃fn:Func,Tryz.prog.funcs[99]? =some fn∧fn.body=none∧Extern.findNext fn=none∧Extern.find fn=some (Ext.indexByte).model:=
 ⟨_,Tryz.func99,by kernel_rfl,by kernel_rfl,by kernel_rfl⟩
theorem ext83: ∃fn:Func,Tryz.prog.funcs[83]? =some fn∧fn.body=none∧Extern.findNext fn=none∧Extern.find fn=some (Ext.ident).model:=
 ⟨_,Tryz.func83,by kernel_rfl,by kernel_rfl,by kernel_rfl⟩
theorem ext94: ∃fn:Func,Tryz.prog.funcs[94]? =some fn∧fn.body=none∧Extern.findNext fn=none∧Extern.find fn=some (Ext.makeNoZero 102).model:=
 ⟨_,Tryz.func94,by kernel_rfl,by kernel_rfl,by kernel_rfl⟩
theorem env0_ok(ω:Opq)(hω: ∀t,ω.fix t=av0 Tryz.prog t):env0.Ok ω:=by
 refine⟨hω,fun f fn h=> ?_,fun f e h=> ?_,fun _ _ _ _ h=>(by cases h),fun _ _ _ h=>(by cases h),fun _ _ _ h=>(by cases h),fun _ _ _ _ _ h=>(by cases h)⟩
 ·have h1:=j6.1 names fn (by
   obtain⟨h2,rfl⟩:=N8.1 h
   exact Array.mem_toList_iff.2 (Array.getElem_mem h2))
  simpa using h1
 ·have h:(bif Nat.beq f 90 then some (.count)else bif Nat.beq f 99 then some (.indexByte)else bif Nat.beq f 83 then some (.ident)else bif Nat.beq f 94 then some (.makeNoZero 102)else none:Option Ext)=some e:=h
  cases hf90:Nat.beq f 90 with
  |true=>
   rw[hf90]at h
   obtain rfl:f=90:=by simpa using hf90
   cases h
   exact ext90
  |false=>
   rw[hf90]at h
   simp only[cond_false]at h
   cases hf99:Nat.beq f 99 with
   |true=>
    rw[hf99]at h
    obtain rfl:f=99:=by simpa using hf99
    cases h
    exact ext99
   |false=>
    rw[hf99]at h
    simp only[cond_false]at h
    cases hf83:Nat.beq f 83 with
    |true=>
     rw[hf83]at h
     obtain rfl:f=83:=by simpa using hf83
     cases h
     exact ext83
    |false=>
     rw[hf83]at h
     simp only[cond_false]at h
     cases hf94:Nat.beq f 94 with
     |true=>
      rw[hf94]at h
      obtain rfl:f=94:=by simpa using hf94
      cases h
      exact ext94
     |false=>
      rw[hf94]at h
      simp only[cond_false]at h
      cases h
theorem env_ok(ω:Opq)(hω: ∀t,ω.fix t=av0 Tryz.prog t):env.Ok ω:=
 let h:=env0_ok ω hω
 ⟨h.fix,h.name,h.ext,h.bin,h.un,h.conv,h.blt⟩
theorem orders:Tryz.prog.follows .mixedOrders=true:=by kernel_rfl
noncomputable def H0:List HC:=[]
noncomputable def H1:List HC:=L0++H0
noncomputable def H2:List HC:=L1++H1
noncomputable def H3:List HC:=L2++H2
noncomputable def H4:List HC:=L3++H3
noncomputable def H5:List HC:=L4++H4
noncomputable def H6:List HC:=L5++H5
noncomputable def H7:List HC:=L6++H6
noncomputable def H8:List HC:=L7++H7
noncomputable def H9:List HC:=L8++H8
noncomputable def H10:List HC:=L9++H9
noncomputable def H11:List HC:=L10++H10
noncomputable def H12:List HC:=L11++H11
noncomputable def H13:List HC:=L12++H12
noncomputable def H14:List HC:=L13++H13
noncomputable def H15:List HC:=L14++H14
noncomputable def H16:List HC:=L15++H15
noncomputable def H17:List HC:=L16++H16
theorem r_works:FC.run env0 1000000 h_works.f h_works.c h_works.c.args=c85:=by kernel_rfl
theorem r_fewRows:FC.run (env.hooks H1) 1000000 h_fewRows.f h_fewRows.c h_fewRows.c.args=ay2:=by kernel_rfl
theorem r_prim:FC.run (env.hooks H1) 1000000 h_prim.f h_prim.c h_prim.c.args=T_prim:=by kernel_rfl
theorem r_repl:FC.run (env.hooks H1) 1000000 h_repl.f h_repl.c h_repl.c.args=S8.T_repl:=by kernel_rfl
theorem r_has:FC.run (env.hooks H1) 1000000 h_has.f h_has.c h_has.c.args=S8.T_has:=by kernel_rfl
theorem r_partI:FC.run (env.hooks H1) 1000000 h_partI.f h_partI.c h_partI.c.args=S8.T_partI:=by kernel_rfl
theorem r_cloneR:FC.run (env.hooks H1) 1000000 h_cloneR.f h_cloneR.c h_cloneR.c.args=ay6:=by kernel_rfl
theorem r_swapR:FC.run (env.hooks H1) 1000000 h_swapR.f h_swapR.c h_swapR.c.args=T_swapR:=by kernel_rfl
theorem r_cmpR:FC.run (env.hooks H1) 1000000 h_cmpR.f h_cmpR.c h_cmpR.c.args=bE8:=by kernel_rfl
theorem r_sameR:FC.run (env.hooks H1) 1000000 h_sameR.f h_sameR.c h_sameR.c.args=S8.T_sameR:=by kernel_rfl
theorem r_sameC:FC.run (env.hooks H1) 1000000 h_sameC.f h_sameC.c h_sameC.c.args=S8.T_sameC:=by kernel_rfl
theorem r_cloneC:FC.run (env.hooks H1) 1000000 h_cloneC.f h_cloneC.c h_cloneC.c.args=S8.T_cloneC:=by kernel_rfl
theorem r_yswap:FC.run (env.hooks H1) 1000000 h_yswap.f h_yswap.c h_yswap.c.args=S8.T_swapR:=by kernel_rfl
theorem r_rotC:FC.run (env.hooks H2) 1000000 h_rotC.f h_rotC.c h_rotC.c.args=T_rotC:=by kernel_rfl
theorem r_partT:FC.run (env.hooks H2) 1000000 h_partT.f h_partT.c h_partT.c.args=S8.T_partT:=by kernel_rfl
theorem r_yrot:FC.run (env.hooks H2) 1000000 h_yrot.f h_yrot.c h_yrot.c.args=S8.T_rotC:=by kernel_rfl
theorem r_insC:FC.run (env.hooks H3) 1000000 h_insC.f h_insC.c h_insC.c.args=T_insC:=by kernel_rfl
theorem r_kprim:FC.run (env.hooks H3) 1000000 h_kprim.f h_kprim.c h_kprim.c.args=S8.T_prim:=by kernel_rfl
theorem r_ksec:FC.run (env.hooks H3) 1000000 h_ksec.f h_ksec.c h_ksec.c.args=S8.T_sec:=by kernel_rfl
theorem r_sym1:FC.run (env.hooks H4) 1000000 h_sym1.f h_sym1.c h_sym1.c.args=T_sym 1:=by kernel_rfl
theorem r_cmpC:FC.run (env.hooks H4) 1000000 h_cmpC.f h_cmpC.c h_cmpC.c.args=S8.T_cmpC:=by kernel_rfl
theorem r_sym2:FC.run (env.hooks H5) 1000000 h_sym2.f h_sym2.c h_sym2.c.args=T_sym 2:=by kernel_rfl
theorem r_yins:FC.run (env.hooks H5) 1000000 h_yins.f h_yins.c h_yins.c.args=S8.T_insC:=by kernel_rfl
theorem r_sym3:FC.run (env.hooks H6) 1000000 h_sym3.f h_sym3.c h_sym3.c.args=T_sym 4:=by kernel_rfl
theorem r_ysm1:FC.run (env.hooks H6) 1000000 h_ysm1.f h_ysm1.c h_ysm1.c.args=S8.T_sym 1:=by kernel_rfl
theorem r_sym4:FC.run (env.hooks H7) 1000000 h_sym4.f h_sym4.c h_sym4.c.args=T_sym 8:=by kernel_rfl
theorem r_ysm2:FC.run (env.hooks H7) 1000000 h_ysm2.f h_ysm2.c h_ysm2.c.args=S8.T_sym 2:=by kernel_rfl
theorem r_sym5:FC.run (env.hooks H8) 1000000 h_sym5.f h_sym5.c h_sym5.c.args=T_sym 16:=by kernel_rfl
theorem r_ysm3:FC.run (env.hooks H8) 1000000 h_ysm3.f h_ysm3.c h_ysm3.c.args=S8.T_sym 4:=by kernel_rfl
theorem r_sym6:FC.run (env.hooks H9) 1000000 h_sym6.f h_sym6.c h_sym6.c.args=T_sym 32:=by kernel_rfl
theorem r_ysm4:FC.run (env.hooks H9) 1000000 h_ysm4.f h_ysm4.c h_ysm4.c.args=S8.T_sym 8:=by kernel_rfl
theorem r_sym7:FC.run (env.hooks H10) 1000000 h_sym7.f h_sym7.c h_sym7.c.args=T_sym 64:=by kernel_rfl
theorem r_ysm5:FC.run (env.hooks H10) 1000000 h_ysm5.f h_ysm5.c h_ysm5.c.args=S8.T_sym 16:=by kernel_rfl
theorem r_sym8:FC.run (env.hooks H11) 1000000 h_sym8.f h_sym8.c h_sym8.c.args=T_sym 128:=by kernel_rfl
theorem r_ysm6:FC.run (env.hooks H11) 1000000 h_ysm6.f h_ysm6.c h_ysm6.c.args=S8.T_sym 32:=by kernel_rfl
theorem r_sym9:FC.run (env.hooks H12) 1000000 h_sym9.f h_sym9.c h_sym9.c.args=T_sym 256:=by kernel_rfl
theorem r_ysm7:FC.run (env.hooks H12) 1000000 h_ysm7.f h_ysm7.c h_ysm7.c.args=S8.T_sym 64:=by kernel_rfl
theorem r_stab:FC.run (env.hooks H13) 1000000 h_stab.f h_stab.c h_stab.c.args=T_stab:=by kernel_rfl
theorem r_ystab:FC.run (env.hooks H13) 1000000 h_ystab.f h_ystab.c h_ystab.c.args=S8.T_stab:=by kernel_rfl
theorem r_sstab:FC.run (env.hooks H14) 1000000 h_sstab.f h_sstab.c h_sstab.c.args=T_sstab:=by kernel_rfl
theorem r_ysstab:FC.run (env.hooks H14) 1000000 h_ysstab.f h_ysstab.c h_ysstab.c.args=S8.T_sstab:=by kernel_rfl
theorem r_aggSort:FC.run (env.hooks H15) 1000000 h_aggSort.f h_aggSort.c h_aggSort.c.args=az2:=by kernel_rfl
theorem r_right:FC.run (env.hooks H15) 1000000 h_right.f h_right.c h_right.c.args=b83:=by kernel_rfl
theorem r_of:FC.run (env.hooks H15) 1000000 h_of.f h_of.c h_of.c.args=S8.T_of:=by kernel_rfl
theorem r_had:FC.run (env.hooks H15) 1000000 h_had.f h_had.c h_had.c.args=S8.T_had:=by kernel_rfl
theorem r_applyA:FC.run (env.hooks H16) 1000000 h_applyA.f h_applyA.c h_applyA.c.args=aJ2:=by kernel_rfl
theorem r_diff:FC.run (env.hooks H16) 1000000 h_diff.f h_diff.c h_diff.c.args=bE5:=by kernel_rfl
theorem r_deltaMakes:FC.run (env.hooks H17) 1000000 h_deltaMakes.f h_deltaMakes.c h_deltaMakes.c.args=S8.T_deltaMakes:=by kernel_rfl
open Go Go.Ev Go.Shelf
def Om(ω:Opq):Prop:=OmF F Tryz.prog ω
theorem om_upd(ω:Opq)(v0:Nat)(l:List Val)(h:Om ω):Om (ω.upd v0 l):=h
theorem om_f{ω:Opq}(h:Om ω): ∀i a,ω.f i a=F i a:=fun i a=>by rw[h.1]
theorem e_ok(ω:Opq)(h:Om ω):env.Ok ω:=env_ok ω h.2
theorem e0_ok(ω:Opq)(h:Om ω):env0.Ok ω:=env0_ok ω h.2
theorem h0_ok: ∀x∈H0,T8 env Om x:=fun x hx=>by cases hx
theorem k_works:T8 env Om h_works:=
 Q3 (E:=env0) (cs:=[]) om_upd e0_ok orders (fun x hx=>by cases hx) (n:=1000000) (by kernel_rfl) (Q6 (T:=c85) r_works fun ω hω hn=>by
   exact rfl)
theorem l0_ok: ∀x∈L0,T8 env Om x:=by
 exact R5 (fun x hx=>(by cases hx)) k_works
theorem h1_ok: ∀x∈H1,T8 env Om x:=a63 h0_ok l0_ok
theorem k_fewRows:T8 env Om h_fewRows:=
 Q3 (E:=env) (cs:=H1) om_upd e_ok orders h1_ok (n:=1000000) (by kernel_rfl) (Q6 (T:=ay2) r_fewRows fun ω hω hn=>by
   have hn:=hn
   simp only[h_fewRows,dB,den,P2,W0,S0,O9,Q4,af4,R1,U7,Q0,decide_eq_true_eq,e8,j5]at hn
   exact(cc9 (om_f hω) (by omega)).trans (by simp only[h_fewRows,P2,den,W0,om_f hω,O9,Q4]))
theorem k_prim:T8 env Om h_prim:=
 Q3 (E:=env) (cs:=H1) om_upd e_ok orders h1_ok (n:=1000000) (by kernel_rfl) (Q6 (T:=T_prim) r_prim fun ω hω hn=>by
   exact(t_prim).trans (by simp only[h_prim,P2,den,W0,om_f hω,O9,Q4]))
theorem k_repl:T8 env Om h_repl:=
 Q3 (E:=env) (cs:=H1) om_upd e_ok orders h1_ok (n:=1000000) (by kernel_rfl) (Q6 (T:=S8.T_repl) r_repl fun ω hω hn=>by
   have hn:=hn
   simp only[h_repl,dB,den,P2,W0,S0,O9,Q4,af4,R1,U7,Q0,decide_eq_true_eq,e8,j5]at hn
   exact(S8.t_repl (S8.fx (om_f hω)) (by omega)).trans (by simp only[h_repl,P2,den,W0,om_f hω,O9,Q4,←S8.F_fx]))
theorem k_has:T8 env Om h_has:=
 Q3 (E:=env) (cs:=H1) om_upd e_ok orders h1_ok (n:=1000000) (by kernel_rfl) (Q6 (T:=S8.T_has) r_has fun ω hω hn=>by
   exact(S8.t_has).trans (by simp only[h_has,P2,den,W0,om_f hω,O9,Q4]))
theorem k_partI:T8 env Om h_partI:=
 Q3 (E:=env) (cs:=H1) om_upd e_ok orders h1_ok (n:=1000000) (by kernel_rfl) (Q6 (T:=S8.T_partI) r_partI fun ω hω hn=>by
   exact(S8.t_partI (S8.fx (om_f hω))).trans (by simp only[h_partI,P2,den,W0,om_f hω,O9,Q4,←S8.F_fx]))
theorem k_cloneR:T8 env Om h_cloneR:=
 Q3 (E:=env) (cs:=H1) om_upd e_ok orders h1_ok (n:=1000000) (by kernel_rfl) (Q6 (T:=ay6) r_cloneR fun ω hω hn=>by
   have hn:(decide (((ω.w 0).toL.length:Int)≤400)&&(ω.f 431 [ω.w 0]).toB)=true:=hn
   obtain⟨h1,h2⟩:=O4 hn
   rw[om_f hω]at h2
   exact(S7.t_cloneR (om_f hω) (by have:=of_decide_eq_true h1;omega) h2).trans (by simp only[h_cloneR,P2,den,om_f hω]))
theorem k_swapR:T8 env Om h_swapR:=
 Q3 (E:=env) (cs:=H1) om_upd e_ok orders h1_ok (n:=1000000) (by kernel_rfl) (Q6 (T:=T_swapR) r_swapR fun ω hω hn=>by
   have hn:(ω.f 420 [ω.w 0,ω.w 1,ω.w 2,ω.w 3,ω.w 4]).toB=true:=hn
   rw[om_f hω]at hn
   exact(S7.t_swapR (om_f hω) hn).trans (by simp only[h_swapR,P2,den,om_f hω]))
theorem k_cmpR:T8 env Om h_cmpR:=
 Q3 (E:=env) (cs:=H1) om_upd e_ok orders h1_ok (n:=1000000) (by kernel_rfl) (Q6 (T:=bE8) r_cmpR fun ω hω hn=>by
   exact(S7.t_cmpR).trans (by simp only[h_cmpR,P2,den,W0,om_f hω,O9,Q4]))
theorem k_sameR:T8 env Om h_sameR:=
 Q3 (E:=env) (cs:=H1) om_upd e_ok orders h1_ok (n:=1000000) (by kernel_rfl) (Q6 (T:=S8.T_sameR) r_sameR fun ω hω hn=>by
   have hn:=hn
   simp only[h_sameR,dB,den,P2,W0,S0,O9,Q4,af4,R1,U7,Q0,decide_eq_true_eq,e8,j5]at hn
   exact(S8.t_sameR (om_f hω) (by omega)).trans (by simp only[h_sameR,P2,den,W0,om_f hω,O9,Q4]))
theorem k_sameC:T8 env Om h_sameC:=
 Q3 (E:=env) (cs:=H1) om_upd e_ok orders h1_ok (n:=1000000) (by kernel_rfl) (Q6 (T:=S8.T_sameC) r_sameC fun ω hω hn=>by
   have hn:=hn
   simp only[h_sameC,dB,den,P2,W0,S0,O9,Q4,af4,R1,U7,Q0,decide_eq_true_eq,e8,j5]at hn
   exact(S8.t_sameC (om_f hω) (by omega)).trans (by simp only[h_sameC,P2,den,W0,om_f hω,O9,Q4]))
theorem k_cloneC:T8 env Om h_cloneC:=
 Q3 (E:=env) (cs:=H1) om_upd e_ok orders h1_ok (n:=1000000) (by kernel_rfl) (Q6 (T:=S8.T_cloneC) r_cloneC fun ω hω hn=>by
   have hn:(decide (((ω.w 0).toL.length:Int)≤100)&&(ω.f 631 [ω.w 0]).toB)=true:=hn
   obtain⟨h1,h2⟩:=O4 hn
   rw[om_f hω]at h2
   exact(S8.t_cloneC (by have:=of_decide_eq_true h1;omega) (O4 h2).1).trans (by simp only[h_cloneC,P2,den,W0,om_f hω]))
theorem k_yswap:T8 env Om h_yswap:=
 Q3 (E:=env) (cs:=H1) om_upd e_ok orders h1_ok (n:=1000000) (by kernel_rfl) (Q6 (T:=S8.T_swapR) r_yswap fun ω hω hn=>by
   have hn:(ω.f 620 [ω.w 5,ω.w 6,ω.w 7,ω.w 8,ω.w 9]).toB=true:=hn
   rw[om_f hω]at hn
   exact(S8.t_swapR (om_f hω) hn).trans (by simp only[h_yswap,P2,den,om_f hω]))
theorem l1_ok: ∀x∈L1,T8 env Om x:=by
 exact R5 (R5 (R5 (R5 (R5 (R5 (R5 (R5 (R5 (R5 (R5 (R5 (fun x hx=>(by cases hx)) k_yswap) k_cloneC) k_sameC) k_sameR) k_cmpR) k_swapR) k_cloneR) k_partI) k_has) k_repl) k_prim) k_fewRows
theorem h2_ok: ∀x∈H2,T8 env Om x:=a63 h1_ok l1_ok
def sortRen:Go.Shelf.Ren:=⟨fun|6=>40|15=>52|14=>51|28=>66|29=>67|20=>56|21=>59|22=>60|23=>61|24=>62|25=>63|26=>64|27=>65|46=>73|47=>74|48=>75|49=>76|50=>77|57=>82|n=>n,fun|22=>28|24=>50|25=>70|3=>3|39=>80|0=>0|53=>97|55=>99|4=>4|46=>90|45=>89|50=>94|5=>5|9=>9|66=>110|70=>114|76=>119|77=>120|n=>n,fun|n=>n⟩
theorem sortLays:Go.Proofs.SlLaysF0.n6 Tryz.prog sortRen:={
 mixed:=by kernel_rfl
 f6:=⟨Tryz.f40.name,by decide,Tryz.func40.trans (congrArg some (by kernel_rfl))⟩
 f14:=⟨Tryz.f51.name,by decide,Tryz.func51.trans (congrArg some (by kernel_rfl))⟩
 f15:=Tryz.func52.trans (congrArg some (by kernel_rfl))
 f20:=⟨Tryz.f56.name,by decide,Tryz.func56.trans (congrArg some (by kernel_rfl))⟩
 f21:=⟨Tryz.f59.name,by decide,Tryz.func59.trans (congrArg some (by kernel_rfl))⟩
 f22:=⟨Tryz.f60.name,by decide,Tryz.func60.trans (congrArg some (by kernel_rfl))⟩
 f23:=⟨Tryz.f61.name,by decide,Tryz.func61.trans (congrArg some (by kernel_rfl))⟩
 f24:=⟨Tryz.f62.name,by decide,Tryz.func62.trans (congrArg some (by kernel_rfl))⟩
 f25:=⟨Tryz.f63.name,by decide,Tryz.func63.trans (congrArg some (by kernel_rfl))⟩
 f26:=⟨Tryz.f64.name,by decide,Tryz.func64.trans (congrArg some (by kernel_rfl))⟩
 f27:=⟨Tryz.f65.name,by decide,Tryz.func65.trans (congrArg some (by kernel_rfl))⟩
 f28:=Tryz.func66.trans (congrArg some (by kernel_rfl))
 f29:=Tryz.func67.trans (congrArg some (by kernel_rfl))
 f46:=⟨Tryz.f73.name,by decide,Tryz.func73.trans (congrArg some (by kernel_rfl))⟩
 f47:=Tryz.func74.trans (congrArg some (by kernel_rfl))
 f48:=Tryz.func75.trans (congrArg some (by kernel_rfl))
 f49:=⟨Tryz.f76.name,by decide,Tryz.func76.trans (congrArg some (by kernel_rfl))⟩
 f50:=⟨Tryz.f77.name,by decide,Tryz.func77.trans (congrArg some (by kernel_rfl))⟩
 f57:=⟨Tryz.f82.name,by decide,Tryz.func82.trans (congrArg some (by kernel_rfl))⟩
 t0:=Tryz.underlying0
 a0:=Tryz.isAgg0
 z0:=Tryz.sizeOf0
 v0:=Tryz.zeroValue0
 t3:=Tryz.underlying3
 a3:=Tryz.isAgg3
 z3:=Tryz.sizeOf3
 v3:=Tryz.zeroValue3
 t4:=Tryz.underlying4
 a4:=Tryz.isAgg4
 z4:=Tryz.sizeOf4
 v4:=Tryz.zeroValue4
 t5:=Tryz.underlying5
 a5:=Tryz.isAgg5
 z5:=Tryz.sizeOf5
 v5:=Tryz.zeroValue5
 t9:=Tryz.underlying9
 a9:=Tryz.isAgg9
 z9:=Tryz.sizeOf9
 v9:=Tryz.zeroValue9
 t22:=Tryz.underlying28
 a22:=Tryz.isAgg28
 z22:=Tryz.sizeOf28
 v22:=Tryz.zeroValue28
 t25:=Tryz.underlying70
 a25:=Tryz.isAgg70
 z25:=Tryz.sizeOf70
 v25:=Tryz.zeroValue70
 t39:=Tryz.underlying80
 a39:=Tryz.isAgg80
 z39:=Tryz.sizeOf80
 v39:=Tryz.zeroValue80
 t45:=Tryz.underlying89
 a45:=Tryz.isAgg89
 z45:=Tryz.sizeOf89
 v45:=Tryz.zeroValue89
 t46:=Tryz.underlying90
 a46:=Tryz.isAgg90
 z46:=Tryz.sizeOf90
 v46:=Tryz.zeroValue90
 t50:=Tryz.underlying94
 a50:=Tryz.isAgg94
 z50:=Tryz.sizeOf94
 v50:=Tryz.zeroValue94
 t53:=Tryz.underlying97
 a53:=Tryz.isAgg97
 z53:=Tryz.sizeOf97
 v53:=Tryz.zeroValue97
 t55:=Tryz.underlying99
 a55:=Tryz.isAgg99
 z55:=Tryz.sizeOf99
 v55:=Tryz.zeroValue99
 t66:=Tryz.underlying110
 a66:=Tryz.isAgg110
 z66:=Tryz.sizeOf110
 v66:=Tryz.zeroValue110
 t70:=Tryz.underlying114
 a70:=Tryz.isAgg114
 z70:=Tryz.sizeOf114
 v70:=Tryz.zeroValue114
 t76:=Tryz.underlying119
 a76:=Tryz.isAgg119
 z76:=Tryz.sizeOf119
 v76:=Tryz.zeroValue119
 t77:=Tryz.underlying120
 a77:=Tryz.isAgg120
 z77:=Tryz.sizeOf120
 v77:=Tryz.zeroValue120}
noncomputable def om0:Opq:=⟨ω0.v,ω0.w,F,ω0.one,av0 Tryz.prog,fun _=>none⟩
theorem omF_mk(G:Nat→List Val→Val)(P:Program):OmF G P ⟨ω0.v,ω0.w,G,ω0.one,av0 P,fun _=>none⟩:=⟨rfl,fun _=>rfl⟩
theorem om0_ok:Om om0:=omF_mk F Tryz.prog
theorem k_cmp:cq9 Tryz.prog 41 [.str,.int .i64,.int .i64,.bool,.int .i64,.int .i64,.int .i64,.int .i64] cfV:=
 d09 (E:=env) om_upd om0_ok k_prim (x:= .app 206 [.va 0,.va 1,.va 2,.va 8,.va 9,.va 10]) (h2:=Heap.empty) (by kernel_rfl) (fun ω hω a b ha hb=>by
   have a0:ω.w 0=a.toL.getD 0 default:=ha 0 (by decide)
   have a1:ω.w 1=a.toL.getD 1 default:=ha 1 (by decide)
   have a2:ω.w 2=a.toL.getD 2 default:=ha 2 (by decide)
   have b0:ω.w 8=b.toL.getD 0 default:=hb 0 (by decide)
   have b1:ω.w 9=b.toL.getD 1 default:=hb 1 (by decide)
   have b2:ω.w 10=b.toL.getD 2 default:=hb 2 (by decide)
   show(ω.f 206 [ω.w 0,ω.w 1,ω.w 2,ω.w 8,ω.w 9,ω.w 10]).toI=_
   rw[om_f hω,a0,a1,a2,b0,b1,b2];rfl)
theorem k_SORT:T8 env Om h_SORT:=
 (c84 (E:=env) om_upd (nv:=2) (by kernel_rfl) (cI7 (E:=env) sortLays (f:=40) rfl (g:=41) (sig:=[.str,.int .i64,.int .i64,.bool,.int .i64,.int .i64,.int .i64,.int .i64]) (e:=50) (id:=211) (cf:=cfV) Tryz.isAgg50 Tryz.sizeOf50 ca1 (enters_of Tryz.func41 (by kernel_rfl) rfl) k_cmp (fun ω hω l=>by rw[om_f hω];rfl) (by kernel_rfl)):T8 env Om ⟨40,2,c83 41 50 [.str,.int .i64,.int .i64,.bool,.int .i64,.int .i64,.int .i64,.int .i64] 211⟩)
theorem k_rotC:T8 env Om h_rotC:=
 Q3 (E:=env) (cs:=H2) om_upd e_ok orders h2_ok (n:=1000000) (by kernel_rfl) (Q6 (T:=T_rotC) r_rotC fun ω hω hn=>by
   have hn:(ω.f 422 [ω.w 0,ω.w 1,ω.w 2,ω.w 3,ω.w 4]).toB=true:=hn
   rw[om_f hω]at hn
   exact(S7.t_rotC (om_f hω) hn).trans (by simp only[h_rotC,P2,den,om_f hω]))
theorem k_partT:T8 env Om h_partT:=
 Q3 (E:=env) (cs:=H2) om_upd e_ok orders h2_ok (n:=1000000) (by kernel_rfl) (Q6 (T:=S8.T_partT) r_partT fun ω hω hn=>by
   have hn:=hn
   simp only[h_partT,dB,den,P2,W0,S0,O9,Q4,af4,R1,U7,Q0,decide_eq_true_eq,e8,j5]at hn
   exact(S8.t_partT (S8.fx (om_f hω)) (by omega)).trans (by simp only[h_partT,P2,den,W0,om_f hω,O9,Q4,←S8.F_fx]))
theorem k_yrot:T8 env Om h_yrot:=
 Q3 (E:=env) (cs:=H2) om_upd e_ok orders h2_ok (n:=1000000) (by kernel_rfl) (Q6 (T:=S8.T_rotC) r_yrot fun ω hω hn=>by
   have hn:(ω.f 622 [ω.w 5,ω.w 6,ω.w 7,ω.w 8,ω.w 9]).toB=true:=hn
   rw[om_f hω]at hn
   exact(S8.t_rotC (om_f hω) hn).trans (by simp only[h_yrot,P2,den,om_f hω]))
theorem l2_ok: ∀x∈L2,T8 env Om x:=by
 exact R5 (R5 (R5 (R5 (fun x hx=>(by cases hx)) k_yrot) k_partT) k_rotC) k_SORT
theorem h3_ok: ∀x∈H3,T8 env Om x:=a63 h2_ok l2_ok
theorem k_insC:T8 env Om h_insC:=
 Q3 (E:=env) (cs:=H3) om_upd e_ok orders h3_ok (n:=1000000) (by kernel_rfl) (Q6 (T:=T_insC) r_insC fun ω hω hn=>by
   have hn:(ω.f 424 [ω.w 0,ω.w 1,ω.w 2,ω.w 3]).toB=true:=hn
   rw[om_f hω]at hn
   exact(S7.t_insC (om_f hω) hn).trans (by simp only[h_insC,P2,den,om_f hω]))
theorem k_sym0:T8 env Om h_sym0:=
 Q3 (E:=env) (cs:=H3) om_upd e_ok orders h3_ok (n:=1000000) (by kernel_rfl) (fun ω hω hn=>by
   have hn:(ω.f 426 [ω.w 0,ω.w 1,ω.w 2,ω.w 3,ω.w 4,.vi 1]).toB=true:=hn
   rw[om_f hω]at hn
   exact(S7.sym_vac hn).elim)
theorem k_kprim:T8 env Om h_kprim:=
 Q3 (E:=env) (cs:=H3) om_upd e_ok orders h3_ok (n:=1000000) (by kernel_rfl) (Q6 (T:=S8.T_prim) r_kprim fun ω hω hn=>by
   have hn:=hn
   simp only[h_kprim,dB,den,P2,W0,S0,O9,Q4,af4,R1,U7,Q0,decide_eq_true_eq,e8,j5]at hn
   exact(S8.t_prim (om_f hω) (by omega)).trans (by simp only[h_kprim,P2,den,W0,om_f hω,O9,Q4]))
theorem k_ksec:T8 env Om h_ksec:=
 Q3 (E:=env) (cs:=H3) om_upd e_ok orders h3_ok (n:=1000000) (by kernel_rfl) (Q6 (T:=S8.T_sec) r_ksec fun ω hω hn=>by
   have hn:=hn
   simp only[h_ksec,dB,den,P2,W0,S0,O9,Q4,af4,R1,U7,Q0,decide_eq_true_eq,e8,j5]at hn
   exact(S8.t_sec (om_f hω) (by omega)).trans (by simp only[h_ksec,P2,den,W0,om_f hω,O9,Q4]))
theorem l3_ok: ∀x∈L3,T8 env Om x:=by
 exact R5 (R5 (R5 (R5 (fun x hx=>(by cases hx)) k_ksec) k_kprim) k_sym0) k_insC
theorem h4_ok: ∀x∈H4,T8 env Om x:=a63 h3_ok l3_ok
theorem k_sym1:T8 env Om h_sym1:=
 Q3 (E:=env) (cs:=H4) om_upd e_ok orders h4_ok (n:=1000000) (by kernel_rfl) (Q6 (T:=T_sym 1) r_sym1 fun ω hω hn=>by
   have hn:(ω.f 426 [ω.w 0,ω.w 1,ω.w 2,ω.w 3,ω.w 4,.vi 2]).toB=true:=hn
   rw[om_f hω]at hn
   exact(S7.t_sym (B:=1) (om_f hω) hn).trans (by simp only[h_sym1,P2,den,om_f hω]))
theorem k_cmpC:T8 env Om h_cmpC:=
 Q3 (E:=env) (cs:=H4) om_upd e_ok orders h4_ok (n:=1000000) (by kernel_rfl) (Q6 (T:=S8.T_cmpC) r_cmpC fun ω hω hn=>by
   have hn:=hn
   simp only[h_cmpC,dB,den,P2,W0,S0,O9,Q4,af4,R1,U7,Q0,decide_eq_true_eq,e8,j5]at hn
   have h1:=hn.1
   have h2:=hn.2
   exact(S8.t_cmpC (om_f hω) (by omega) (by omega)).trans (by simp only[h_cmpC,P2,den,W0,om_f hω,O9,Q4]))
theorem l4_ok: ∀x∈L4,T8 env Om x:=by
 exact R5 (R5 (fun x hx=>(by cases hx)) k_cmpC) k_sym1
theorem h5_ok: ∀x∈H5,T8 env Om x:=a63 h4_ok l4_ok
theorem k_sym2:T8 env Om h_sym2:=
 Q3 (E:=env) (cs:=H5) om_upd e_ok orders h5_ok (n:=1000000) (by kernel_rfl) (Q6 (T:=T_sym 2) r_sym2 fun ω hω hn=>by
   have hn:(ω.f 426 [ω.w 0,ω.w 1,ω.w 2,ω.w 3,ω.w 4,.vi 4]).toB=true:=hn
   rw[om_f hω]at hn
   exact(S7.t_sym (B:=2) (om_f hω) hn).trans (by simp only[h_sym2,P2,den,om_f hω]))
theorem k_yins:T8 env Om h_yins:=
 Q3 (E:=env) (cs:=H5) om_upd e_ok orders h5_ok (n:=1000000) (by kernel_rfl) (Q6 (T:=S8.T_insC) r_yins fun ω hω hn=>by
   have hn:(ω.f 624 [ω.w 5,ω.w 6,ω.w 7,ω.w 8]).toB=true:=hn
   rw[om_f hω]at hn
   exact(S8.t_insC (om_f hω) hn).trans (by simp only[h_yins,P2,den,om_f hω]))
theorem k_ysm0:T8 env Om h_ysm0:=
 Q3 (E:=env) (cs:=H5) om_upd e_ok orders h5_ok (n:=1000000) (by kernel_rfl) (fun ω hω hn=>by
   have hn:(ω.f 626 [ω.w 0,ω.w 1,ω.w 2,ω.w 3,ω.w 4,ω.w 5,ω.w 6,ω.w 7,ω.w 8,ω.w 9,.vi 1]).toB=true:=hn
   rw[om_f hω]at hn
   exact(S8.sym_vac hn).elim)
theorem l5_ok: ∀x∈L5,T8 env Om x:=by
 exact R5 (R5 (R5 (fun x hx=>(by cases hx)) k_ysm0) k_yins) k_sym2
theorem h6_ok: ∀x∈H6,T8 env Om x:=a63 h5_ok l5_ok
theorem k_sym3:T8 env Om h_sym3:=
 Q3 (E:=env) (cs:=H6) om_upd e_ok orders h6_ok (n:=1000000) (by kernel_rfl) (Q6 (T:=T_sym 4) r_sym3 fun ω hω hn=>by
   have hn:(ω.f 426 [ω.w 0,ω.w 1,ω.w 2,ω.w 3,ω.w 4,.vi 8]).toB=true:=hn
   rw[om_f hω]at hn
   exact(S7.t_sym (B:=4) (om_f hω) hn).trans (by simp only[h_sym3,P2,den,om_f hω]))
theorem k_ysm1:T8 env Om h_ysm1:=
 Q3 (E:=env) (cs:=H6) om_upd e_ok orders h6_ok (n:=1000000) (by kernel_rfl) (Q6 (T:=S8.T_sym 1) r_ysm1 fun ω hω hn=>by
   have hn:(ω.f 626 [ω.w 0,ω.w 1,ω.w 2,ω.w 3,ω.w 4,ω.w 5,ω.w 6,ω.w 7,ω.w 8,ω.w 9,.vi 2]).toB=true:=hn
   rw[om_f hω]at hn
   exact(S8.t_sym (B:=1) (om_f hω) hn).trans (by simp only[h_ysm1,P2,den,om_f hω]))
theorem l6_ok: ∀x∈L6,T8 env Om x:=by
 exact R5 (R5 (fun x hx=>(by cases hx)) k_ysm1) k_sym3
theorem h7_ok: ∀x∈H7,T8 env Om x:=a63 h6_ok l6_ok
theorem k_sym4:T8 env Om h_sym4:=
 Q3 (E:=env) (cs:=H7) om_upd e_ok orders h7_ok (n:=1000000) (by kernel_rfl) (Q6 (T:=T_sym 8) r_sym4 fun ω hω hn=>by
   have hn:(ω.f 426 [ω.w 0,ω.w 1,ω.w 2,ω.w 3,ω.w 4,.vi 16]).toB=true:=hn
   rw[om_f hω]at hn
   exact(S7.t_sym (B:=8) (om_f hω) hn).trans (by simp only[h_sym4,P2,den,om_f hω]))
theorem k_ysm2:T8 env Om h_ysm2:=
 Q3 (E:=env) (cs:=H7) om_upd e_ok orders h7_ok (n:=1000000) (by kernel_rfl) (Q6 (T:=S8.T_sym 2) r_ysm2 fun ω hω hn=>by
   have hn:(ω.f 626 [ω.w 0,ω.w 1,ω.w 2,ω.w 3,ω.w 4,ω.w 5,ω.w 6,ω.w 7,ω.w 8,ω.w 9,.vi 4]).toB=true:=hn
   rw[om_f hω]at hn
   exact(S8.t_sym (B:=2) (om_f hω) hn).trans (by simp only[h_ysm2,P2,den,om_f hω]))
theorem l7_ok: ∀x∈L7,T8 env Om x:=by
 exact R5 (R5 (fun x hx=>(by cases hx)) k_ysm2) k_sym4
theorem h8_ok: ∀x∈H8,T8 env Om x:=a63 h7_ok l7_ok
theorem k_sym5:T8 env Om h_sym5:=
 Q3 (E:=env) (cs:=H8) om_upd e_ok orders h8_ok (n:=1000000) (by kernel_rfl) (Q6 (T:=T_sym 16) r_sym5 fun ω hω hn=>by
   have hn:(ω.f 426 [ω.w 0,ω.w 1,ω.w 2,ω.w 3,ω.w 4,.vi 32]).toB=true:=hn
   rw[om_f hω]at hn
   exact(S7.t_sym (B:=16) (om_f hω) hn).trans (by simp only[h_sym5,P2,den,om_f hω]))
theorem k_ysm3:T8 env Om h_ysm3:=
 Q3 (E:=env) (cs:=H8) om_upd e_ok orders h8_ok (n:=1000000) (by kernel_rfl) (Q6 (T:=S8.T_sym 4) r_ysm3 fun ω hω hn=>by
   have hn:(ω.f 626 [ω.w 0,ω.w 1,ω.w 2,ω.w 3,ω.w 4,ω.w 5,ω.w 6,ω.w 7,ω.w 8,ω.w 9,.vi 8]).toB=true:=hn
   rw[om_f hω]at hn
   exact(S8.t_sym (B:=4) (om_f hω) hn).trans (by simp only[h_ysm3,P2,den,om_f hω]))
theorem l8_ok: ∀x∈L8,T8 env Om x:=by
 exact R5 (R5 (fun x hx=>(by cases hx)) k_ysm3) k_sym5
theorem h9_ok: ∀x∈H9,T8 env Om x:=a63 h8_ok l8_ok
theorem k_sym6:T8 env Om h_sym6:=
 Q3 (E:=env) (cs:=H9) om_upd e_ok orders h9_ok (n:=1000000) (by kernel_rfl) (Q6 (T:=T_sym 32) r_sym6 fun ω hω hn=>by
   have hn:(ω.f 426 [ω.w 0,ω.w 1,ω.w 2,ω.w 3,ω.w 4,.vi 64]).toB=true:=hn
   rw[om_f hω]at hn
   exact(S7.t_sym (B:=32) (om_f hω) hn).trans (by simp only[h_sym6,P2,den,om_f hω]))
theorem k_ysm4:T8 env Om h_ysm4:=
 Q3 (E:=env) (cs:=H9) om_upd e_ok orders h9_ok (n:=1000000) (by kernel_rfl) (Q6 (T:=S8.T_sym 8) r_ysm4 fun ω hω hn=>by
   have hn:(ω.f 626 [ω.w 0,ω.w 1,ω.w 2,ω.w 3,ω.w 4,ω.w 5,ω.w 6,ω.w 7,ω.w 8,ω.w 9,.vi 16]).toB=true:=hn
   rw[om_f hω]at hn
   exact(S8.t_sym (B:=8) (om_f hω) hn).trans (by simp only[h_ysm4,P2,den,om_f hω]))
theorem l9_ok: ∀x∈L9,T8 env Om x:=by
 exact R5 (R5 (fun x hx=>(by cases hx)) k_ysm4) k_sym6
theorem h10_ok: ∀x∈H10,T8 env Om x:=a63 h9_ok l9_ok
theorem k_sym7:T8 env Om h_sym7:=
 Q3 (E:=env) (cs:=H10) om_upd e_ok orders h10_ok (n:=1000000) (by kernel_rfl) (Q6 (T:=T_sym 64) r_sym7 fun ω hω hn=>by
   have hn:(ω.f 426 [ω.w 0,ω.w 1,ω.w 2,ω.w 3,ω.w 4,.vi 128]).toB=true:=hn
   rw[om_f hω]at hn
   exact(S7.t_sym (B:=64) (om_f hω) hn).trans (by simp only[h_sym7,P2,den,om_f hω]))
theorem k_ysm5:T8 env Om h_ysm5:=
 Q3 (E:=env) (cs:=H10) om_upd e_ok orders h10_ok (n:=1000000) (by kernel_rfl) (Q6 (T:=S8.T_sym 16) r_ysm5 fun ω hω hn=>by
   have hn:(ω.f 626 [ω.w 0,ω.w 1,ω.w 2,ω.w 3,ω.w 4,ω.w 5,ω.w 6,ω.w 7,ω.w 8,ω.w 9,.vi 32]).toB=true:=hn
   rw[om_f hω]at hn
   exact(S8.t_sym (B:=16) (om_f hω) hn).trans (by simp only[h_ysm5,P2,den,om_f hω]))
theorem l10_ok: ∀x∈L10,T8 env Om x:=by
 exact R5 (R5 (fun x hx=>(by cases hx)) k_ysm5) k_sym7
theorem h11_ok: ∀x∈H11,T8 env Om x:=a63 h10_ok l10_ok
theorem k_sym8:T8 env Om h_sym8:=
 Q3 (E:=env) (cs:=H11) om_upd e_ok orders h11_ok (n:=1000000) (by kernel_rfl) (Q6 (T:=T_sym 128) r_sym8 fun ω hω hn=>by
   have hn:(ω.f 426 [ω.w 0,ω.w 1,ω.w 2,ω.w 3,ω.w 4,.vi 256]).toB=true:=hn
   rw[om_f hω]at hn
   exact(S7.t_sym (B:=128) (om_f hω) hn).trans (by simp only[h_sym8,P2,den,om_f hω]))
theorem k_ysm6:T8 env Om h_ysm6:=
 Q3 (E:=env) (cs:=H11) om_upd e_ok orders h11_ok (n:=1000000) (by kernel_rfl) (Q6 (T:=S8.T_sym 32) r_ysm6 fun ω hω hn=>by
   have hn:(ω.f 626 [ω.w 0,ω.w 1,ω.w 2,ω.w 3,ω.w 4,ω.w 5,ω.w 6,ω.w 7,ω.w 8,ω.w 9,.vi 64]).toB=true:=hn
   rw[om_f hω]at hn
   exact(S8.t_sym (B:=32) (om_f hω) hn).trans (by simp only[h_ysm6,P2,den,om_f hω]))
theorem l11_ok: ∀x∈L11,T8 env Om x:=by
 exact R5 (R5 (fun x hx=>(by cases hx)) k_ysm6) k_sym8
theorem h12_ok: ∀x∈H12,T8 env Om x:=a63 h11_ok l11_ok
theorem k_sym9:T8 env Om h_sym9:=
 Q3 (E:=env) (cs:=H12) om_upd e_ok orders h12_ok (n:=1000000) (by kernel_rfl) (Q6 (T:=T_sym 256) r_sym9 fun ω hω hn=>by
   have hn:(ω.f 426 [ω.w 0,ω.w 1,ω.w 2,ω.w 3,ω.w 4,.vi 512]).toB=true:=hn
   rw[om_f hω]at hn
   exact(S7.t_sym (B:=256) (om_f hω) hn).trans (by simp only[h_sym9,P2,den,om_f hω]))
theorem k_ysm7:T8 env Om h_ysm7:=
 Q3 (E:=env) (cs:=H12) om_upd e_ok orders h12_ok (n:=1000000) (by kernel_rfl) (Q6 (T:=S8.T_sym 64) r_ysm7 fun ω hω hn=>by
   have hn:(ω.f 626 [ω.w 0,ω.w 1,ω.w 2,ω.w 3,ω.w 4,ω.w 5,ω.w 6,ω.w 7,ω.w 8,ω.w 9,.vi 128]).toB=true:=hn
   rw[om_f hω]at hn
   exact(S8.t_sym (B:=64) (om_f hω) hn).trans (by simp only[h_ysm7,P2,den,om_f hω]))
theorem l12_ok: ∀x∈L12,T8 env Om x:=by
 exact R5 (R5 (fun x hx=>(by cases hx)) k_ysm7) k_sym9
theorem h13_ok: ∀x∈H13,T8 env Om x:=a63 h12_ok l12_ok
theorem k_stab:T8 env Om h_stab:=
 Q3 (E:=env) (cs:=H13) om_upd e_ok orders h13_ok (n:=1000000) (by kernel_rfl) (Q6 (T:=T_stab) r_stab fun ω hω hn=>by
   have hn:(ω.f 428 [ω.w 0,ω.w 1,ω.w 2]).toB=true:=hn
   rw[om_f hω]at hn
   exact(S7.t_stab (om_f hω) hn).trans (by simp only[h_stab,P2,den,om_f hω]))
theorem k_ystab:T8 env Om h_ystab:=
 Q3 (E:=env) (cs:=H13) om_upd e_ok orders h13_ok (n:=1000000) (by kernel_rfl) (Q6 (T:=S8.T_stab) r_ystab fun ω hω hn=>by
   have hn:(ω.f 628 [ω.w 5,ω.w 6,ω.w 7]).toB=true:=hn
   rw[om_f hω]at hn
   exact(S8.t_stab (om_f hω) hn).trans (by simp only[h_ystab,P2,den,om_f hω]))
theorem l13_ok: ∀x∈L13,T8 env Om x:=by
 exact R5 (R5 (fun x hx=>(by cases hx)) k_ystab) k_stab
theorem h14_ok: ∀x∈H14,T8 env Om x:=a63 h13_ok l13_ok
theorem k_sstab:T8 env Om h_sstab:=
 Q3 (E:=env) (cs:=H14) om_upd e_ok orders h14_ok (n:=1000000) (by kernel_rfl) (Q6 (T:=T_sstab) r_sstab fun ω hω hn=>by
   have hn:(decide (((ω.w 0).toL.length:Int)≤400)&&(ω.f 431 [ω.w 0]).toB)=true:=hn
   obtain⟨h1,h2⟩:=O4 hn
   rw[om_f hω]at h2
   exact(S7.t_sstab (om_f hω) (by have:=of_decide_eq_true h1;omega) h2).trans (by simp only[h_sstab,P2,den,W0,om_f hω]))
theorem k_ysstab:T8 env Om h_ysstab:=
 Q3 (E:=env) (cs:=H14) om_upd e_ok orders h14_ok (n:=1000000) (by kernel_rfl) (Q6 (T:=S8.T_sstab) r_ysstab fun ω hω hn=>by
   have hn:(decide (((ω.w 5).toL.length:Int)≤100)&&(ω.f 631 [ω.w 5]).toB)=true:=hn
   obtain⟨h1,h2⟩:=O4 hn
   rw[om_f hω]at h2
   exact(S8.t_sstab (om_f hω) (by have:=of_decide_eq_true h1;omega) h2).trans (by simp only[h_ysstab,P2,den,W0,om_f hω]))
theorem l14_ok: ∀x∈L14,T8 env Om x:=by
 exact R5 (R5 (fun x hx=>(by cases hx)) k_ysstab) k_sstab
theorem h15_ok: ∀x∈H15,T8 env Om x:=a63 h14_ok l14_ok
theorem k_aggSort:T8 env Om h_aggSort:=
 Q3 (E:=env) (cs:=H15) om_upd e_ok orders h15_ok (n:=1000000) (by kernel_rfl) (Q6 (T:=az2) r_aggSort fun ω hω hn=>by
   have hn:(decide (((ω.w 0).toL.length:Int)≤400)&&(ω.f 431 [ω.w 0]).toB)=true:=hn
   obtain⟨h1,h2⟩:=O4 hn
   rw[om_f hω]at h2
   exact(S7.t_aggSort (om_f hω) (by have:=of_decide_eq_true h1;omega) h2).trans (by simp only[h_aggSort,P2,den,om_f hω]))
theorem k_aggSortB:T8 env Om h_aggSortB:=
 (c84 (E:=env) om_upd (nv:=2) (by kernel_rfl) (cI8 om_upd k_aggSort (e:=48) (sig:=[.str,.int .i64,.int .i64,.int .i64,.int .i64,.int .i64,.int .i64]) (id:=490) (by kernel_rfl) (fun ω hω hn=>d56 (om_f hω) hn) (by kernel_rfl)):T8 env Om ⟨h_aggSort.f,2,cQ4 48 [.str,.int .i64,.int .i64,.int .i64,.int .i64,.int .i64,.int .i64] h_aggSortB.c.need 490⟩)
theorem k_right:T8 env Om h_right:=
 Q3 (E:=env) (cs:=H15) om_upd e_ok orders h15_ok (n:=1000000) (by kernel_rfl) (Q6 (T:=b83) r_right fun ω hω hn=>by
   have hn:=hn
   simp only[h_right,dB,den,P2,W0,S0,O9,Q4,af4,R1,U7,Q0,decide_eq_true_eq,e8,j5]at hn
   have h1:=hn.1
   have h2:=hn.2
   exact(cN1 (om_f hω) (by omega) (by omega)).trans (by simp only[h_right,P2,den,W0,om_f hω,O9,Q4]))
theorem k_of:T8 env Om h_of:=
 Q3 (E:=env) (cs:=H15) om_upd e_ok orders h15_ok (n:=1000000) (by kernel_rfl) (Q6 (T:=S8.T_of) r_of fun ω hω hn=>by
   have hn:(decide (((ω.w 5).toL.length:Int)≤100)&&(ω.f 631 [ω.w 5]).toB)=true:=hn
   obtain⟨h1,h2⟩:=O4 hn
   rw[om_f hω]at h2
   exact(S8.t_of (om_f hω) (by have:=of_decide_eq_true h1;omega) h2).trans (by simp only[h_of,P2,den,W0,om_f hω]))
theorem k_had:T8 env Om h_had:=
 Q3 (E:=env) (cs:=H15) om_upd e_ok orders h15_ok (n:=1000000) (by kernel_rfl) (Q6 (T:=S8.T_had) r_had fun ω hω hn=>by
   have hn:(decide (((ω.w 5).toL.length:Int)≤400)&&(ω.f 431 [ω.w 5]).toB)=true:=hn
   obtain⟨h1,h2⟩:=O4 hn
   rw[om_f hω]at h2
   exact(S8.t_had (om_f hω) (by have:=of_decide_eq_true h1;omega)).trans (by simp only[h_had,P2,den,W0,om_f hω]))
theorem l15_ok: ∀x∈L15,T8 env Om x:=by
 exact R5 (R5 (R5 (R5 (R5 (fun x hx=>(by cases hx)) k_had) k_of) k_right) k_aggSortB) k_aggSort
theorem h16_ok: ∀x∈H16,T8 env Om x:=a63 h15_ok l15_ok
theorem k_applyA:T8 env Om h_applyA:=
 Q3 (E:=env) (cs:=H16) om_upd e_ok orders h16_ok (n:=1000000) (by kernel_rfl) (Q6 (T:=aJ2) r_applyA fun ω hω hn=>by
   have hn:((decide (((ω.w 0).toL.length:Int)≤200)&&decide (((ω.w 1).toL.length:Int)≤200))&&((ω.f 431 [ω.w 0]).toB&&(ω.f 433 [ω.w 1]).toB))=true:=hn
   obtain⟨h1,h2⟩:=O4 hn
   obtain⟨h3,h4⟩:=O4 h1
   obtain⟨h5,h6⟩:=O4 h2
   rw[om_f hω]at h5 h6
   exact(cs8 (om_f hω) (by have:=of_decide_eq_true h3;omega) (by have:=of_decide_eq_true h4;omega) h5 h6).trans (by simp only[h_applyA,P2,den,om_f hω]))
theorem k_diff:T8 env Om h_diff:=
 Q3 (E:=env) (cs:=H16) om_upd e_ok orders h16_ok (n:=1000000) (by kernel_rfl) (Q6 (T:=bE5) r_diff fun ω hω hn=>by
   have hn:=hn
   simp only[h_diff,dB,den,P2,W0,S0,O9,Q4,af4,R1,U7,Q0,decide_eq_true_eq,e8,j5]at hn
   have h1:=hn.1
   have h2:=hn.2
   exact(d42 (om_f hω) (by omega) (by omega)).trans (by simp only[h_diff,P2,den,W0,om_f hω,O9,Q4]))
theorem l16_ok: ∀x∈L16,T8 env Om x:=by
 exact R5 (R5 (fun x hx=>(by cases hx)) k_diff) k_applyA
theorem h17_ok: ∀x∈H17,T8 env Om x:=a63 h16_ok l16_ok
end Go.Proofs.YtfpjiopkeekkeaaGreatDoor.Ctr
