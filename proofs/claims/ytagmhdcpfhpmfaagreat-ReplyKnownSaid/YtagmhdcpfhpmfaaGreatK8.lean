import Derived.Test.YtagmhdcpfhpmfaaGreatRows
import Derived.Test.YtagmhdcpfhpmfaaGreatEQ10
import Derived.ProofKit
set_option linter.unusedVariables false
set_option linter.unusedSimpArgs false
namespace Go.Proofs.YtagmhdcpfhpmfaaGreat.Ctr
open Go Go.Ev
def colA:List AV:=[.oint .u32 (.va 1),.oint .u16 (.va 2),.obool (.va 3),.oint .u64 (.va 4),.oint .u64 (.va 5),.oint .u64 (.va 6),.oint .u64 (.va 7),.oint .u64 (.va 8),.oint .u64 (.va 9),.osl 0 (.ci 0) (.op .llen [.va 10]) 7,.osl 1 (.ci 0) (.op .llen [.va 11]) 3]
def sg7:List CT:=[.str,.int .i64,.int .i64,.int .i64,.int .i64,.int .i64,.int .i64]
def sg3:List CT:=[.str,.int .i64,.int .i64]
noncomputable def env0:Env:=⟨Tryz.prog,fun f=>none,fun _=>false,fun _=>false,fun _ _ _=> .bad,fun _ _=>none,fun _ _ _ _=>none⟩
noncomputable def loops(f:FuncId)(r:Nat)(a:Fr)(h:Heap):Option LSpec:=bif Nat.beq f 3&&Nat.beq r 2 then some (aR8 ⟨143,2500,[2,3,4,5,6,7,16,17,18,19,20,21,22,23,24,25,26,27,28,29,30,31,32,33,34,35,36,37,38,39,40,41,42,43,44,45,46,47,48,49,50,51,52,53,54,55,56,57,58,59,60,61,62,63,64,65,66,67,68,69,70,71,72,73,74,75,76,77,78,79,80,81,82,83,84,85,86,87,88,89,90,91,92,93,94,95,96,97,98,99],[],[0,1],[],[],[(.exit 0,[]),(.ret,[])],[],[]⟩ a h)else bif Nat.beq f 34&&Nat.beq r 2 then some (aR8 ⟨101,2000,[4,5,6,7,8,9,10,11,12,13,14,15,16,17],[],[2,3],[],[0],[(.exit 0,[]),(.ret,[])],[],[]⟩ a h)else bif Nat.beq f 35&&Nat.beq r 2 then some (aR8 ⟨102,2000,[4,5,6,7,8,9,10,11,12,13,14,15,16],[],[2,3],[],[0],[(.exit 0,[]),(.ret,[])],[],[]⟩ a h)else bif Nat.beq f 27&&Nat.beq r 3 then some (aR8 ⟨103,2000,[5,6,7,8,9,10,11,12,13,14,15,16,17,18,19,20,21,22,23,24,25,26],[(3,none,95,sg7)],[3,4],[],[0],[(.exit 0,[])],[],[]⟩ a h)else bif Nat.beq f 28&&Nat.beq r 3 then some (aR8 ⟨104,2000,[5,6,7,8,9,10,11,12,13,14,15,16,17,18],[(3,none,92,sg3)],[3,4],[],[0],[(.exit 0,[])],[],[]⟩ a h)else bif Nat.beq f 51&&Nat.beq r 4 then some (aR8 ⟨105,2000,[5,14,15,16,17,18,19,20,21,22,23,24,25],[],[4,13],[],[0,1,12],[(.exit 0,[]),(.ret,[])],[],[]⟩ a h)else bif Nat.beq f 52&&Nat.beq r 4 then some (aR8 ⟨106,2000,[5,14,15,16,17,18,19,20,21,22,23,24,25],[],[4,13],[],[0,1,12],[(.exit 0,[]),(.ret,[])],[],[]⟩ a h)else bif Nat.beq f 53&&Nat.beq r 4 then some (aR8 ⟨107,2000,[11,12,13,14,15,16,17,18,19,20,21,22,23,24,25],[],[4,5],[],[0,1],[(.exit 0,[]),(.ret,[])],[],[]⟩ a h)else bif Nat.beq f 17&&Nat.beq r 4 then some (aR8 ⟨108,2000,[11,12,13,14,15,16,17,18,19,20,21,22,23,24,25],[],[4,5],[],[0,1],[(.exit 0,[]),(.ret,[])],[],[]⟩ a h)else bif Nat.beq f 22&&Nat.beq r 4 then some (aR8 ⟨109,2000,[21,22,23,24,25,26,27,28,29,30,31,32,33,34,35,36,37,38],[],[4,5],[],[2,3],[(.exit 0,[]),(.ret,[])],[],[]⟩ a h)else bif Nat.beq f 20&&Nat.beq r 4 then some (aR8 ⟨110,2000,[4,37,38,39,40,41,42,43,44,45,46,47,48,49,50,51,52,53,54,55,56,57,58,59,60,61,62,63,64],[],[2,3],[],[1],[(.exit 0,[]),(.ret,[])],[],[]⟩ a h)else bif Nat.beq f 20&&Nat.beq r 10 then some (aR8 ⟨111,2000,[65,66,67,68,69,70,71,72,73,74,75,76,77,78],[],[2,5],[],[1],[(.exit 2,[]),(.ret,[])],[],[]⟩ a h)else bif Nat.beq f 70&&Nat.beq r 2 then some (aR8 ⟨112,2000,[5,9,10,11,12,13,14,15,16,17,18],[],[4,8],[],[0,1,7],[(.exit 0,[]),(.ret,[])],[],[]⟩ a h)else bif Nat.beq f 72&&Nat.beq r 2 then some (aR8 ⟨113,2000,[5,9,10,11,12,13,14,15,16,17,18],[],[4,8],[],[0,1,7],[(.exit 0,[]),(.ret,[])],[],[]⟩ a h)else bif Nat.beq f 18&&Nat.beq r 1 then some (aR8 ⟨118,2000,[3,4,5,6,7,8,9,10,11],[],[2],[0],[0],[(.exit 0,[])],[],[]⟩ a h)else bif Nat.beq f 102&&Nat.beq r 2 then some (aR8 ⟨114,2000,[5,25,26,27,28,29,30,31,32,33,34,35,36,37,38,39,40,41,42,43,44,45,46,47,48,49,50,51,52,53,54,55,56,57,58],[(0,some (0),5,[.int .u8])],[24],[0],[0,22,23],[(.exit 0,[])],[],[]⟩ a h)else bif Nat.beq f 101&&Nat.beq r 2 then some (aR8 ⟨115,2000,[5,25,26,27,28,29,30,31],[(0,some (0),5,[.int .u8])],[24],[0],[0,22,23],[(.exit 0,[])],[],[]⟩ a h)else bif Nat.beq f 26&&Nat.beq r 11 then some (aR8 ⟨116,2000,[7,30,31,32,33,34,35,36,37,38,39,40,41,42,43,44,45,46,47,48,49,50,51,52,53,54,55,56,57,58,59,60,61,62,63,64,65,66,67],[(5,none,5,[.int .u8])],[5,6],[],[2],[(.exit 1,[])],[],[]⟩ a h)else bif Nat.beq f 26&&Nat.beq r 20 then some (aR8 ⟨117,2000,[76,77,78,79,80,81,82,83,84,85,86,87,88,89,90],[(8,none,5,[.int .u8])],[8,9],[],[2],[(.exit 3,[])],[],[]⟩ a h)else bif Nat.beq f 120&&Nat.beq r 1 then some (aR8 ⟨119,2000,[10,11,12,13,14,15,16,17,18,19,20,21,22,23,24,25,26,27,28,29,30,31,32,33,34,35,36,37,38,39,40,41,42,43,44,45,46,47,48,49,50,51,52],[(1,some (0),49,sg7)],[4],[11001,1000],[2000],[(.exit 0,[])],[],[]⟩ a h)else bif Nat.beq f 119&&Nat.beq r 1 then some (aR8 ⟨120,2000,[10,11,12,13,14,15,16,17,18,19,20,21,22,23,24,25,26,27,28,29,30],[(1,some (0),45,sg3)],[4],[11101,1000],[2000],[(.exit 0,[])],[],[]⟩ a h)else bif Nat.beq f 65&&Nat.beq r 14 then some (aR8 ⟨121,2000,[11,12,50,51,52,53,54,55,56,57,58,59,60,61,62,63,64,65,66,67,68,69,70,71],[(3,some (10),95,sg7)],[10],[11003,10105,10205],[9,1005],[(.exit 1,[])],[],[]⟩ a h)else bif Nat.beq f 65&&Nat.beq r 23 then some (aR8 ⟨122,2000,[14,15,81,82,83,84,85,86,87,88,89,90,91,92,93,94,95,96,97,98,99,100,101,102],[(3,some (11),92,sg3)],[13],[11103,10105,10205],[9,1005],[(.exit 3,[])],[],[]⟩ a h)else bif Nat.beq f 30&&Nat.beq r 1 then some (aR8 ⟨123,2000,[3,4,5,6,7,8,9,10,11,12,13],[],[2],[0],[0],[(.exit 0,[])],[],[]⟩ a h)else bif Nat.beq f 31&&Nat.beq r 1 then some (aR8 ⟨124,2000,[3,4,5,6,7,8,9,10,11,12],[],[2],[0],[0],[(.exit 0,[])],[],[]⟩ a h)else bif Nat.beq f 3&&Nat.beq r 6 then some (aR8 ⟨142,3000,[22,23,24,25,26,27,28,29,30,31,32,33,34,35,36,37,38],[],[0,3],[],[1,2],[(.exit 2,[]),(.ret,[])],[],[]⟩ a h)else bif Nat.beq f 3&&Nat.beq r 14 then some (aR8 ⟨140,4000,[7,65,66,67,68,69,70,71,72,73,74,75,76,77,78,79,80,81,82,83,84,85,86,87,88,89,90,91,92,93,94,95,96,97,98,99],[],[0,6],[],[1,4],[(.exit 4,[]),(.ret,[])],[],[]⟩ a h)else none
noncomputable def env:Env:={env0 with lspec:=loops}
def h_kindP(k:Int):HC:=⟨55,1,⟨[.ptr 1 0],[.arr 5 [.int .u8] (.va 0),.cells 145 0 [.ous 0 (.op .llen [.va 0]) 1,.int .i64 0]],1,.op .and [.app 39 [.va 0],.op .and [.op (.cmp .leq) [.ci 1,.op .llen [.va 0]],.app 49 [.va 0,.ci k]]],.oint .u8 (.va 1000),[some (.cells 145 0 [.osl 0 (.va 1001) (.va 1002) 1,.oint .i64 (.va 1003)])],[.ci k,.op .lget [.app 44 [.va 0,.op .row [.op .row [.ci 0,.op .llen [.va 0],.ci 0]],.ci 1],.ci 0,.ci 0],.op .lget [.app 44 [.va 0,.op .row [.op .row [.ci 0,.op .llen [.va 0],.ci 0]],.ci 1],.ci 0,.ci 1],.op .lget [.app 44 [.va 0,.op .row [.op .row [.ci 0,.op .llen [.va 0],.ci 0]],.ci 1],.ci 0,.ci 2]]⟩⟩
def h_kindR(k:Int):HC:=⟨64,3,⟨[.agg [.osl 0 (.va 1) (.va 2) 1,.int .i64 0,.bool false],.int .i64 1],[.arr 4294967295 [.int .u8] (.va 0)],1,.op .and [.app 39 [.va 0],.op .and [.op .and [.op (.cmp .eql) [.va 1,.ci 0],.op (.cmp .eql) [.va 2,.op .llen [.va 0]]],.app 49 [.va 0,.ci k]]],.tup [.oint .u64 (.va 1000),.agg [.osl 0 (.va 1001) (.va 1002) 1,.oint .i64 (.va 1003),.obool (.va 1004)]],[],[.ci k,.va 1,.va 2,.op .lget [.app 45 [.va 0,.op .row [.op .row [.ci 0,.cb false]],.ci 1],.ci 0,.ci 0],.op .lget [.app 45 [.va 0,.op .row [.op .row [.ci 0,.cb false]],.ci 1],.ci 0,.ci 1]]⟩⟩
def h_works:HC:=⟨14,0,⟨[],[],0,.cb true,.obool (.va 1000),[],[.cb true]⟩⟩
def LevL0:List HC:=[h_works]
def h_pkA:HC:=⟨37,1,⟨[.oint .u8 (.va 0)],[],0,.cb true,.ous 0 (.op .llen [.va 1000]) 1,[some (.arr 5 [.int .u8] (.va 1000))],[.app 20 [.va 0,.ci 1]]⟩⟩
def h_pkB:HC:=⟨107,1,⟨[.oint .u16 (.va 0)],[],0,.cb true,.ous 0 (.op .llen [.va 1000]) 1,[some (.arr 5 [.int .u8] (.va 1000))],[.app 20 [.va 0,.ci 2]]⟩⟩
def h_pkC:HC:=⟨38,1,⟨[.oint .u32 (.va 0)],[],0,.cb true,.ous 0 (.op .llen [.va 1000]) 1,[some (.arr 5 [.int .u8] (.va 1000))],[.app 20 [.va 0,.ci 4]]⟩⟩
def h_pkD:HC:=⟨104,1,⟨[.oint .u64 (.va 0)],[],0,.cb true,.ous 0 (.op .llen [.va 1000]) 1,[some (.arr 5 [.int .u8] (.va 1000))],[.app 20 [.va 0,.ci 8]]⟩⟩
def h_numB:HC:=⟨24,1,⟨[.oint .u64 (.va 0),.int .i64 2],[],0,.op (.cmp .leq) [.ci 0,.va 0],.ous 0 (.op .llen [.va 1000]) 1,[some (.arr 5 [.int .u8] (.va 1000))],[.app 20 [.va 0,.ci 2]]⟩⟩
def h_numC:HC:=⟨24,1,⟨[.oint .u64 (.va 0),.int .i64 4],[],0,.op (.cmp .leq) [.ci 0,.va 0],.ous 0 (.op .llen [.va 1000]) 1,[some (.arr 5 [.int .u8] (.va 1000))],[.app 20 [.va 0,.ci 4]]⟩⟩
def h_numD:HC:=⟨24,1,⟨[.oint .u64 (.va 0),.int .i64 8],[],0,.op (.cmp .leq) [.ci 0,.va 0],.ous 0 (.op .llen [.va 1000]) 1,[some (.arr 5 [.int .u8] (.va 1000))],[.app 20 [.va 0,.ci 8]]⟩⟩
def h_joinB:HC:=⟨36,2,⟨[.sl 0 0 2 2],[.cells 33 0 [.osl 1 (.ci 0) (.op .llen [.va 0]) 1,.osl 2 (.ci 0) (.op .llen [.va 1]) 1],.arr 5 [.int .u8] (.va 0),.arr 5 [.int .u8] (.va 1)],3,.op (.cmp .leq) [.op .llen [.op .lcat [.va 0,.va 1]],.ci 100000],.ous 3 (.op .llen [.va 1000]) 1,[some (.arr 5 [.int .u8] (.va 1000))],[.op .lcat [.va 0,.va 1]]⟩⟩
def h_joinC:HC:=⟨36,3,⟨[.sl 0 0 3 3],[.cells 33 0 [.osl 1 (.ci 0) (.op .llen [.va 0]) 1,.osl 2 (.ci 0) (.op .llen [.va 1]) 1,.osl 3 (.ci 0) (.op .llen [.va 2]) 1],.arr 5 [.int .u8] (.va 0),.arr 5 [.int .u8] (.va 1),.arr 5 [.int .u8] (.va 2)],4,.op (.cmp .leq) [.op .llen [.op .lcat [.op .lcat [.va 0,.va 1],.va 2]],.ci 100000],.ous 4 (.op .llen [.va 1000]) 1,[some (.arr 5 [.int .u8] (.va 1000))],[.op .lcat [.op .lcat [.va 0,.va 1],.va 2]]⟩⟩
def h_joinD:HC:=⟨36,4,⟨[.sl 0 0 4 4],[.cells 33 0 [.osl 1 (.ci 0) (.op .llen [.va 0]) 1,.osl 2 (.ci 0) (.op .llen [.va 1]) 1,.osl 3 (.ci 0) (.op .llen [.va 2]) 1,.osl 4 (.ci 0) (.op .llen [.va 3]) 1],.arr 5 [.int .u8] (.va 0),.arr 5 [.int .u8] (.va 1),.arr 5 [.int .u8] (.va 2),.arr 5 [.int .u8] (.va 3)],5,.op (.cmp .leq) [.op .llen [.op .lcat [.op .lcat [.op .lcat [.va 0,.va 1],.va 2],.va 3]],.ci 100000],.ous 5 (.op .llen [.va 1000]) 1,[some (.arr 5 [.int .u8] (.va 1000))],[.op .lcat [.op .lcat [.op .lcat [.va 0,.va 1],.va 2],.va 3]]⟩⟩
def h_joinR:HC:=⟨59,4,⟨[.sl 0 0 4 4],[.cells 33 0 [.osl 1 (.ci 0) (.op .llen [.va 0]) 1,.osl 2 (.ci 0) (.op .llen [.va 1]) 1,.osl 3 (.ci 0) (.op .llen [.va 2]) 1,.osl 4 (.ci 0) (.op .llen [.va 3]) 1],.arr 5 [.int .u8] (.va 0),.arr 5 [.int .u8] (.va 1),.arr 5 [.int .u8] (.va 2),.arr 5 [.int .u8] (.va 3)],5,.op (.cmp .leq) [.op .llen [.op .lcat [.op .lcat [.op .lcat [.va 0,.va 1],.va 2],.va 3]],.ci 100000],.ous 5 (.op .llen [.va 1000]) 1,[some (.arr 5 [.int .u8] (.va 1000))],[.op .lcat [.op .lcat [.op .lcat [.va 0,.va 1],.va 2],.va 3]]⟩⟩
def h_fewRows:HC:=⟨34,1,⟨[.osl 0 (.ci 0) (.op .llen [.va 0]) 7],[.arr 4294967295 sg7 (.va 0)],1,.op (.cmp .leq) [.op .llen [.va 0],.ci 1000],.obool (.va 1000),[],[.app 1 [.va 0]]⟩⟩
def h_few:HC:=⟨35,1,⟨[.osl 0 (.ci 0) (.op .llen [.va 0]) 3],[.arr 4294967295 sg3 (.va 0)],1,.op (.cmp .leq) [.op .llen [.va 0],.ci 1000],.obool (.va 1000),[],[.app 2 [.va 0]]⟩⟩
def h_spoil:HC:=⟨18,2,⟨[.ous 0 (.va 0) 1],[.arr 5 [.int .u8] (.va 1)],0,.op .and [.op (.cmp .eql) [.va 0,.op .llen [.va 1]],.op (.cmp .leq) [.op .llen [.va 1],.ci 1000000]],.tup [],[none],[]⟩⟩
def h_rows:HC:=⟨27,1,⟨[.osl 0 (.ci 0) (.op .llen [.va 0]) 7],[.arr 4294967295 sg7 (.va 0)],1,.op (.cmp .leq) [.op .llen [.va 0],.ci 1000],.ous 1 (.op .llen [.va 1000]) 7,[some (.arr 95 sg7 (.va 1000))],[.app 30 [.va 0]]⟩⟩
def h_panes:HC:=⟨28,1,⟨[.osl 0 (.ci 0) (.op .llen [.va 0]) 3],[.arr 4294967295 sg3 (.va 0)],1,.op (.cmp .leq) [.op .llen [.va 0],.ci 1000],.ous 1 (.op .llen [.va 1000]) 3,[some (.arr 92 sg3 (.va 1000))],[.app 31 [.va 0]]⟩⟩
def h_equalRows:HC:=⟨51,2,⟨[.osl 0 (.ci 0) (.op .llen [.va 0]) 7,.osl 1 (.ci 0) (.op .llen [.va 1]) 7],[.arr 4294967295 sg7 (.va 0),.arr 4294967295 sg7 (.va 1)],2,.op (.cmp .leq) [.op .llen [.va 0],.ci 1000000],.obool (.va 1000),[],[.app 3 [.va 0,.va 1]]⟩⟩
def h_equalPanes:HC:=⟨52,2,⟨[.osl 0 (.ci 0) (.op .llen [.va 0]) 3,.osl 1 (.ci 0) (.op .llen [.va 1]) 3],[.arr 4294967295 sg3 (.va 0),.arr 4294967295 sg3 (.va 1)],2,.op (.cmp .leq) [.op .llen [.va 0],.ci 1000000],.obool (.va 1000),[],[.app 11 [.va 0,.va 1]]⟩⟩
def h_sameV:HC:=⟨53,2,⟨[.osl 0 (.ci 0) (.op .llen [.va 0]) 7,.osl 1 (.ci 0) (.op .llen [.va 1]) 7],[.arr 4294967295 sg7 (.va 0),.arr 4294967295 sg7 (.va 1)],2,.op (.cmp .leq) [.op .llen [.va 0],.ci 1000000],.obool (.va 1000),[],[.app 3 [.va 0,.va 1]]⟩⟩
def h_sameBytes:HC:=⟨17,2,⟨[.osl 0 (.ci 0) (.op .llen [.va 0]) 1,.osl 1 (.ci 0) (.op .llen [.va 1]) 1],[.arr 4294967295 [.int .u8] (.va 0),.arr 4294967295 [.int .u8] (.va 1)],2,.op (.cmp .leq) [.op .llen [.va 0],.ci 1000000],.obool (.va 1000),[],[.app 12 [.va 0,.va 1]]⟩⟩
def h_spoilRows:HC:=⟨30,2,⟨[.ous 0 (.va 0) 7],[.arr 49 sg7 (.va 1)],0,.op .and [.op (.cmp .eql) [.va 0,.op .llen [.va 1]],.op (.cmp .leq) [.op .llen [.va 1],.ci 1000000]],.tup [],[none],[]⟩⟩
def h_spoilPanes:HC:=⟨31,2,⟨[.ous 0 (.va 0) 3],[.arr 45 sg3 (.va 1)],0,.op .and [.op (.cmp .eql) [.va 0,.op .llen [.va 1]],.op (.cmp .leq) [.op .llen [.va 1],.ci 1000000]],.tup [],[none],[]⟩⟩
def h_badRows:HC:=⟨41,1,⟨[.osl 0 (.ci 0) (.op .llen [.va 0]) 7,.func (.func 42) [] []],[.arr 4294967295 sg7 (.va 0)],1,.op (.cmp .leq) [.op .llen [.va 0],.ci 1000],.obool (.va 1000),[],[.app 9 [.va 0]]⟩⟩
def h_badPanes:HC:=⟨46,1,⟨[.osl 0 (.ci 0) (.op .llen [.va 0]) 3,.func (.func 47) [] []],[.arr 4294967295 sg3 (.va 0)],1,.op (.cmp .leq) [.op .llen [.va 0],.ci 1000],.obool (.va 1000),[],[.app 10 [.va 0]]⟩⟩
def h_u8:HC:=⟨55,2,⟨[.ptr 1 0],[.arr 5 [.int .u8] (.va 0),.cells 145 0 [.osl 0 (.op .lget [.va 1,.ci 0,.ci 0]) (.op .lget [.va 1,.ci 0,.ci 1]) 1,.oint .i64 (.op .lget [.va 1,.ci 0,.ci 2])]],1,.app 46 [.va 0,.va 1],.oint .u8 (.va 1000),[some (.cells 145 0 [.osl 0 (.va 1001) (.va 1002) 1,.oint .i64 (.va 1003)])],[.app 40 [.va 0,.va 1,.ci 1],.op .lget [.app 44 [.va 0,.va 1,.ci 1],.ci 0,.ci 0],.op .lget [.app 44 [.va 0,.va 1,.ci 1],.ci 0,.ci 1],.op .lget [.app 44 [.va 0,.va 1,.ci 1],.ci 0,.ci 2]]⟩⟩
def h_u16:HC:=⟨124,2,⟨[.ptr 1 0],[.arr 5 [.int .u8] (.va 0),.cells 145 0 [.osl 0 (.op .lget [.va 1,.ci 0,.ci 0]) (.op .lget [.va 1,.ci 0,.ci 1]) 1,.oint .i64 (.op .lget [.va 1,.ci 0,.ci 2])]],1,.app 46 [.va 0,.va 1],.oint .u16 (.va 1000),[some (.cells 145 0 [.osl 0 (.va 1001) (.va 1002) 1,.oint .i64 (.va 1003)])],[.app 40 [.va 0,.va 1,.ci 2],.op .lget [.app 44 [.va 0,.va 1,.ci 2],.ci 0,.ci 0],.op .lget [.app 44 [.va 0,.va 1,.ci 2],.ci 0,.ci 1],.op .lget [.app 44 [.va 0,.va 1,.ci 2],.ci 0,.ci 2]]⟩⟩
def h_u32:HC:=⟨56,2,⟨[.ptr 1 0],[.arr 5 [.int .u8] (.va 0),.cells 145 0 [.osl 0 (.op .lget [.va 1,.ci 0,.ci 0]) (.op .lget [.va 1,.ci 0,.ci 1]) 1,.oint .i64 (.op .lget [.va 1,.ci 0,.ci 2])]],1,.app 46 [.va 0,.va 1],.oint .u32 (.va 1000),[some (.cells 145 0 [.osl 0 (.va 1001) (.va 1002) 1,.oint .i64 (.va 1003)])],[.app 40 [.va 0,.va 1,.ci 4],.op .lget [.app 44 [.va 0,.va 1,.ci 4],.ci 0,.ci 0],.op .lget [.app 44 [.va 0,.va 1,.ci 4],.ci 0,.ci 1],.op .lget [.app 44 [.va 0,.va 1,.ci 4],.ci 0,.ci 2]]⟩⟩
def h_u64:HC:=⟨122,2,⟨[.ptr 1 0],[.arr 5 [.int .u8] (.va 0),.cells 145 0 [.osl 0 (.op .lget [.va 1,.ci 0,.ci 0]) (.op .lget [.va 1,.ci 0,.ci 1]) 1,.oint .i64 (.op .lget [.va 1,.ci 0,.ci 2])]],1,.app 46 [.va 0,.va 1],.oint .u64 (.va 1000),[some (.cells 145 0 [.osl 0 (.va 1001) (.va 1002) 1,.oint .i64 (.va 1003)])],[.app 40 [.va 0,.va 1,.ci 8],.op .lget [.app 44 [.va 0,.va 1,.ci 8],.ci 0,.ci 0],.op .lget [.app 44 [.va 0,.va 1,.ci 8],.ci 0,.ci 1],.op .lget [.app 44 [.va 0,.va 1,.ci 8],.ci 0,.ci 2]]⟩⟩
def h_takeA:HC:=⟨64,4,⟨[.agg [.osl 0 (.va 2) (.va 3) 1,.oint .i64 (.op .lget [.va 1,.ci 0,.ci 0]),.obool (.op .lget [.va 1,.ci 0,.ci 1])],.int .i64 1],[.arr 4294967295 [.int .u8] (.va 0)],1,.app 47 [.va 0,.va 1,.va 2,.va 3],.tup [.oint .u64 (.va 1000),.agg [.osl 0 (.va 1001) (.va 1002) 1,.oint .i64 (.va 1003),.obool (.va 1004)]],[],[.app 48 [.va 0,.va 1,.ci 1],.va 2,.va 3,.op .lget [.app 45 [.va 0,.va 1,.ci 1],.ci 0,.ci 0],.op .lget [.app 45 [.va 0,.va 1,.ci 1],.ci 0,.ci 1]]⟩⟩
def h_takeB:HC:=⟨64,4,⟨[.agg [.osl 0 (.va 2) (.va 3) 1,.oint .i64 (.op .lget [.va 1,.ci 0,.ci 0]),.obool (.op .lget [.va 1,.ci 0,.ci 1])],.int .i64 2],[.arr 4294967295 [.int .u8] (.va 0)],1,.app 47 [.va 0,.va 1,.va 2,.va 3],.tup [.oint .u64 (.va 1000),.agg [.osl 0 (.va 1001) (.va 1002) 1,.oint .i64 (.va 1003),.obool (.va 1004)]],[],[.app 48 [.va 0,.va 1,.ci 2],.va 2,.va 3,.op .lget [.app 45 [.va 0,.va 1,.ci 2],.ci 0,.ci 0],.op .lget [.app 45 [.va 0,.va 1,.ci 2],.ci 0,.ci 1]]⟩⟩
def h_takeC:HC:=⟨64,4,⟨[.agg [.osl 0 (.va 2) (.va 3) 1,.oint .i64 (.op .lget [.va 1,.ci 0,.ci 0]),.obool (.op .lget [.va 1,.ci 0,.ci 1])],.int .i64 4],[.arr 4294967295 [.int .u8] (.va 0)],1,.app 47 [.va 0,.va 1,.va 2,.va 3],.tup [.oint .u64 (.va 1000),.agg [.osl 0 (.va 1001) (.va 1002) 1,.oint .i64 (.va 1003),.obool (.va 1004)]],[],[.app 48 [.va 0,.va 1,.ci 4],.va 2,.va 3,.op .lget [.app 45 [.va 0,.va 1,.ci 4],.ci 0,.ci 0],.op .lget [.app 45 [.va 0,.va 1,.ci 4],.ci 0,.ci 1]]⟩⟩
def h_takeD:HC:=⟨64,4,⟨[.agg [.osl 0 (.va 2) (.va 3) 1,.oint .i64 (.op .lget [.va 1,.ci 0,.ci 0]),.obool (.op .lget [.va 1,.ci 0,.ci 1])],.int .i64 8],[.arr 4294967295 [.int .u8] (.va 0)],1,.app 47 [.va 0,.va 1,.va 2,.va 3],.tup [.oint .u64 (.va 1000),.agg [.osl 0 (.va 1001) (.va 1002) 1,.oint .i64 (.va 1003),.obool (.va 1004)]],[],[.app 48 [.va 0,.va 1,.ci 8],.va 2,.va 3,.op .lget [.app 45 [.va 0,.va 1,.ci 8],.ci 0,.ci 0],.op .lget [.app 45 [.va 0,.va 1,.ci 8],.ci 0,.ci 1]]⟩⟩
def LevL1:List HC:=[h_pkA,h_pkB,h_pkC,h_pkD,h_numB,h_numC,h_numD,h_joinB,h_joinC,h_joinD,h_joinR,h_fewRows,h_few,h_spoil,h_rows,h_panes,h_equalRows,h_equalPanes,h_sameV,h_sameBytes,h_spoilRows,h_spoilPanes,h_badRows,h_badPanes,h_u8,h_u16,h_u32,h_u64,h_takeA,h_takeB,h_takeC,h_takeD]
def h_putInt:HC:=⟨106,1,⟨[.oint .i64 (.va 0)],[],0,.cb true,.ous 0 (.op .llen [.va 1000]) 1,[some (.arr 5 [.int .u8] (.va 1000))],[.app 20 [.op (.conv .u64) [.va 0],.ci 8]]⟩⟩
def h_intR:HC:=⟨60,1,⟨[.oint .i64 (.va 0)],[],0,.cb true,.ous 0 (.op .llen [.va 1000]) 1,[some (.arr 5 [.int .u8] (.va 1000))],[.app 20 [.op (.conv .u64) [.va 0],.ci 8]]⟩⟩
def h_putText:HC:=⟨109,1,⟨[.ostr (.va 0)],[],0,.op (.cmp .leq) [.op .slen [.va 0],.ci 65535],.tup [.ous 0 (.op .llen [.va 1001]) 1,.oint .i64 (.va 1000)],[some (.arr 5 [.int .u8] (.va 1001))],[.ci 0,.app 21 [.va 0]]⟩⟩
def h_text:HC:=⟨77,1,⟨[.ostr (.va 0)],[],0,.op (.cmp .leq) [.op .slen [.va 0],.ci 65535],.tup [.ous 0 (.op .llen [.va 1001]) 1,.oint .i64 (.va 1000)],[some (.arr 5 [.int .u8] (.va 1001))],[.ci 0,.app 21 [.va 0]]⟩⟩
def h_fewRep:HC:=⟨15,12,⟨[.agg (.oint .u8 (.va 0)::colA)],[.arr 4294967295 sg7 (.va 10),.arr 4294967295 sg3 (.va 11)],2,.cb true,.obool (.va 1000),[],[.app 8 [.va 0,.va 1,.va 2,.va 3,.va 4,.va 5,.va 6,.va 7,.va 8,.va 9,.va 10,.va 11]]⟩⟩
def h_same:HC:=⟨21,24,⟨[.agg (.oint .u8 (.va 0)::colA),.agg [.oint .u8 (.va 12),.oint .u32 (.va 13),.oint .u16 (.va 14),.obool (.va 15),.oint .u64 (.va 16),.oint .u64 (.va 17),.oint .u64 (.va 18),.oint .u64 (.va 19),.oint .u64 (.va 20),.oint .u64 (.va 21),.osl 2 (.ci 0) (.op .llen [.va 22]) 7,.osl 3 (.ci 0) (.op .llen [.va 23]) 3]],[.arr 4294967295 sg7 (.va 10),.arr 4294967295 sg3 (.va 11),.arr 4294967295 sg7 (.va 22),.arr 4294967295 sg3 (.va 23)],4,.op .and [.op (.cmp .leq) [.op .llen [.va 10],.ci 1000000],.op (.cmp .leq) [.op .llen [.va 11],.ci 1000000]],.obool (.va 1000),[],[.app 7 [.va 0,.va 1,.va 2,.va 3,.va 4,.va 5,.va 6,.va 7,.va 8,.va 9,.va 10,.va 11,.va 12,.va 13,.va 14,.va 15,.va 16,.va 17,.va 18,.va 19,.va 20,.va 21,.va 22,.va 23]]⟩⟩
def h_rep:HC:=⟨9,12,⟨[.agg (.oint .u8 (.va 0)::colA)],[.arr 4294967295 sg7 (.va 10),.arr 4294967295 sg3 (.va 11)],2,.op .and [.op (.cmp .leq) [.op .llen [.va 10],.ci 1000],.op (.cmp .leq) [.op .llen [.va 11],.ci 1000]],.agg [.oint .u8 (.va 1000),.oint .u32 (.va 1001),.oint .u16 (.va 1002),.obool (.va 1003),.oint .u64 (.va 1004),.oint .u64 (.va 1005),.oint .u64 (.va 1006),.oint .u64 (.va 1007),.oint .u64 (.va 1008),.oint .u64 (.va 1009),.ous 2 (.op .llen [.va 1010]) 7,.ous 3 (.op .llen [.va 1011]) 3],[some (.arr 95 sg7 (.va 1010)),some (.arr 92 sg3 (.va 1011))],[.va 0,.va 1,.va 2,.va 3,.va 4,.va 5,.va 6,.va 7,.va 8,.va 9,.app 30 [.va 10],.app 31 [.va 11]]⟩⟩
def h_sameR:HC:=⟨22,24,⟨[.agg (.oint .u8 (.va 0)::colA),.agg [.oint .u8 (.va 12),.oint .u32 (.va 13),.oint .u16 (.va 14),.obool (.va 15),.oint .u64 (.va 16),.oint .u64 (.va 17),.oint .u64 (.va 18),.oint .u64 (.va 19),.oint .u64 (.va 20),.oint .u64 (.va 21),.osl 2 (.ci 0) (.op .llen [.va 22]) 7,.osl 3 (.ci 0) (.op .llen [.va 23]) 3]],[.arr 4294967295 sg7 (.va 10),.arr 4294967295 sg3 (.va 11),.arr 4294967295 sg7 (.va 22),.arr 4294967295 sg3 (.va 23)],4,.op .and [.op (.cmp .leq) [.op .llen [.va 10],.ci 1000000],.op (.cmp .leq) [.op .llen [.va 11],.ci 1000000]],.obool (.va 1000),[],[.app 7 [.va 0,.va 1,.va 2,.va 3,.va 4,.va 5,.va 6,.va 7,.va 8,.va 9,.va 10,.va 11,.va 12,.va 13,.va 14,.va 15,.va 16,.va 17,.va 18,.va 19,.va 20,.va 21,.va 22,.va 23]]⟩⟩
def h_textP:HC:=⟨126,2,⟨[.ptr 1 0],[.arr 5 [.int .u8] (.va 0),.cells 145 0 [.osl 0 (.op .lget [.va 1,.ci 0,.ci 0]) (.op .lget [.va 1,.ci 0,.ci 1]) 1,.oint .i64 (.op .lget [.va 1,.ci 0,.ci 2])]],1,.app 46 [.va 0,.va 1],.ostr (.va 1000),[some (.cells 145 0 [.osl 0 (.va 1001) (.va 1002) 1,.oint .i64 (.va 1003)])],[.app 70 [.va 0,.va 1],.op .lget [.app 71 [.va 0,.va 1],.ci 0,.ci 0],.op .lget [.app 71 [.va 0,.va 1],.ci 0,.ci 1],.op .lget [.app 71 [.va 0,.va 1],.ci 0,.ci 2]]⟩⟩
def h_textR:HC:=⟨82,4,⟨[.agg [.osl 0 (.va 2) (.va 3) 1,.oint .i64 (.op .lget [.va 1,.ci 0,.ci 0]),.obool (.op .lget [.va 1,.ci 0,.ci 1])]],[.arr 4294967295 [.int .u8] (.va 0)],1,.app 47 [.va 0,.va 1,.va 2,.va 3],.tup [.ostr (.va 1000),.agg [.osl 0 (.va 1001) (.va 1002) 1,.oint .i64 (.va 1003),.obool (.va 1004)]],[],[.app 72 [.va 0,.va 1],.va 2,.va 3,.op .lget [.app 73 [.va 0,.va 1],.ci 0,.ci 0],.op .lget [.app 73 [.va 0,.va 1],.ci 0,.ci 1]]⟩⟩
def LevL2:List HC:=[h_putInt,h_intR,h_putText,h_text,h_fewRep,h_same,h_rep,h_sameR,h_textP,h_textR]
def h_pane:HC:=⟨58,3,⟨[.agg [.ostr (.va 0),.oint .i64 (.va 1),.oint .i64 (.va 2)]],[],0,.op (.cmp .leq) [.op .slen [.va 0],.ci 65535],.ous 0 (.op .llen [.va 1000]) 1,[some (.arr 5 [.int .u8] (.va 1000))],[.app 22 [.va 0,.va 1,.va 2]]⟩⟩
def h_rightR:HC:=⟨20,12,⟨[.agg (.oint .u8 (.va 0)::colA)],[.arr 4294967295 sg7 (.va 10),.arr 4294967295 sg3 (.va 11)],2,.op .and [.op (.cmp .leq) [.op .llen [.va 10],.ci 1000],.op (.cmp .leq) [.op .llen [.va 11],.ci 1000]],.obool (.va 1000),[],[.app 4 [.va 0,.va 1,.va 2,.va 3,.va 4,.va 5,.va 6,.va 7,.va 8,.va 9,.va 10,.va 11]]⟩⟩
def a_rightR0:List AV:=[.agg (.oint .u8 (.va 0)::colA)]
def a_rightR1:List AV:=[.agg (.int .u8 1::colA)]
def a_rightR2:List AV:=[.agg (.int .u8 2::colA)]
def a_rightR3:List AV:=[.agg (.int .u8 3::colA)]
def a_rightR4:List AV:=[.agg (.int .u8 4::colA)]
def a_rightR5:List AV:=[.agg (.int .u8 5::colA)]
def a_rightR6:List AV:=[.agg (.int .u8 6::colA)]
def a_rightR7:List AV:=[.agg (.int .u8 7::colA)]
def h_right:HC:=⟨19,12,⟨[.agg (.oint .u8 (.va 0)::colA)],[.arr 4294967295 sg7 (.va 10),.arr 4294967295 sg3 (.va 11)],2,.op .and [.op (.cmp .leq) [.op .llen [.va 10],.ci 1000],.op (.cmp .leq) [.op .llen [.va 11],.ci 1000]],.obool (.va 1000),[],[.app 4 [.va 0,.va 1,.va 2,.va 3,.va 4,.va 5,.va 6,.va 7,.va 8,.va 9,.va 10,.va 11]]⟩⟩
def a_right0:List AV:=[.agg (.oint .u8 (.va 0)::colA)]
def a_right1:List AV:=[.agg (.int .u8 1::colA)]
def a_right2:List AV:=[.agg (.int .u8 2::colA)]
def a_right3:List AV:=[.agg (.int .u8 3::colA)]
def a_right4:List AV:=[.agg (.int .u8 4::colA)]
def a_right5:List AV:=[.agg (.int .u8 5::colA)]
def a_right6:List AV:=[.agg (.int .u8 6::colA)]
def a_right7:List AV:=[.agg (.int .u8 7::colA)]
def h_paneP:HC:=⟨123,3,⟨[.ptr 1 0],[.arr 5 [.int .u8] (.va 0),.cells 106 0 [.ptr 2 0,.obool (.va 2)],.cells 145 0 [.osl 0 (.op .lget [.va 1,.ci 0,.ci 0]) (.op .lget [.va 1,.ci 0,.ci 1]) 1,.oint .i64 (.op .lget [.va 1,.ci 0,.ci 2])]],2,.app 46 [.va 0,.va 1],.agg [.ostr (.va 1000),.oint .i64 (.va 1001),.oint .i64 (.va 1002)],[some (.cells 145 0 [.osl 0 (.va 1003) (.va 1004) 1,.oint .i64 (.va 1005)])],[.op .lget [.app 74 [.va 0,.va 1],.ci 0,.ci 0],.op .lget [.app 74 [.va 0,.va 1],.ci 0,.ci 1],.op .lget [.app 74 [.va 0,.va 1],.ci 0,.ci 2],.op .lget [.app 75 [.va 0,.va 1],.ci 0,.ci 0],.op .lget [.app 75 [.va 0,.va 1],.ci 0,.ci 1],.op .lget [.app 75 [.va 0,.va 1],.ci 0,.ci 2]]⟩⟩
def h_paneR:HC:=⟨79,4,⟨[.agg [.osl 0 (.va 2) (.va 3) 1,.oint .i64 (.op .lget [.va 1,.ci 0,.ci 0]),.obool (.op .lget [.va 1,.ci 0,.ci 1])]],[.arr 4294967295 [.int .u8] (.va 0)],1,.app 47 [.va 0,.va 1,.va 2,.va 3],.tup [.agg [.ostr (.va 1000),.oint .i64 (.va 1001),.oint .i64 (.va 1002)],.agg [.osl 0 (.va 1003) (.va 1004) 1,.oint .i64 (.va 1005),.obool (.va 1006)]],[],[.op .lget [.app 76 [.va 0,.va 1],.ci 0,.ci 0],.op .lget [.app 76 [.va 0,.va 1],.ci 0,.ci 1],.op .lget [.app 76 [.va 0,.va 1],.ci 0,.ci 2],.va 2,.va 3,.op .lget [.app 77 [.va 0,.va 1],.ci 0,.ci 0],.op .lget [.app 77 [.va 0,.va 1],.ci 0,.ci 1]]⟩⟩
def LevL3:List HC:=[h_pane,h_rightR,h_right,h_paneP,h_paneR]
def h_rowR:HC:=⟨78,4,⟨[.agg [.osl 0 (.va 2) (.va 3) 1,.oint .i64 (.op .lget [.va 1,.ci 0,.ci 0]),.obool (.op .lget [.va 1,.ci 0,.ci 1])]],[.arr 4294967295 [.int .u8] (.va 0)],1,.app 47 [.va 0,.va 1,.va 2,.va 3],.tup [.agg [.ostr (.va 1000),.oint .i64 (.va 1001),.oint .i64 (.va 1002),.oint .i64 (.va 1003),.oint .i64 (.va 1004),.oint .i64 (.va 1005),.oint .i64 (.va 1006)],.agg [.osl 0 (.va 1007) (.va 1008) 1,.oint .i64 (.va 1009),.obool (.va 1010)]],[],[.op .lget [.app 78 [.va 0,.va 1],.ci 0,.ci 0],.op .lget [.app 78 [.va 0,.va 1],.ci 0,.ci 1],.op .lget [.app 78 [.va 0,.va 1],.ci 0,.ci 2],.op .lget [.app 78 [.va 0,.va 1],.ci 0,.ci 3],.op .lget [.app 78 [.va 0,.va 1],.ci 0,.ci 4],.op .lget [.app 78 [.va 0,.va 1],.ci 0,.ci 5],.op .lget [.app 78 [.va 0,.va 1],.ci 0,.ci 6],.va 2,.va 3,.op .lget [.app 79 [.va 0,.va 1],.ci 0,.ci 0],.op .lget [.app 79 [.va 0,.va 1],.ci 0,.ci 1]]⟩⟩
def h_put:HC:=⟨16,12,⟨[.agg (.oint .u8 (.va 0)::colA)],[.arr 4294967295 sg7 (.va 10),.arr 4294967295 sg3 (.va 11)],2,.app 8 [.va 0,.va 1,.va 2,.va 3,.va 4,.va 5,.va 6,.va 7,.va 8,.va 9,.va 10,.va 11],.tup [.ous 2 (.op .llen [.va 1001]) 1,.oint .i64 (.va 1000)],[some (.arr 5 [.int .u8] (.va 1001))],[.app 6 [.va 0,.va 1,.va 2,.va 3,.va 4,.va 5,.va 6,.va 7,.va 8,.va 9,.va 10,.va 11],.app 5 [.va 0,.va 1,.va 2,.va 3,.va 4,.va 5,.va 6,.va 7,.va 8,.va 9,.va 10,.va 11]]⟩⟩
def a_put0:List AV:=[.agg (.oint .u8 (.va 0)::colA)]
def a_put1:List AV:=[.agg (.int .u8 1::colA)]
def a_put2:List AV:=[.agg (.int .u8 2::colA)]
def a_put3:List AV:=[.agg (.int .u8 3::colA)]
def a_put4:List AV:=[.agg (.int .u8 4::colA)]
def a_put5:List AV:=[.agg (.int .u8 5::colA)]
def a_put6:List AV:=[.agg (.int .u8 6::colA)]
def a_put7:List AV:=[.agg (.int .u8 7::colA)]
def h_putR:HC:=⟨8,12,⟨[.agg (.oint .u8 (.va 0)::colA)],[.arr 4294967295 sg7 (.va 10),.arr 4294967295 sg3 (.va 11)],2,.op .and [.op .and [.op .and [.op .and [.op .and [.op .and [.app 8 [.va 0,.va 1,.va 2,.va 3,.va 4,.va 5,.va 6,.va 7,.va 8,.va 9,.va 10,.va 11],.op (.cmp .leq) [.ci 0,.va 4]],.op (.cmp .leq) [.ci 0,.va 5]],.op (.cmp .leq) [.ci 0,.va 6]],.op (.cmp .leq) [.ci 0,.va 7]],.op (.cmp .leq) [.ci 0,.va 8]],.op (.cmp .leq) [.ci 0,.va 9]],.tup [.ous 2 (.op .llen [.va 1001]) 1,.oint .i64 (.va 1000)],[some (.arr 5 [.int .u8] (.va 1001))],[.app 6 [.va 0,.va 1,.va 2,.va 3,.va 4,.va 5,.va 6,.va 7,.va 8,.va 9,.va 10,.va 11],.app 5 [.va 0,.va 1,.va 2,.va 3,.va 4,.va 5,.va 6,.va 7,.va 8,.va 9,.va 10,.va 11]]⟩⟩
def a_putR0:List AV:=[.agg (.oint .u8 (.va 0)::colA)]
def a_putR1:List AV:=[.agg (.int .u8 1::colA)]
def a_putR2:List AV:=[.agg (.int .u8 2::colA)]
def a_putR3:List AV:=[.agg (.int .u8 3::colA)]
def a_putR4:List AV:=[.agg (.int .u8 4::colA)]
def a_putR5:List AV:=[.agg (.int .u8 5::colA)]
def a_putR6:List AV:=[.agg (.int .u8 6::colA)]
def a_putR7:List AV:=[.agg (.int .u8 7::colA)]
def LevL4:List HC:=[h_rowR,h_put,h_putR]
def h_parse:HC:=⟨23,1,⟨[.osl 0 (.ci 0) (.op .llen [.va 0]) 1],[.arr 4294967295 [.int .u8] (.va 0)],1,.op .and [.op (.cmp .leq) [.op .llen [.va 0],.ci 1000000],.op .bok [.va 0]],.tup [.agg [.oint .u8 (.va 1000),.oint .u32 (.va 1001),.oint .u16 (.va 1002),.obool (.va 1003),.oint .u64 (.va 1004),.oint .u64 (.va 1005),.oint .u64 (.va 1006),.oint .u64 (.va 1007),.oint .u64 (.va 1008),.oint .u64 (.va 1009),.ous 1 (.op .llen [.va 1011]) 7,.ous 2 (.op .llen [.va 1012]) 3],.oint .i64 (.va 1010)],[some (.arr 49 sg7 (.va 1011)),some (.arr 45 sg3 (.va 1012))],[.app 50 [.va 0],.app 51 [.va 0],.app 52 [.va 0],.app 53 [.va 0],.app 54 [.va 0],.app 55 [.va 0],.app 56 [.va 0],.app 57 [.va 0],.app 58 [.va 0],.app 59 [.va 0],.app 60 [.va 0],.app 61 [.va 0],.app 62 [.va 0]]⟩⟩
def h_parseR:HC:=⟨29,1,⟨[.osl 0 (.ci 0) (.op .llen [.va 0]) 1],[.arr 4294967295 [.int .u8] (.va 0)],1,.op .and [.op (.cmp .leq) [.op .llen [.va 0],.ci 1000000],.op .bok [.va 0]],.tup [.agg [.oint .u8 (.va 1000),.oint .u32 (.va 1001),.oint .u16 (.va 1002),.obool (.va 1003),.oint .u64 (.va 1004),.oint .u64 (.va 1005),.oint .u64 (.va 1006),.oint .u64 (.va 1007),.oint .u64 (.va 1008),.oint .u64 (.va 1009),.ous 1 (.op .llen [.va 1011]) 7,.ous 2 (.op .llen [.va 1012]) 3],.oint .i64 (.va 1010)],[some (.arr 95 sg7 (.va 1011)),some (.arr 92 sg3 (.va 1012))],[.app 50 [.va 0],.app 51 [.va 0],.app 52 [.va 0],.app 53 [.va 0],.app 54 [.va 0],.app 55 [.va 0],.app 56 [.va 0],.app 57 [.va 0],.app 58 [.va 0],.app 59 [.va 0],.app 60 [.va 0],.app 61 [.va 0],.app 62 [.va 0]]⟩⟩
def LevL5:List HC:=[h_parse,h_parseR]
def h_replyPuts:HC:=⟨5,24,⟨[.agg (.oint .u8 (.va 0)::colA),.agg [.oint .u8 (.va 12),.oint .u32 (.va 13),.oint .u16 (.va 14),.obool (.va 15),.oint .u64 (.va 16),.oint .u64 (.va 17),.oint .u64 (.va 18),.oint .u64 (.va 19),.oint .u64 (.va 20),.oint .u64 (.va 21),.osl 2 (.ci 0) (.op .llen [.va 22]) 7,.osl 3 (.ci 0) (.op .llen [.va 23]) 3]],[.arr 4294967295 sg7 (.va 10),.arr 4294967295 sg3 (.va 11),.arr 4294967295 sg7 (.va 22),.arr 4294967295 sg3 (.va 23)],4,.op .and [.op .and [.op .and [.op .and [.op .and [.op (.cmp .leq) [.ci 0,.va 4],.op (.cmp .leq) [.ci 0,.va 5]],.op (.cmp .leq) [.ci 0,.va 6]],.op (.cmp .leq) [.ci 0,.va 7]],.op (.cmp .leq) [.ci 0,.va 8]],.op (.cmp .leq) [.ci 0,.va 9]],.obool (.va 1000),[],[.cb true]⟩⟩
def h_replyReads:HC:=⟨10,1,⟨[.osl 0 (.ci 0) (.op .llen [.va 0]) 1],[.arr 4294967295 [.int .u8] (.va 0)],1,.op .bok [.va 0],.obool (.va 1000),[],[.cb true]⟩⟩
def h_replyBack:HC:=⟨7,13,⟨[.agg (.oint .u8 (.va 0)::colA),.osl 2 (.ci 0) (.op .llen [.va 12]) 1],[.arr 4294967295 sg7 (.va 10),.arr 4294967295 sg3 (.va 11),.arr 4294967295 [.int .u8] (.va 12)],3,.op .and [.op .and [.op .and [.op .and [.op .and [.op .and [.op .and [.op .and [.op .and [.op .and [.op .and [.op .bok [.va 12],.op .and [.op (.cmp .leq) [.ci 0,.va 0],.op (.cmp .lss) [.va 0,.ci 256]]],.op .and [.op (.cmp .leq) [.ci 0,.va 1],.op (.cmp .lss) [.va 1,.ci 4294967296]]],.op .and [.op (.cmp .leq) [.ci 0,.va 2],.op (.cmp .lss) [.va 2,.ci 65536]]],.op .and [.op (.cmp .leq) [.ci 0,.va 4],.op (.cmp .lss) [.va 4,.ci 18446744073709551616]]],.op .and [.op (.cmp .leq) [.ci 0,.va 5],.op (.cmp .lss) [.va 5,.ci 18446744073709551616]]],.op .and [.op (.cmp .leq) [.ci 0,.va 6],.op (.cmp .lss) [.va 6,.ci 18446744073709551616]]],.op .and [.op (.cmp .leq) [.ci 0,.va 7],.op (.cmp .lss) [.va 7,.ci 18446744073709551616]]],.op .and [.op (.cmp .leq) [.ci 0,.va 8],.op (.cmp .lss) [.va 8,.ci 18446744073709551616]]],.op .and [.op (.cmp .leq) [.ci 0,.va 9],.op (.cmp .lss) [.va 9,.ci 18446744073709551616]]],.app 63 [.va 10]],.app 64 [.va 11]],.obool (.va 1000),[],[.cb true]⟩⟩
def LevL6:List HC:=[h_replyPuts,h_replyReads,h_replyBack]
def h_example:HC:=⟨4,1,⟨[.oint .u8 (.va 0)],[],0,.cb true,.agg [.oint .u8 (.va 1000),.oint .u32 (.va 1001),.oint .u16 (.va 1002),.obool (.va 1003),.oint .u64 (.va 1004),.oint .u64 (.va 1005),.oint .u64 (.va 1006),.oint .u64 (.va 1007),.oint .u64 (.va 1008),.oint .u64 (.va 1009),.ous 0 (.op .llen [.va 1010]) 7,.ous 1 (.op .llen [.va 1011]) 3],[some (.arr 49 sg7 (.va 1010)),some (.arr 45 sg3 (.va 1011))],[.va 0,.app 151 [.va 0],.app 152 [.va 0],.app 153 [.va 0],.app 154 [.va 0],.app 155 [.va 0],.app 156 [.va 0],.app 157 [.va 0],.app 158 [.va 0],.app 159 [.va 0],.app 160 [.va 0],.app 161 [.va 0]]⟩⟩
def LevL7:List HC:=[h_example]
def h_replyKnown:HC:=⟨3,0,⟨[],[],0,.cb true,.obool (.va 1000),[],[.cb true]⟩⟩
def LevL8:List HC:=[h_replyKnown]
theorem names:(Tryz.prog.funcs.toList.all fun fn=> !(fn.name== "runtime.NumGoroutine"))=true:=by kernel_rfl
theorem env0_ok(ω:Opq)(hω: ∀t,ω.fix t=aJ8 Tryz.prog t):env0.Ok ω:=by
 refine⟨hω,fun f fn h=> ?_,fun f e h=> ?_,fun _ _ _ _ h=>(by cases h),fun _ _ _ h=>(by cases h),fun _ _ _ h=>(by cases h),fun _ _ _ _ _ h=>(by cases h)⟩
 ·have h1:=j0.1 names fn (by
   obtain⟨h2,rfl⟩:=G0.1 h
   exact Array.mem_toList_iff.2 (Array.getElem_mem h2))
  simpa using h1
 ·cases h
theorem env_ok(ω:Opq)(hω: ∀t,ω.fix t=aJ8 Tryz.prog t):env.Ok ω:=
 let h:=env0_ok ω hω
 ⟨h.fix,h.name,h.ext,h.bin,h.un,h.conv,h.blt⟩
theorem orders:Tryz.prog.follows .mixedOrders=true:=by kernel_rfl
def KK(k:Int):List HC:=[h_kindP k,h_kindR k]
noncomputable def HookL0:List HC:=[]
noncomputable def HookL1:List HC:=LevL0++HookL0
noncomputable def HookL2:List HC:=LevL1++HookL1
noncomputable def HookL3:List HC:=LevL2++HookL2
noncomputable def HookL4:List HC:=LevL3++HookL3
noncomputable def HookL5:List HC:=LevL4++HookL4
noncomputable def HookL6:List HC:=LevL5++HookL5
noncomputable def HookL7:List HC:=LevL6++HookL6
noncomputable def HookL8:List HC:=LevL7++HookL7
theorem r_works:FC.run env0 1000000 h_works.f h_works.c h_works.c.args=cq5:=by kernel_rfl
theorem r_pkA:FC.run (env.hooks HookL1) 1000000 h_pkA.f h_pkA.c h_pkA.c.args=cJ1:=by kernel_rfl
theorem r_pkB:FC.run (env.hooks HookL1) 1000000 h_pkB.f h_pkB.c h_pkB.c.args=cJ2:=by kernel_rfl
theorem r_pkC:FC.run (env.hooks HookL1) 1000000 h_pkC.f h_pkC.c h_pkC.c.args=cJ3:=by kernel_rfl
theorem r_pkD:FC.run (env.hooks HookL1) 1000000 h_pkD.f h_pkD.c h_pkD.c.args=cJ4:=by kernel_rfl
theorem r_numB:FC.run (env.hooks HookL1) 1000000 h_numB.f h_numB.c h_numB.c.args=c31:=by kernel_rfl
theorem r_numC:FC.run (env.hooks HookL1) 1000000 h_numC.f h_numC.c h_numC.c.args=c32:=by kernel_rfl
theorem r_numD:FC.run (env.hooks HookL1) 1000000 h_numD.f h_numD.c h_numD.c.args=c33:=by kernel_rfl
theorem r_joinB:FC.run (env.hooks HookL1) 1000000 h_joinB.f h_joinB.c h_joinB.c.args=by1:=by kernel_rfl
theorem r_joinC:FC.run (env.hooks HookL1) 1000000 h_joinC.f h_joinC.c h_joinC.c.args=by2:=by kernel_rfl
theorem r_joinD:FC.run (env.hooks HookL1) 1000000 h_joinD.f h_joinD.c h_joinD.c.args=by3:=by kernel_rfl
theorem r_joinR:FC.run (env.hooks HookL1) 1000000 h_joinR.f h_joinR.c h_joinR.c.args=by4:=by kernel_rfl
theorem r_fewRows:FC.run (env.hooks HookL1) 1000000 h_fewRows.f h_fewRows.c h_fewRows.c.args=aH4:=by kernel_rfl
theorem r_few:FC.run (env.hooks HookL1) 1000000 h_few.f h_few.c h_few.c.args=cJ5:=by kernel_rfl
theorem r_spoil:FC.run (env.hooks HookL1) 1000000 h_spoil.f h_spoil.c h_spoil.c.args=by5:=by kernel_rfl
theorem r_rows:FC.run (env.hooks HookL1) 1000000 h_rows.f h_rows.c h_rows.c.args=c26:=by kernel_rfl
theorem r_panes:FC.run (env.hooks HookL1) 1000000 h_panes.f h_panes.c h_panes.c.args=bs3:=by kernel_rfl
theorem r_equalRows:FC.run (env.hooks HookL1) 1000000 h_equalRows.f h_equalRows.c h_equalRows.c.args=ae1:=by kernel_rfl
theorem r_equalPanes:FC.run (env.hooks HookL1) 1000000 h_equalPanes.f h_equalPanes.c h_equalPanes.c.args=a90:=by kernel_rfl
theorem r_sameV:FC.run (env.hooks HookL1) 1000000 h_sameV.f h_sameV.c h_sameV.c.args=bs4:=by kernel_rfl
theorem r_sameBytes:FC.run (env.hooks HookL1) 1000000 h_sameBytes.f h_sameBytes.c h_sameBytes.c.args=ae2:=by kernel_rfl
theorem r_spoilRows:FC.run (env.hooks HookL1) 1000000 h_spoilRows.f h_spoilRows.c h_spoilRows.c.args=ae3:=by kernel_rfl
theorem r_spoilPanes:FC.run (env.hooks HookL1) 1000000 h_spoilPanes.f h_spoilPanes.c h_spoilPanes.c.args=a91:=by kernel_rfl
theorem r_badRows:FC.run (env.hooks HookL1) 1000000 h_badRows.f h_badRows.c h_badRows.c.args=aD7:=by kernel_rfl
theorem r_badPanes:FC.run (env.hooks HookL1) 1000000 h_badPanes.f h_badPanes.c h_badPanes.c.args=ar2:=by kernel_rfl
theorem r_u8:FC.run (env.hooks HookL1) 1000000 h_u8.f h_u8.c h_u8.c.args=do4:=by kernel_rfl
theorem r_u16:FC.run (env.hooks HookL1) 1000000 h_u16.f h_u16.c h_u16.c.args=cI6:=by kernel_rfl
theorem r_u32:FC.run (env.hooks HookL1) 1000000 h_u32.f h_u32.c h_u32.c.args=cI7:=by kernel_rfl
theorem r_u64:FC.run (env.hooks HookL1) 1000000 h_u64.f h_u64.c h_u64.c.args=cI8:=by kernel_rfl
theorem r_takeA:FC.run (env.hooks HookL1) 1000000 h_takeA.f h_takeA.c h_takeA.c.args=bs5:=by kernel_rfl
theorem r_takeB:FC.run (env.hooks HookL1) 1000000 h_takeB.f h_takeB.c h_takeB.c.args=bs6:=by kernel_rfl
theorem r_takeC:FC.run (env.hooks HookL1) 1000000 h_takeC.f h_takeC.c h_takeC.c.args=bs7:=by kernel_rfl
theorem r_takeD:FC.run (env.hooks HookL1) 1000000 h_takeD.f h_takeD.c h_takeD.c.args=bs8:=by kernel_rfl
theorem r_putInt:FC.run (env.hooks HookL2) 1000000 h_putInt.f h_putInt.c h_putInt.c.args=aX9:=by kernel_rfl
theorem r_intR:FC.run (env.hooks HookL2) 1000000 h_intR.f h_intR.c h_intR.c.args=c34:=by kernel_rfl
theorem r_putText:FC.run (env.hooks HookL2) 1000000 h_putText.f h_putText.c h_putText.c.args=aH5:=by kernel_rfl
theorem r_text:FC.run (env.hooks HookL2) 1000000 h_text.f h_text.c h_text.c.args=c35:=by kernel_rfl
theorem r_fewRep:FC.run (env.hooks HookL2) 1000000 h_fewRep.f h_fewRep.c h_fewRep.c.args=av1:=by kernel_rfl
theorem r_same:FC.run (env.hooks HookL2) 1000000 h_same.f h_same.c h_same.c.args=c27:=by kernel_rfl
theorem r_rep:FC.run (env.hooks HookL2) 1000000 h_rep.f h_rep.c h_rep.c.args=cI9:=by kernel_rfl
theorem r_sameR:FC.run (env.hooks HookL2) 1000000 h_sameR.f h_sameR.c h_sameR.c.args=bs9:=by kernel_rfl
theorem r_textP:FC.run (env.hooks HookL2) 1000000 h_textP.f h_textP.c h_textP.c.args=bt0:=by kernel_rfl
theorem r_textR:FC.run (env.hooks HookL2) 1000000 h_textR.f h_textR.c h_textR.c.args=bt1:=by kernel_rfl
theorem r_pane:FC.run (env.hooks HookL3) 1000000 h_pane.f h_pane.c h_pane.c.args=c36:=by kernel_rfl
theorem r_rightR0:FC.run (env.hooks HookL3) 1000000 h_rightR.f h_rightR.c a_rightR0=aD8:=by kernel_rfl
theorem r_rightR1:FC.run (env.hooks HookL3) 1000000 h_rightR.f h_rightR.c a_rightR1=aD9:=by kernel_rfl
theorem r_rightR2:FC.run (env.hooks HookL3) 1000000 h_rightR.f h_rightR.c a_rightR2=aE0:=by kernel_rfl
theorem r_rightR3:FC.run (env.hooks HookL3) 1000000 h_rightR.f h_rightR.c a_rightR3=aE1:=by kernel_rfl
theorem r_rightR4:FC.run (env.hooks HookL3) 1000000 h_rightR.f h_rightR.c a_rightR4=aE2:=by kernel_rfl
theorem r_rightR5:FC.run (env.hooks HookL3) 1000000 h_rightR.f h_rightR.c a_rightR5=aE3:=by kernel_rfl
theorem r_rightR6:FC.run (env.hooks HookL3) 1000000 h_rightR.f h_rightR.c a_rightR6=aE4:=by kernel_rfl
theorem r_rightR7:FC.run (env.hooks HookL3) 1000000 h_rightR.f h_rightR.c a_rightR7=am5:=by kernel_rfl
theorem r_right0:FC.run (env.hooks HookL3) 1000000 h_right.f h_right.c a_right0=aV1:=by kernel_rfl
theorem r_right1:FC.run (env.hooks HookL3) 1000000 h_right.f h_right.c a_right1=ar3:=by kernel_rfl
theorem r_right2:FC.run (env.hooks HookL3) 1000000 h_right.f h_right.c a_right2=ar4:=by kernel_rfl
theorem r_right3:FC.run (env.hooks HookL3) 1000000 h_right.f h_right.c a_right3=ar5:=by kernel_rfl
theorem r_right4:FC.run (env.hooks HookL3) 1000000 h_right.f h_right.c a_right4=ar6:=by kernel_rfl
theorem r_right5:FC.run (env.hooks HookL3) 1000000 h_right.f h_right.c a_right5=ar7:=by kernel_rfl
theorem r_right6:FC.run (env.hooks HookL3) 1000000 h_right.f h_right.c a_right6=ar8:=by kernel_rfl
theorem r_right7:FC.run (env.hooks HookL3) 1000000 h_right.f h_right.c a_right7=ae4:=by kernel_rfl
theorem r_paneP:FC.run (env.hooks HookL3) 1000000 h_paneP.f h_paneP.c h_paneP.c.args=bt2:=by kernel_rfl
theorem r_paneR:FC.run (env.hooks HookL3) 1000000 h_paneR.f h_paneR.c h_paneR.c.args=bt3:=by kernel_rfl
theorem r_rowR:FC.run (env.hooks HookL4) 1000000 h_rowR.f h_rowR.c h_rowR.c.args=c28:=by kernel_rfl
theorem r_put0:FC.run (env.hooks HookL4) 1000000 h_put.f h_put.c a_put0=cq6:=by kernel_rfl
theorem r_put1:FC.run (env.hooks HookL4) 1000000 h_put.f h_put.c a_put1=cr4:=by kernel_rfl
theorem r_put2:FC.run (env.hooks HookL4) 1000000 h_put.f h_put.c a_put2=cr9:=by kernel_rfl
theorem r_put3:FC.run (env.hooks HookL4) 1000000 h_put.f h_put.c a_put3=cs5:=by kernel_rfl
theorem r_put4:FC.run (env.hooks HookL4) 1000000 h_put.f h_put.c a_put4=ct3:=by kernel_rfl
theorem r_put5:FC.run (env.hooks HookL4) 1000000 h_put.f h_put.c a_put5=ct9:=by kernel_rfl
theorem r_put6:FC.run (env.hooks HookL4) 1000000 h_put.f h_put.c a_put6=cu1:=by kernel_rfl
theorem r_put7:FC.run (env.hooks HookL4) 1000000 h_put.f h_put.c a_put7=cu5:=by kernel_rfl
theorem r_putR0:FC.run (env.hooks HookL4) 1000000 h_putR.f h_putR.c a_putR0=bP9:=by kernel_rfl
theorem r_putR1:FC.run (env.hooks HookL4) 1000000 h_putR.f h_putR.c a_putR1=bQ7:=by kernel_rfl
theorem r_putR2:FC.run (env.hooks HookL4) 1000000 h_putR.f h_putR.c a_putR2=bR2:=by kernel_rfl
theorem r_putR3:FC.run (env.hooks HookL4) 1000000 h_putR.f h_putR.c a_putR3=bR7:=by kernel_rfl
theorem r_putR4:FC.run (env.hooks HookL4) 1000000 h_putR.f h_putR.c a_putR4=bS4:=by kernel_rfl
theorem r_putR5:FC.run (env.hooks HookL4) 1000000 h_putR.f h_putR.c a_putR5=bT0:=by kernel_rfl
theorem r_putR6:FC.run (env.hooks HookL4) 1000000 h_putR.f h_putR.c a_putR6=bT2:=by kernel_rfl
theorem r_putR7:FC.run (env.hooks HookL4) 1000000 h_putR.f h_putR.c a_putR7=bT6:=by kernel_rfl
theorem r_parse1:FC.run (env.hooks (KK 1++HookL5)) 1000000 h_parse.f h_parse.c h_parse.c.args=bt9:=by kernel_rfl
theorem r_parse2:FC.run (env.hooks (KK 2++HookL5)) 1000000 h_parse.f h_parse.c h_parse.c.args=bu6:=by kernel_rfl
theorem r_parse3:FC.run (env.hooks (KK 3++HookL5)) 1000000 h_parse.f h_parse.c h_parse.c.args=bv3:=by kernel_rfl
theorem r_parse4:FC.run (env.hooks (KK 4++HookL5)) 1000000 h_parse.f h_parse.c h_parse.c.args=bv9:=by kernel_rfl
theorem r_parse5:FC.run (env.hooks (KK 5++HookL5)) 1000000 h_parse.f h_parse.c h_parse.c.args=bw5:=by kernel_rfl
theorem r_parse6:FC.run (env.hooks (KK 6++HookL5)) 1000000 h_parse.f h_parse.c h_parse.c.args=bx2:=by kernel_rfl
theorem r_parse7:FC.run (env.hooks (KK 7++HookL5)) 1000000 h_parse.f h_parse.c h_parse.c.args=by0:=by kernel_rfl
theorem r_parseR0:FC.run (env.hooks (KK 0++HookL5)) 1000000 h_parseR.f h_parseR.c h_parseR.c.args=b96:=by kernel_rfl
theorem r_parseR1:FC.run (env.hooks (KK 1++HookL5)) 1000000 h_parseR.f h_parseR.c h_parseR.c.args=ba3:=by kernel_rfl
theorem r_parseR2:FC.run (env.hooks (KK 2++HookL5)) 1000000 h_parseR.f h_parseR.c h_parseR.c.args=bb0:=by kernel_rfl
theorem r_parseR3:FC.run (env.hooks (KK 3++HookL5)) 1000000 h_parseR.f h_parseR.c h_parseR.c.args=bb7:=by kernel_rfl
theorem r_parseR4:FC.run (env.hooks (KK 4++HookL5)) 1000000 h_parseR.f h_parseR.c h_parseR.c.args=bc4:=by kernel_rfl
theorem r_parseR5:FC.run (env.hooks (KK 5++HookL5)) 1000000 h_parseR.f h_parseR.c h_parseR.c.args=bd1:=by kernel_rfl
theorem r_parseR6:FC.run (env.hooks (KK 6++HookL5)) 1000000 h_parseR.f h_parseR.c h_parseR.c.args=be0:=by kernel_rfl
theorem r_parseR7:FC.run (env.hooks (KK 7++HookL5)) 1000000 h_parseR.f h_parseR.c h_parseR.c.args=be8:=by kernel_rfl
theorem r_replyPuts:FC.run (env.hooks HookL6) 1000000 h_replyPuts.f h_replyPuts.c h_replyPuts.c.args=ae6:=by kernel_rfl
theorem r_replyReads:FC.run (env.hooks HookL6) 1000000 h_replyReads.f h_replyReads.c h_replyReads.c.args=a92:=by kernel_rfl
theorem r_replyBack:FC.run (env.hooks HookL6) 1000000 h_replyBack.f h_replyBack.c h_replyBack.c.args=ae5:=by kernel_rfl
theorem r_example:FC.run (env.hooks HookL7) 1000000 h_example.f h_example.c h_example.c.args=T_example:=by kernel_rfl
theorem r_replyKnown:FC.run (env.hooks HookL8) 1000000 h_replyKnown.f h_replyKnown.c h_replyKnown.c.args=a93:=by kernel_rfl
def Om(ω:Opq):Prop:=OmF F Tryz.prog ω
theorem om_upd(ω:Opq)(v0:Nat)(l:List Val)(h:Om ω):Om (ω.upd v0 l):=h
theorem om_f{ω:Opq}(h:Om ω): ∀i a,ω.f i a=F i a:=fun i a=>by rw[h.1]
theorem e_ok(ω:Opq)(h:Om ω):env.Ok ω:=env_ok ω h.2
theorem e0_ok(ω:Opq)(h:Om ω):env0.Ok ω:=env0_ok ω h.2
theorem VRs_kind{β:Bij}{ω:Opq}{us:List Value}{k:IntKind}{n:Nat}{i:Int}{r:List AV}(h:(ω.w n).toI=i)(hv:VRs β ω [.agg (.oint k (.va n)::r)] us):VRs β ω [.agg (.int k i::r)] us:=by
 obtain⟨v,vr,e,⟨xs,e2,u,ur,e3,p1,p2⟩,q⟩:=hv
 refine⟨v,vr,e,⟨xs,e2,u,ur,e3,?_,p2⟩,q⟩
 show u= .int k i
 rw[←h];exact p1
theorem h0_ok: ∀x∈HookL0,S7 env Om x:=fun x hx=>by cases hx
theorem r_kindP(k:Int):FC.run env0 1000000 (h_kindP k).f (h_kindP k).c (h_kindP k).c.args=bs1:=by kernel_rfl
theorem r_kindR(k:Int):FC.run env0 1000000 (h_kindR k).f (h_kindR k).c (h_kindR k).c.args=bs2:=by kernel_rfl
theorem k_kindP(k:Int):S7 env Om (h_kindP k):=
 K6 (E:=env0) (cs:=[]) om_upd e0_ok orders (fun x hx=>by cases hx) (n:=1000000) (by kernel_rfl) (K8 (T:=bs1) (r_kindP k) fun ω hω hn=>by
   have hn:=hn
   simp only[h_kindP,dB,den,I9,K1,om_f hω,F39,F49,H8,G9,I2,I3,decide_eq_true_eq,d6,d14]at hn
   exact(d30 hn.1 (by omega) hn.2.2).trans (by simp only[h_kindP,I9,den,K1,om_f hω,G9,I2]))
theorem k_kindR(k:Int):S7 env Om (h_kindR k):=
 K6 (E:=env0) (cs:=[]) om_upd e0_ok orders (fun x hx=>by cases hx) (n:=1000000) (by kernel_rfl) (K8 (T:=bs2) (r_kindR k) fun ω hω hn=>by
   have hn:=hn
   simp only[h_kindR,dB,den,I9,K1,om_f hω,F39,F49,H8,G9,I2,I5,decide_eq_true_eq,d6,d14]at hn
   exact(d31 hn.1 hn.2.1.1 hn.2.1.2 hn.2.2).trans (by simp only[h_kindR,I9,den,K1,om_f hω,G9,I2]))
theorem kk_ok{H:List HC}(h: ∀x∈H,S7 env Om x)(k:Int): ∀x∈KK k++H,S7 env Om x:=aS0 h (M6 (M6 (fun x hx=>by cases hx) (k_kindR k)) (k_kindP k))
theorem k_works:S7 env Om h_works:=
 K6 (E:=env0) (cs:=[]) om_upd e0_ok orders (fun x hx=>by cases hx) (n:=1000000) (by kernel_rfl) (K8 (T:=cq5) r_works fun ω hω hn=>by
   exact rfl)
theorem l0_ok: ∀x∈LevL0,S7 env Om x:=by
 exact M6 (fun x hx=>(by cases hx)) k_works
theorem h1_ok: ∀x∈HookL1,S7 env Om x:=aS0 h0_ok l0_ok
theorem k_pkA:S7 env Om h_pkA:=
 K6 (E:=env) (cs:=HookL1) om_upd e_ok orders h1_ok (n:=1000000) (by kernel_rfl) (K8 (T:=cJ1) r_pkA fun ω hω hn=>by
   exact(dv4).trans (by simp only[h_pkA,I9,den,K1,om_f hω,G9,I2]))
theorem k_pkB:S7 env Om h_pkB:=
 K6 (E:=env) (cs:=HookL1) om_upd e_ok orders h1_ok (n:=1000000) (by kernel_rfl) (K8 (T:=cJ2) r_pkB fun ω hω hn=>by
   exact(dv5).trans (by simp only[h_pkB,I9,den,K1,om_f hω,G9,I2]))
theorem k_pkC:S7 env Om h_pkC:=
 K6 (E:=env) (cs:=HookL1) om_upd e_ok orders h1_ok (n:=1000000) (by kernel_rfl) (K8 (T:=cJ3) r_pkC fun ω hω hn=>by
   exact(dv6).trans (by simp only[h_pkC,I9,den,K1,om_f hω,G9,I2]))
theorem k_pkD:S7 env Om h_pkD:=
 K6 (E:=env) (cs:=HookL1) om_upd e_ok orders h1_ok (n:=1000000) (by kernel_rfl) (K8 (T:=cJ4) r_pkD fun ω hω hn=>by
   exact(dv7).trans (by simp only[h_pkD,I9,den,K1,om_f hω,G9,I2]))
theorem k_numB:S7 env Om h_numB:=
 K6 (E:=env) (cs:=HookL1) om_upd e_ok orders h1_ok (n:=1000000) (by kernel_rfl) (K8 (T:=c31) r_numB fun ω hω hn=>by
   have hn:=hn
   simp only[h_numB,dB,den,I9,K1,H8,G9,I2,P1,I3,I5,I7,decide_eq_true_eq,d6,d7]at hn
   exact(dj8 (by omega)).trans (by simp only[h_numB,I9,den,K1,om_f hω,G9,I2]))
theorem k_numC:S7 env Om h_numC:=
 K6 (E:=env) (cs:=HookL1) om_upd e_ok orders h1_ok (n:=1000000) (by kernel_rfl) (K8 (T:=c32) r_numC fun ω hω hn=>by
   have hn:=hn
   simp only[h_numC,dB,den,I9,K1,H8,G9,I2,P1,I3,I5,I7,decide_eq_true_eq,d6,d7]at hn
   exact(dj9 (by omega)).trans (by simp only[h_numC,I9,den,K1,om_f hω,G9,I2]))
theorem k_numD:S7 env Om h_numD:=
 K6 (E:=env) (cs:=HookL1) om_upd e_ok orders h1_ok (n:=1000000) (by kernel_rfl) (K8 (T:=c33) r_numD fun ω hω hn=>by
   have hn:=hn
   simp only[h_numD,dB,den,I9,K1,H8,G9,I2,P1,I3,I5,I7,decide_eq_true_eq,d6,d7]at hn
   exact(dk0 (by omega)).trans (by simp only[h_numD,I9,den,K1,om_f hω,G9,I2]))
theorem k_joinB:S7 env Om h_joinB:=
 K6 (E:=env) (cs:=HookL1) om_upd e_ok orders h1_ok (n:=1000000) (by kernel_rfl) (K8 (T:=by1) r_joinB fun ω hω hn=>by
   have hn:=hn
   simp only[h_joinB,dB,den,I9,K1,H8,G9,I2,P1,I3,I5,I7,decide_eq_true_eq,d6,d7]at hn
   exact(d45 (by omega)).trans (by simp only[h_joinB,I9,den,K1,om_f hω,G9,I2]))
theorem k_joinC:S7 env Om h_joinC:=
 K6 (E:=env) (cs:=HookL1) om_upd e_ok orders h1_ok (n:=1000000) (by kernel_rfl) (K8 (T:=by2) r_joinC fun ω hω hn=>by
   have hn:=hn
   simp only[h_joinC,dB,den,I9,K1,H8,G9,I2,P1,I3,I5,I7,decide_eq_true_eq,d6,d7]at hn
   exact(d46 (by omega)).trans (by simp only[h_joinC,I9,den,K1,om_f hω,G9,I2]))
theorem k_joinD:S7 env Om h_joinD:=
 K6 (E:=env) (cs:=HookL1) om_upd e_ok orders h1_ok (n:=1000000) (by kernel_rfl) (K8 (T:=by3) r_joinD fun ω hω hn=>by
   have hn:=hn
   simp only[h_joinD,dB,den,I9,K1,H8,G9,I2,P1,I3,I5,I7,decide_eq_true_eq,d6,d7]at hn
   exact(d47 (by omega)).trans (by simp only[h_joinD,I9,den,K1,om_f hω,G9,I2]))
theorem k_joinR:S7 env Om h_joinR:=
 K6 (E:=env) (cs:=HookL1) om_upd e_ok orders h1_ok (n:=1000000) (by kernel_rfl) (K8 (T:=by4) r_joinR fun ω hω hn=>by
   have hn:=hn
   simp only[h_joinR,dB,den,I9,K1,H8,G9,I2,P1,I3,I5,I7,decide_eq_true_eq,d6,d7]at hn
   exact(d48 (by omega)).trans (by simp only[h_joinR,I9,den,K1,om_f hω,G9,I2]))
theorem k_fewRows:S7 env Om h_fewRows:=
 K6 (E:=env) (cs:=HookL1) om_upd e_ok orders h1_ok (n:=1000000) (by kernel_rfl) (K8 (T:=aH4) r_fewRows fun ω hω hn=>by
   have hn:=hn
   simp only[h_fewRows,dB,den,I9,K1,H8,G9,I2,P1,I3,I5,I7,decide_eq_true_eq,d6,d7]at hn
   exact(cy2 (om_f hω) (by omega)).trans (by simp only[h_fewRows,I9,den,K1,om_f hω,G9,I2]))
theorem k_few:S7 env Om h_few:=
 K6 (E:=env) (cs:=HookL1) om_upd e_ok orders h1_ok (n:=1000000) (by kernel_rfl) (K8 (T:=cJ5) r_few fun ω hω hn=>by
   have hn:=hn
   simp only[h_few,dB,den,I9,K1,H8,G9,I2,P1,I3,I5,I7,decide_eq_true_eq,d6,d7]at hn
   exact(dv3 (om_f hω) (by omega)).trans (by simp only[h_few,I9,den,K1,om_f hω,G9,I2]))
theorem k_spoil:S7 env Om h_spoil:=
 K6 (E:=env) (cs:=HookL1) om_upd e_ok orders h1_ok (n:=1000000) (by kernel_rfl) (K8 (T:=by5) r_spoil fun ω hω hn=>by
   have hn:=hn
   simp only[h_spoil,dB,den,I9,K1,H8,G9,I2,P1,I3,I5,I7,decide_eq_true_eq,d6,d7]at hn
   have h1:=hn.1
   have h2:=hn.2
   exact d49 (om_f hω) h1 (by omega))
theorem k_rows:S7 env Om h_rows:=
 K6 (E:=env) (cs:=HookL1) om_upd e_ok orders h1_ok (n:=1000000) (by kernel_rfl) (K8 (T:=c26) r_rows fun ω hω hn=>by
   have hn:=hn
   simp only[h_rows,dB,den,I9,K1,H8,G9,I2,P1,I3,I5,I7,decide_eq_true_eq,d6,d7]at hn
   exact(dh7 (om_f hω) (by omega)).trans (by simp only[h_rows,I9,den,K1,om_f hω,G9,I2]))
theorem k_panes:S7 env Om h_panes:=
 K6 (E:=env) (cs:=HookL1) om_upd e_ok orders h1_ok (n:=1000000) (by kernel_rfl) (K8 (T:=bs3) r_panes fun ω hω hn=>by
   have hn:=hn
   simp only[h_panes,dB,den,I9,K1,H8,G9,I2,P1,I3,I5,I7,decide_eq_true_eq,d6,d7]at hn
   exact(d21 (om_f hω) (by omega)).trans (by simp only[h_panes,I9,den,K1,om_f hω,G9,I2]))
theorem k_equalRows:S7 env Om h_equalRows:=
 K6 (E:=env) (cs:=HookL1) om_upd e_ok orders h1_ok (n:=1000000) (by kernel_rfl) (K8 (T:=ae1) r_equalRows fun ω hω hn=>by
   have hn:=hn
   simp only[h_equalRows,dB,den,I9,K1,H8,G9,I2,P1,I3,I5,I7,decide_eq_true_eq,d6,d7]at hn
   exact(bT9 (om_f hω) (by omega)).trans (by simp only[h_equalRows,I9,den,K1,om_f hω,G9,I2]))
theorem k_equalPanes:S7 env Om h_equalPanes:=
 K6 (E:=env) (cs:=HookL1) om_upd e_ok orders h1_ok (n:=1000000) (by kernel_rfl) (K8 (T:=a90) r_equalPanes fun ω hω hn=>by
   have hn:=hn
   simp only[h_equalPanes,dB,den,I9,K1,H8,G9,I2,P1,I3,I5,I7,decide_eq_true_eq,d6,d7]at hn
   exact(bH4 (om_f hω) (by omega)).trans (by simp only[h_equalPanes,I9,den,K1,om_f hω,G9,I2]))
theorem k_sameV:S7 env Om h_sameV:=
 K6 (E:=env) (cs:=HookL1) om_upd e_ok orders h1_ok (n:=1000000) (by kernel_rfl) (K8 (T:=bs4) r_sameV fun ω hω hn=>by
   have hn:=hn
   simp only[h_sameV,dB,den,I9,K1,H8,G9,I2,P1,I3,I5,I7,decide_eq_true_eq,d6,d7]at hn
   exact(d16 (om_f hω) (by omega)).trans (by simp only[h_sameV,I9,den,K1,om_f hω,G9,I2]))
theorem k_sameBytes:S7 env Om h_sameBytes:=
 K6 (E:=env) (cs:=HookL1) om_upd e_ok orders h1_ok (n:=1000000) (by kernel_rfl) (K8 (T:=ae2) r_sameBytes fun ω hω hn=>by
   have hn:=hn
   simp only[h_sameBytes,dB,den,I9,K1,H8,G9,I2,P1,I3,I5,I7,decide_eq_true_eq,d6,d7]at hn
   exact(bU0 (om_f hω) (by omega)).trans (by simp only[h_sameBytes,I9,den,K1,om_f hω,G9,I2]))
theorem k_spoilRows:S7 env Om h_spoilRows:=
 K6 (E:=env) (cs:=HookL1) om_upd e_ok orders h1_ok (n:=1000000) (by kernel_rfl) (K8 (T:=ae3) r_spoilRows fun ω hω hn=>by
   have hn:=hn
   simp only[h_spoilRows,dB,den,I9,K1,H8,G9,I2,P1,I3,I5,I7,decide_eq_true_eq,d6,d7]at hn
   have h1:=hn.1
   have h2:=hn.2
   exact bU3 (om_f hω) h1 (by omega))
theorem k_spoilPanes:S7 env Om h_spoilPanes:=
 K6 (E:=env) (cs:=HookL1) om_upd e_ok orders h1_ok (n:=1000000) (by kernel_rfl) (K8 (T:=a91) r_spoilPanes fun ω hω hn=>by
   have hn:=hn
   simp only[h_spoilPanes,dB,den,I9,K1,H8,G9,I2,P1,I3,I5,I7,decide_eq_true_eq,d6,d7]at hn
   have h1:=hn.1
   have h2:=hn.2
   exact bH8 (om_f hω) h1 (by omega))
theorem k_badRows:S7 env Om h_badRows:=
 K6 (E:=env) (cs:=HookL1) om_upd e_ok orders h1_ok (n:=1000000) (by kernel_rfl) (K8 (T:=aD7) r_badRows fun ω hω hn=>by
   have hn:=hn
   simp only[h_badRows,dB,den,I9,K1,H8,G9,I2,P1,I3,I5,I7,decide_eq_true_eq,d6,d7]at hn
   exact(cu9 (om_f hω) (by omega)).trans (by simp only[h_badRows,I9,den,K1,om_f hω,G9,I2]))
theorem k_badPanes:S7 env Om h_badPanes:=
 K6 (E:=env) (cs:=HookL1) om_upd e_ok orders h1_ok (n:=1000000) (by kernel_rfl) (K8 (T:=ar2) r_badPanes fun ω hω hn=>by
   have hn:=hn
   simp only[h_badPanes,dB,den,I9,K1,H8,G9,I2,P1,I3,I5,I7,decide_eq_true_eq,d6,d7]at hn
   exact(ca1 (om_f hω) (by omega)).trans (by simp only[h_badPanes,I9,den,K1,om_f hω,G9,I2]))
theorem k_u8:S7 env Om h_u8:=
 K6 (E:=env) (cs:=HookL1) om_upd e_ok orders h1_ok (n:=1000000) (by kernel_rfl) (K8 (T:=do4) r_u8 fun ω hω hn=>by
   have hn:=hn
   simp only[h_u8,dB,den,I9,om_f hω,F46,H8]at hn
   exact(dA1 (om_f hω) hn).trans (by simp only[h_u8,I9,den,K1,om_f hω,G9,I2]))
theorem k_u16:S7 env Om h_u16:=
 K6 (E:=env) (cs:=HookL1) om_upd e_ok orders h1_ok (n:=1000000) (by kernel_rfl) (K8 (T:=cI6) r_u16 fun ω hω hn=>by
   have hn:=hn
   simp only[h_u16,dB,den,I9,om_f hω,F46,H8]at hn
   exact(dt7 (om_f hω) hn).trans (by simp only[h_u16,I9,den,K1,om_f hω,G9,I2]))
theorem k_u32:S7 env Om h_u32:=
 K6 (E:=env) (cs:=HookL1) om_upd e_ok orders h1_ok (n:=1000000) (by kernel_rfl) (K8 (T:=cI7) r_u32 fun ω hω hn=>by
   have hn:=hn
   simp only[h_u32,dB,den,I9,om_f hω,F46,H8]at hn
   exact(dt8 (om_f hω) hn).trans (by simp only[h_u32,I9,den,K1,om_f hω,G9,I2]))
theorem k_u64:S7 env Om h_u64:=
 K6 (E:=env) (cs:=HookL1) om_upd e_ok orders h1_ok (n:=1000000) (by kernel_rfl) (K8 (T:=cI8) r_u64 fun ω hω hn=>by
   have hn:=hn
   simp only[h_u64,dB,den,I9,om_f hω,F46,H8]at hn
   exact(dt9 (om_f hω) hn).trans (by simp only[h_u64,I9,den,K1,om_f hω,G9,I2]))
theorem k_takeA:S7 env Om h_takeA:=
 K6 (E:=env) (cs:=HookL1) om_upd e_ok orders h1_ok (n:=1000000) (by kernel_rfl) (K8 (T:=bs5) r_takeA fun ω hω hn=>by
   have hn:=hn
   simp only[h_takeA,dB,den,I9,om_f hω,F47,H8]at hn
   exact(d26 (om_f hω) hn).trans (by simp only[h_takeA,I9,den,K1,om_f hω,G9,I2]))
theorem k_takeB:S7 env Om h_takeB:=
 K6 (E:=env) (cs:=HookL1) om_upd e_ok orders h1_ok (n:=1000000) (by kernel_rfl) (K8 (T:=bs6) r_takeB fun ω hω hn=>by
   have hn:=hn
   simp only[h_takeB,dB,den,I9,om_f hω,F47,H8]at hn
   exact(d27 (om_f hω) hn).trans (by simp only[h_takeB,I9,den,K1,om_f hω,G9,I2]))
theorem k_takeC:S7 env Om h_takeC:=
 K6 (E:=env) (cs:=HookL1) om_upd e_ok orders h1_ok (n:=1000000) (by kernel_rfl) (K8 (T:=bs7) r_takeC fun ω hω hn=>by
   have hn:=hn
   simp only[h_takeC,dB,den,I9,om_f hω,F47,H8]at hn
   exact(d28 (om_f hω) hn).trans (by simp only[h_takeC,I9,den,K1,om_f hω,G9,I2]))
theorem k_takeD:S7 env Om h_takeD:=
 K6 (E:=env) (cs:=HookL1) om_upd e_ok orders h1_ok (n:=1000000) (by kernel_rfl) (K8 (T:=bs8) r_takeD fun ω hω hn=>by
   have hn:=hn
   simp only[h_takeD,dB,den,I9,om_f hω,F47,H8]at hn
   exact(d29 (om_f hω) hn).trans (by simp only[h_takeD,I9,den,K1,om_f hω,G9,I2]))
theorem l1_ok: ∀x∈LevL1,S7 env Om x:=by
 exact M6 (M6 (M6 (M6 (M6 (M6 (M6 (M6 (M6 (M6 (M6 (M6 (M6 (M6 (M6 (M6 (M6 (M6 (M6 (M6 (M6 (M6 (M6 (M6 (M6 (M6 (M6 (M6 (M6 (M6 (M6 (M6 (fun x hx=>(by cases hx)) k_takeD) k_takeC) k_takeB) k_takeA) k_u64) k_u32) k_u16) k_u8) k_badPanes) k_badRows) k_spoilPanes) k_spoilRows) k_sameBytes) k_sameV) k_equalPanes) k_equalRows) k_panes) k_rows) k_spoil) k_few) k_fewRows) k_joinR) k_joinD) k_joinC) k_joinB) k_numD) k_numC) k_numB) k_pkD) k_pkC) k_pkB) k_pkA
theorem h2_ok: ∀x∈HookL2,S7 env Om x:=aS0 h1_ok l1_ok
theorem k_putInt:S7 env Om h_putInt:=
 K6 (E:=env) (cs:=HookL2) om_upd e_ok orders h2_ok (n:=1000000) (by kernel_rfl) (K8 (T:=aX9) r_putInt fun ω hω hn=>by
   exact(cM4 (om_f hω)).trans (by simp only[h_putInt,I9,den,K1,om_f hω,G9,I2]))
theorem k_intR:S7 env Om h_intR:=
 K6 (E:=env) (cs:=HookL2) om_upd e_ok orders h2_ok (n:=1000000) (by kernel_rfl) (K8 (T:=c34) r_intR fun ω hω hn=>by
   exact(dk1 (om_f hω)).trans (by simp only[h_intR,I9,den,K1,om_f hω,G9,I2]))
theorem k_putText:S7 env Om h_putText:=
 K6 (E:=env) (cs:=HookL2) om_upd e_ok orders h2_ok (n:=1000000) (by kernel_rfl) (K8 (T:=aH5) r_putText fun ω hω hn=>by
   have hn:=hn
   simp only[h_putText,dB,den,I9,K1,H8,G9,I2,P1,I3,I5,I7,decide_eq_true_eq,d6,d7]at hn
   exact(cy3 (om_f hω) (by omega)).trans (by simp only[h_putText,I9,den,K1,om_f hω,G9,I2]))
theorem k_text:S7 env Om h_text:=
 K6 (E:=env) (cs:=HookL2) om_upd e_ok orders h2_ok (n:=1000000) (by kernel_rfl) (K8 (T:=c35) r_text fun ω hω hn=>by
   have hn:=hn
   simp only[h_text,dB,den,I9,K1,H8,G9,I2,P1,I3,I5,I7,decide_eq_true_eq,d6,d7]at hn
   exact(dk2 (om_f hω) (by omega)).trans (by simp only[h_text,I9,den,K1,om_f hω,G9,I2]))
theorem k_fewRep:S7 env Om h_fewRep:=
 K6 (E:=env) (cs:=HookL2) om_upd e_ok orders h2_ok (n:=1000000) (by kernel_rfl) (K8 (T:=av1) r_fewRep fun ω hω hn=>by
   exact(cM5 (om_f hω)).trans (by simp only[h_fewRep,I9,den,K1,om_f hω,G9,I2]))
theorem k_same:S7 env Om h_same:=
 K6 (E:=env) (cs:=HookL2) om_upd e_ok orders h2_ok (n:=1000000) (by kernel_rfl) (K8 (T:=c27) r_same fun ω hω hn=>by
   have hn:=hn
   simp only[h_same,dB,den,I9,K1,H8,G9,I2,P1,I3,I5,I7,decide_eq_true_eq,d6,d7]at hn
   have h1:=hn.1
   have h2:=hn.2
   exact(dh6 (om_f hω) (by omega) (by omega)).trans (by simp only[h_same,I9,den,K1,om_f hω,G9,I2]))
theorem k_rep:S7 env Om h_rep:=
 K6 (E:=env) (cs:=HookL2) om_upd e_ok orders h2_ok (n:=1000000) (by kernel_rfl) (K8 (T:=cI9) r_rep fun ω hω hn=>by
   have hn:=hn
   simp only[h_rep,dB,den,I9,K1,H8,G9,I2,P1,I3,I5,I7,decide_eq_true_eq,d6,d7]at hn
   have h1:=hn.1
   have h2:=hn.2
   exact(dt5 (om_f hω) (by omega) (by omega)).trans (by simp only[h_rep,I9,den,K1,om_f hω,G9,I2]))
theorem k_sameR:S7 env Om h_sameR:=
 K6 (E:=env) (cs:=HookL2) om_upd e_ok orders h2_ok (n:=1000000) (by kernel_rfl) (K8 (T:=bs9) r_sameR fun ω hω hn=>by
   have hn:=hn
   simp only[h_sameR,dB,den,I9,K1,H8,G9,I2,P1,I3,I5,I7,decide_eq_true_eq,d6,d7]at hn
   have h1:=hn.1
   have h2:=hn.2
   exact(d22 (om_f hω) (by omega) (by omega)).trans (by simp only[h_sameR,I9,den,K1,om_f hω,G9,I2]))
theorem k_textP:S7 env Om h_textP:=
 K6 (E:=env) (cs:=HookL2) om_upd e_ok orders h2_ok (n:=1000000) (by kernel_rfl) (K8 (T:=bt0) r_textP fun ω hω hn=>by
   have hn:=hn
   simp only[h_textP,dB,den,I9,om_f hω,F46,H8]at hn
   exact(d32 (om_f hω) hn).trans (by simp only[h_textP,I9,den,K1,om_f hω,G9,I2]))
theorem k_textR:S7 env Om h_textR:=
 K6 (E:=env) (cs:=HookL2) om_upd e_ok orders h2_ok (n:=1000000) (by kernel_rfl) (K8 (T:=bt1) r_textR fun ω hω hn=>by
   have hn:=hn
   simp only[h_textR,dB,den,I9,om_f hω,F47,H8]at hn
   exact(d33 (om_f hω) hn).trans (by simp only[h_textR,I9,den,K1,om_f hω,G9,I2]))
theorem l2_ok: ∀x∈LevL2,S7 env Om x:=by
 exact M6 (M6 (M6 (M6 (M6 (M6 (M6 (M6 (M6 (M6 (fun x hx=>(by cases hx)) k_textR) k_textP) k_sameR) k_rep) k_same) k_fewRep) k_text) k_putText) k_intR) k_putInt
theorem h3_ok: ∀x∈HookL3,S7 env Om x:=aS0 h2_ok l2_ok
theorem k_pane:S7 env Om h_pane:=
 K6 (E:=env) (cs:=HookL3) om_upd e_ok orders h3_ok (n:=1000000) (by kernel_rfl) (K8 (T:=c36) r_pane fun ω hω hn=>by
   have hn:=hn
   simp only[h_pane,dB,den,I9,K1,H8,G9,I2,P1,I3,I5,I7,decide_eq_true_eq,d6,d7]at hn
   exact(dk3 (om_f hω) (by omega)).trans (by simp only[h_pane,I9,den,K1,om_f hω,G9,I2]))
theorem k_rightR:S7 env Om h_rightR:=
 K6 (E:=env) (cs:=HookL3) om_upd e_ok orders h3_ok (n:=1000000) (by kernel_rfl) (fun ω hω hn=>by
   have hf:=om_f hω
   have hn:=hn
   simp only[h_rightR,dB,den,I9,K1,H8,G9,I2,P1,I3,I5,I7,decide_eq_true_eq,d6,d7]at hn
   have q1:(ω.w 10).toL.length≤1000:=by omega
   have q2:(ω.w 11).toL.length≤1000:=by omega
   have fin: ∀T:VT,G6 T ω=some (0,[F 4 [ω.w 0,ω.w 1,ω.w 2,ω.w 3,ω.w 4,ω.w 5,ω.w 6,ω.w 7,ω.w 8,ω.w 9,ω.w 10,ω.w 11]])→G6 T ω=some (0,I9 ω h_rightR.c.outs):=fun T e=>e.trans (by simp only[h_rightR,I9,den,hf])
   by_cases hk:1≤(ω.w 0).toI∧(ω.w 0).toI≤7
   ·have:(ω.w 0).toI=1∨(ω.w 0).toI=2∨(ω.w 0).toI=3∨(ω.w 0).toI=4∨(ω.w 0).toI=5∨(ω.w 0).toI=6∨(ω.w 0).toI=7:=by omega
    rcases this with e|e|e|e|e|e|e
    ·exact⟨a_rightR1,fun β us h=>VRs_kind e h,by rw[r_rightR1];exact fin _ (cv2 hf e q1 q2)⟩
    ·exact⟨a_rightR2,fun β us h=>VRs_kind e h,by rw[r_rightR2];exact fin _ (cv3 hf e q1 q2)⟩
    ·exact⟨a_rightR3,fun β us h=>VRs_kind e h,by rw[r_rightR3];exact fin _ (cv4 hf e q1 q2)⟩
    ·exact⟨a_rightR4,fun β us h=>VRs_kind e h,by rw[r_rightR4];exact fin _ (cv5 hf e q1 q2)⟩
    ·exact⟨a_rightR5,fun β us h=>VRs_kind e h,by rw[r_rightR5];exact fin _ (cv6 hf e q1 q2)⟩
    ·exact⟨a_rightR6,fun β us h=>VRs_kind e h,by rw[r_rightR6];exact fin _ (cv7 hf e q1 q2)⟩
    ·exact⟨a_rightR7,fun β us h=>VRs_kind e h,by rw[r_rightR7];exact fin _ (cv8 hf e q1 q2)⟩
   ·exact⟨a_rightR0,fun β us h=>h,by rw[r_rightR0];exact fin _ (cv1 hf hk)⟩)
theorem k_right:S7 env Om h_right:=
 K6 (E:=env) (cs:=HookL3) om_upd e_ok orders h3_ok (n:=1000000) (by kernel_rfl) (fun ω hω hn=>by
   have hf:=om_f hω
   have hn:=hn
   simp only[h_right,dB,den,I9,K1,H8,G9,I2,P1,I3,I5,I7,decide_eq_true_eq,d6,d7]at hn
   have q1:(ω.w 10).toL.length≤1000:=by omega
   have q2:(ω.w 11).toL.length≤1000:=by omega
   have fin: ∀T:VT,G6 T ω=some (0,[F 4 [ω.w 0,ω.w 1,ω.w 2,ω.w 3,ω.w 4,ω.w 5,ω.w 6,ω.w 7,ω.w 8,ω.w 9,ω.w 10,ω.w 11]])→G6 T ω=some (0,I9 ω h_right.c.outs):=fun T e=>e.trans (by simp only[h_right,I9,den,hf])
   by_cases hk:1≤(ω.w 0).toI∧(ω.w 0).toI≤7
   ·have:(ω.w 0).toI=1∨(ω.w 0).toI=2∨(ω.w 0).toI=3∨(ω.w 0).toI=4∨(ω.w 0).toI=5∨(ω.w 0).toI=6∨(ω.w 0).toI=7:=by omega
    rcases this with e|e|e|e|e|e|e
    ·exact⟨a_right1,fun β us h=>VRs_kind e h,by rw[r_right1];exact fin _ (cJ9 hf e q1 q2)⟩
    ·exact⟨a_right2,fun β us h=>VRs_kind e h,by rw[r_right2];exact fin _ (cK0 hf e q1 q2)⟩
    ·exact⟨a_right3,fun β us h=>VRs_kind e h,by rw[r_right3];exact fin _ (cK1 hf e q1 q2)⟩
    ·exact⟨a_right4,fun β us h=>VRs_kind e h,by rw[r_right4];exact fin _ (cK2 hf e q1 q2)⟩
    ·exact⟨a_right5,fun β us h=>VRs_kind e h,by rw[r_right5];exact fin _ (cK3 hf e q1 q2)⟩
    ·exact⟨a_right6,fun β us h=>VRs_kind e h,by rw[r_right6];exact fin _ (cK4 hf e q1 q2)⟩
    ·exact⟨a_right7,fun β us h=>VRs_kind e h,by rw[r_right7];exact fin _ (cK5 hf e q1 q2)⟩
   ·exact⟨a_right0,fun β us h=>h,by rw[r_right0];exact fin _ (cK6 hf hk)⟩)
theorem k_paneP:S7 env Om h_paneP:=
 K6 (E:=env) (cs:=HookL3) om_upd e_ok orders h3_ok (n:=1000000) (by kernel_rfl) (K8 (T:=bt2) r_paneP fun ω hω hn=>by
   have hn:=hn
   simp only[h_paneP,dB,den,I9,om_f hω,F46,H8]at hn
   exact(d34 (om_f hω) hn).trans (by simp only[h_paneP,I9,den,K1,om_f hω,G9,I2]))
theorem k_paneR:S7 env Om h_paneR:=
 K6 (E:=env) (cs:=HookL3) om_upd e_ok orders h3_ok (n:=1000000) (by kernel_rfl) (K8 (T:=bt3) r_paneR fun ω hω hn=>by
   have hn:=hn
   simp only[h_paneR,dB,den,I9,om_f hω,F47,H8]at hn
   exact(d35 (om_f hω) hn).trans (by simp only[h_paneR,I9,den,K1,om_f hω,G9,I2]))
theorem l3_ok: ∀x∈LevL3,S7 env Om x:=by
 exact M6 (M6 (M6 (M6 (M6 (fun x hx=>(by cases hx)) k_paneR) k_paneP) k_right) k_rightR) k_pane
theorem h4_ok: ∀x∈HookL4,S7 env Om x:=aS0 h3_ok l3_ok
theorem k_rowR:S7 env Om h_rowR:=
 K6 (E:=env) (cs:=HookL4) om_upd e_ok orders h4_ok (n:=1000000) (by kernel_rfl) (K8 (T:=c28) r_rowR fun ω hω hn=>by
   have hn:=hn
   simp only[h_rowR,dB,den,I9,om_f hω,F47,H8]at hn
   exact(dh8 (om_f hω) hn).trans (by simp only[h_rowR,I9,den,K1,om_f hω,G9,I2]))
theorem k_put:S7 env Om h_put:=
 K6 (E:=env) (cs:=HookL4) om_upd e_ok orders h4_ok (n:=1000000) (by kernel_rfl) (fun ω hω hn=>by
   have hf:=om_f hω
   have hn:=hn
   simp only[h_put,dB,den,I9,K1,H8,G9,I2,P1,I3,I5,I7,decide_eq_true_eq,d6,d7]at hn
   have hw:ad0 [ω.w 0,ω.w 1,ω.w 2,ω.w 3,ω.w 4,ω.w 5,ω.w 6,ω.w 7,ω.w 8,ω.w 9,ω.w 10,ω.w 11]=true:=by
    rw[hf]at hn
    exact hn
   have fin: ∀T:VT,G6 T ω=some (0,[F 6 [ω.w 0,ω.w 1,ω.w 2,ω.w 3,ω.w 4,ω.w 5,ω.w 6,ω.w 7,ω.w 8,ω.w 9,ω.w 10,ω.w 11],F 5 [ω.w 0,ω.w 1,ω.w 2,ω.w 3,ω.w 4,ω.w 5,ω.w 6,ω.w 7,ω.w 8,ω.w 9,ω.w 10,ω.w 11]])→G6 T ω=some (0,I9 ω h_put.c.outs):=fun T e=>e.trans (by simp only[h_put,I9,den,hf])
   by_cases hk:1≤(ω.w 0).toI∧(ω.w 0).toI≤7
   ·have:(ω.w 0).toI=1∨(ω.w 0).toI=2∨(ω.w 0).toI=3∨(ω.w 0).toI=4∨(ω.w 0).toI=5∨(ω.w 0).toI=6∨(ω.w 0).toI=7:=by omega
    rcases this with e|e|e|e|e|e|e
    ·exact⟨a_put1,fun β us h=>VRs_kind e h,by rw[r_put1];exact fin _ (dk9 hf e hw)⟩
    ·exact⟨a_put2,fun β us h=>VRs_kind e h,by rw[r_put2];exact fin _ (dk4 hf e hw)⟩
    ·exact⟨a_put3,fun β us h=>VRs_kind e h,by rw[r_put3];exact fin _ (dk5 hf e hw)⟩
    ·exact⟨a_put4,fun β us h=>VRs_kind e h,by rw[r_put4];exact fin _ (dl0 hf e hw)⟩
    ·exact⟨a_put5,fun β us h=>VRs_kind e h,by rw[r_put5];exact fin _ (dk6 hf e hw)⟩
    ·exact⟨a_put6,fun β us h=>VRs_kind e h,by rw[r_put6];exact fin _ (dk7 hf e hw)⟩
    ·exact⟨a_put7,fun β us h=>VRs_kind e h,by rw[r_put7];exact fin _ (dk8 hf e hw)⟩
   ·exact⟨a_put0,fun β us h=>h,by rw[r_put0];exact fin _ (dl1 hf hk hw)⟩)
theorem k_putR:S7 env Om h_putR:=
 K6 (E:=env) (cs:=HookL4) om_upd e_ok orders h4_ok (n:=1000000) (by kernel_rfl) (fun ω hω hn=>by
   have hf:=om_f hω
   have hn:=hn
   simp only[h_putR,dB,den,I9,K1,H8,G9,I2,P1,I3,I5,I7,decide_eq_true_eq,d6,d7]at hn
   obtain⟨⟨⟨⟨⟨⟨hn,p4⟩,p5⟩,p6⟩,p7⟩,p8⟩,p9⟩:=hn
   have hp:0≤(ω.w 4).toI∧0≤(ω.w 5).toI∧0≤(ω.w 6).toI∧0≤(ω.w 7).toI∧0≤(ω.w 8).toI∧0≤(ω.w 9).toI:=⟨p4,p5,p6,p7,p8,p9⟩
   have hw:ad0 [ω.w 0,ω.w 1,ω.w 2,ω.w 3,ω.w 4,ω.w 5,ω.w 6,ω.w 7,ω.w 8,ω.w 9,ω.w 10,ω.w 11]=true:=by
    rw[hf]at hn
    exact hn
   have fin: ∀T:VT,G6 T ω=some (0,[F 6 [ω.w 0,ω.w 1,ω.w 2,ω.w 3,ω.w 4,ω.w 5,ω.w 6,ω.w 7,ω.w 8,ω.w 9,ω.w 10,ω.w 11],F 5 [ω.w 0,ω.w 1,ω.w 2,ω.w 3,ω.w 4,ω.w 5,ω.w 6,ω.w 7,ω.w 8,ω.w 9,ω.w 10,ω.w 11]])→G6 T ω=some (0,I9 ω h_putR.c.outs):=fun T e=>e.trans (by simp only[h_putR,I9,den,hf])
   by_cases hk:1≤(ω.w 0).toI∧(ω.w 0).toI≤7
   ·have:(ω.w 0).toI=1∨(ω.w 0).toI=2∨(ω.w 0).toI=3∨(ω.w 0).toI=4∨(ω.w 0).toI=5∨(ω.w 0).toI=6∨(ω.w 0).toI=7:=by omega
    rcases this with e|e|e|e|e|e|e
    ·exact⟨a_putR1,fun β us h=>VRs_kind e h,by rw[r_putR1];exact fin _ (d58 hf e hw hp)⟩
    ·exact⟨a_putR2,fun β us h=>VRs_kind e h,by rw[r_putR2];exact fin _ (d53 hf e hw hp)⟩
    ·exact⟨a_putR3,fun β us h=>VRs_kind e h,by rw[r_putR3];exact fin _ (d54 hf e hw hp)⟩
    ·exact⟨a_putR4,fun β us h=>VRs_kind e h,by rw[r_putR4];exact fin _ (d59 hf e hw hp)⟩
    ·exact⟨a_putR5,fun β us h=>VRs_kind e h,by rw[r_putR5];exact fin _ (d55 hf e hw hp)⟩
    ·exact⟨a_putR6,fun β us h=>VRs_kind e h,by rw[r_putR6];exact fin _ (d56 hf e hw hp)⟩
    ·exact⟨a_putR7,fun β us h=>VRs_kind e h,by rw[r_putR7];exact fin _ (d57 hf e hw hp)⟩
   ·exact⟨a_putR0,fun β us h=>h,by rw[r_putR0];exact fin _ (d60 hf hk hw)⟩)
theorem l4_ok: ∀x∈LevL4,S7 env Om x:=by
 exact M6 (M6 (M6 (fun x hx=>(by cases hx)) k_putR) k_put) k_rowR
theorem h5_ok: ∀x∈HookL5,S7 env Om x:=aS0 h4_ok l4_ok
theorem k_parse:S7 env Om h_parse:=
 c20 (E:=env) om_upd (n:=1000000) (by kernel_rfl) (fun ω hω hn=>by
   have hf:=om_f hω
   have hn:=hn
   simp only[h_parse,dB,den,I9,K1,a21,H8,G9,I2,I3,decide_eq_true_eq,d6]at hn
   have hl:okL (ω.w 0).toL=true:=by
    unfold okL;rw[show ak8 (ω.w 0).toL=true from hn.2,decide_eq_true (by omega)];rfl
   have fin: ∀T:VT,G6 T ω=some (0,J5 (ω.w 0).toL)→G6 T ω=some (0,I9 ω h_parse.c.outs):=fun T e=>e.trans (by
    simp only[h_parse,I9,den,hf]
    exact congrArg (fun y=>some (0,y)) (bI2 _))
   by_cases h2:bI (ω.w 0).toL 0=2
   ·exact⟨env.hooks (KK 2++HookL5),rfl,P7 om_upd e_ok orders (kk_ok h5_ok 2) _ hω,h_parse.c.args,fun _ _ h=>h,by rw[r_parse2];exact fin _ (cL3 hf hl (by omega))⟩
   by_cases h3:bI (ω.w 0).toL 0=3
   ·exact⟨env.hooks (KK 3++HookL5),rfl,P7 om_upd e_ok orders (kk_ok h5_ok 3) _ hω,h_parse.c.args,fun _ _ h=>h,by rw[r_parse3];exact fin _ (cL4 hf hl (by omega))⟩
   by_cases h4:bI (ω.w 0).toL 0=4
   ·exact⟨env.hooks (KK 4++HookL5),rfl,P7 om_upd e_ok orders (kk_ok h5_ok 4) _ hω,h_parse.c.args,fun _ _ h=>h,by rw[r_parse4];exact fin _ (cL5 hf hl (by omega))⟩
   by_cases h5:bI (ω.w 0).toL 0=5
   ·exact⟨env.hooks (KK 5++HookL5),rfl,P7 om_upd e_ok orders (kk_ok h5_ok 5) _ hω,h_parse.c.args,fun _ _ h=>h,by rw[r_parse5];exact fin _ (cL6 hf hl (by omega))⟩
   by_cases h6:bI (ω.w 0).toL 0=6
   ·exact⟨env.hooks (KK 6++HookL5),rfl,P7 om_upd e_ok orders (kk_ok h5_ok 6) _ hω,h_parse.c.args,fun _ _ h=>h,by rw[r_parse6];exact fin _ (cL7 hf hl (by omega))⟩
   by_cases h7:bI (ω.w 0).toL 0=7
   ·exact⟨env.hooks (KK 7++HookL5),rfl,P7 om_upd e_ok orders (kk_ok h5_ok 7) _ hω,h_parse.c.args,fun _ _ h=>h,by rw[r_parse7];exact fin _ (cL8 hf hl (by omega))⟩
   exact⟨env.hooks (KK 1++HookL5),rfl,P7 om_upd e_ok orders (kk_ok h5_ok 1) _ hω,h_parse.c.args,fun _ _ h=>h,by rw[r_parse1];exact fin _ (cL2 hf hl (by omega))⟩)
theorem k_parseR:S7 env Om h_parseR:=
 c20 (E:=env) om_upd (n:=1000000) (by kernel_rfl) (fun ω hω hn=>by
   have hf:=om_f hω
   have hn:=hn
   simp only[h_parseR,dB,den,I9,K1,a21,H8,G9,I2,I3,decide_eq_true_eq,d6]at hn
   have hl:okL (ω.w 0).toL=true:=by
    unfold okL;rw[show ak8 (ω.w 0).toL=true from hn.2,decide_eq_true (by omega)];rfl
   have fin: ∀T:VT,G6 T ω=some (0,J5 (ω.w 0).toL)→G6 T ω=some (0,I9 ω h_parseR.c.outs):=fun T e=>e.trans (by
    simp only[h_parseR,I9,den,hf]
    exact congrArg (fun y=>some (0,y)) (bI2 _))
   by_cases h0:(ω.w 0).toL.length=0
   ·exact⟨env.hooks (KK 0++HookL5),rfl,P7 om_upd e_ok orders (kk_ok h5_ok 0) _ hω,h_parseR.c.args,fun _ _ h=>h,by rw[r_parseR0];exact fin _ (cw6 hf hl h0)⟩
   by_cases h2:bI (ω.w 0).toL 0=2
   ·exact⟨env.hooks (KK 2++HookL5),rfl,P7 om_upd e_ok orders (kk_ok h5_ok 2) _ hω,h_parseR.c.args,fun _ _ h=>h,by rw[r_parseR2];exact fin _ (cw8 hf hl h0 (by omega))⟩
   by_cases h3:bI (ω.w 0).toL 0=3
   ·exact⟨env.hooks (KK 3++HookL5),rfl,P7 om_upd e_ok orders (kk_ok h5_ok 3) _ hω,h_parseR.c.args,fun _ _ h=>h,by rw[r_parseR3];exact fin _ (cw9 hf hl h0 (by omega))⟩
   by_cases h4:bI (ω.w 0).toL 0=4
   ·exact⟨env.hooks (KK 4++HookL5),rfl,P7 om_upd e_ok orders (kk_ok h5_ok 4) _ hω,h_parseR.c.args,fun _ _ h=>h,by rw[r_parseR4];exact fin _ (cx0 hf hl h0 (by omega))⟩
   by_cases h5:bI (ω.w 0).toL 0=5
   ·exact⟨env.hooks (KK 5++HookL5),rfl,P7 om_upd e_ok orders (kk_ok h5_ok 5) _ hω,h_parseR.c.args,fun _ _ h=>h,by rw[r_parseR5];exact fin _ (cx1 hf hl h0 (by omega))⟩
   by_cases h6:bI (ω.w 0).toL 0=6
   ·exact⟨env.hooks (KK 6++HookL5),rfl,P7 om_upd e_ok orders (kk_ok h5_ok 6) _ hω,h_parseR.c.args,fun _ _ h=>h,by rw[r_parseR6];exact fin _ (cx2 hf hl h0 (by omega))⟩
   by_cases h7:bI (ω.w 0).toL 0=7
   ·exact⟨env.hooks (KK 7++HookL5),rfl,P7 om_upd e_ok orders (kk_ok h5_ok 7) _ hω,h_parseR.c.args,fun _ _ h=>h,by rw[r_parseR7];exact fin _ (cx3 hf hl h0 (by omega))⟩
   exact⟨env.hooks (KK 1++HookL5),rfl,P7 om_upd e_ok orders (kk_ok h5_ok 1) _ hω,h_parseR.c.args,fun _ _ h=>h,by rw[r_parseR1];exact fin _ (cw7 hf hl h0 (by omega))⟩)
theorem l5_ok: ∀x∈LevL5,S7 env Om x:=by
 exact M6 (M6 (fun x hx=>(by cases hx)) k_parseR) k_parse
theorem h6_ok: ∀x∈HookL6,S7 env Om x:=aS0 h5_ok l5_ok
theorem k_replyPuts:S7 env Om h_replyPuts:=
 K6 (E:=env) (cs:=HookL6) om_upd e_ok orders h6_ok (n:=1000000) (by kernel_rfl) (K8 (T:=ae6) r_replyPuts fun ω hω hn=>by
   have hn:=hn
   simp only[h_replyPuts,dB,den,I9,K1,H8,G9,I3,decide_eq_true_eq,d6]at hn
   obtain⟨⟨⟨⟨⟨p4,p5⟩,p6⟩,p7⟩,p8⟩,p9⟩:=hn
   exact(bV2 (om_f hω) ⟨p4,p5,p6,p7,p8,p9⟩).trans (by simp only[h_replyPuts,I9,den]))
theorem k_replyReads:S7 env Om h_replyReads:=
 K6 (E:=env) (cs:=HookL6) om_upd e_ok orders h6_ok (n:=1000000) (by kernel_rfl) (K8 (T:=a92) r_replyReads fun ω hω hn=>by
   have hn:=hn
   simp only[h_replyReads,dB,den,I9,a21,H8]at hn
   exact(bI3 (om_f hω) hn).trans (by simp only[h_replyReads,I9,den]))
theorem k_replyBack:S7 env Om h_replyBack:=
 K6 (E:=env) (cs:=HookL6) om_upd e_ok orders h6_ok (n:=1000000) (by kernel_rfl) (K8 (T:=ae5) r_replyBack fun ω hω hn=>by
   have F63s: ∀v:Val,F 63 [v]= .vb (v.toL.all d73):=fun _=>rfl
   have F64s: ∀v:Val,F 64 [v]= .vb (v.toL.all bT8):=fun _=>rfl
   have hn:=hn
   simp only[h_replyBack,dB,den,I9,K1,om_f hω,F63s,F64s,H8,G9,I3,I7,decide_eq_true_eq,d6]at hn
   obtain⟨⟨⟨⟨⟨⟨⟨⟨⟨⟨⟨hb,r0⟩,r1⟩,r2⟩,r4⟩,r5⟩,r6⟩,r7⟩,r8⟩,r9⟩,rr⟩,rg⟩:=hn
   exact(bV1 (om_f hω) hb ⟨r1,r2,r4,r5,r6,r7,r8,r9,rr,rg⟩).trans (by simp only[h_replyBack,I9,den]))
theorem l6_ok: ∀x∈LevL6,S7 env Om x:=by
 exact M6 (M6 (M6 (fun x hx=>(by cases hx)) k_replyBack) k_replyReads) k_replyPuts
theorem h7_ok: ∀x∈HookL7,S7 env Om x:=aS0 h6_ok l6_ok
theorem k_example:S7 env Om h_example:=
 K6 (E:=env) (cs:=HookL7) om_upd e_ok orders h7_ok (n:=1000000) (by kernel_rfl) (K8 (T:=T_example) r_example fun ω hω hn=>by
   exact(t_example (om_f hω)).trans (by simp only[h_example,I9,den,K1,om_f hω,G9,I2]))
theorem l7_ok: ∀x∈LevL7,S7 env Om x:=by
 exact M6 (fun x hx=>(by cases hx)) k_example
theorem h8_ok: ∀x∈HookL8,S7 env Om x:=aS0 h7_ok l7_ok
end Go.Proofs.YtagmhdcpfhpmfaaGreat.Ctr
