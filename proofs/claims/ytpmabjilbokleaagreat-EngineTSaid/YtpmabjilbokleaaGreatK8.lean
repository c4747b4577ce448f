import Derived.Test.YtpmabjilbokleaaGreatRows
import Derived.Test.YtpmabjilbokleaaGreatEP34
import Derived.Test.YtpmabjilbokleaaGreatE43
import Derived.ProofKit
set_option linter.unusedVariables false
set_option linter.unusedSimpArgs false
namespace Go.Proofs.YtpmabjilbokleaaGreat.Ctr
open Go Go.Ev Go.Shelf
def RY(t g:Nat)(a:Fr):Bool:=match a.slot t with
 | .func (.func f) _ _=>Nat.beq f g
 |_=>false
noncomputable def kw:Env:=⟨Tryz.prog,λf=>bif Nat.beq f 126 then some (.mapsClone)else bif Nat.beq f 170 then some (.overlaps 191 4)else none,λ_=>false,λ_=>false,λ_ _ _=> .bad,λ_ _=>none,λ_ _ _ _=>none⟩
noncomputable def Dw(f:FuncId)(r:Nat)(a:Fr)(h:Heap):Option LSpec:=bif Nat.beq f 185&&Nat.beq r 1 then some (bp ⟨452,2000,[11,12,13,14,15,16,17,18,19,20,21,22,23,24,25,26,27,28,29,30,31,32,33,34,35,36,37],[],[10],[0],[0,1,2,3],[(.exit 0,[])],[],[],false,[]⟩ a h)else bif Nat.beq f 173&&Nat.beq r 2 then some (bp ⟨458,2000,[18,19,20,21,22,23,24,25,26,27,28,29,30,31,32,33,34,35,36,37,38,39,40,41,42,43,44,45,46,47,48,49],[],[10,11],[0],[0,2,4],[(.exit 0,[])],[],[],false,[]⟩ a h)else bif Nat.beq f 154&&Nat.beq r 1 then some (bp ⟨460,2000,[9,12,13,14,15,16,17,18,19,20,21,22,23,24,25,26,27,28,29,30,31,32,33,34,35,36,37,38,39,40,41,42,43,44,45,46,47,48,49,50,51,52],[],[8],[0],[0,1,2,3],[(.exit 0,[])],[],[],false,[]⟩ a h)else bif Nat.beq f 154&&Nat.beq r 4 then some (bp ⟨461,3000,[18,19,20,21,22,23,24,25,26,27,28,29,30,31,32,33,34,35,36,37,38,39,40,41,42,43,44,45,46,47,48,49,50,51,52],[],[9],[0],[0,1,2,3,8],[(.exit 2,[])],[],[],false,[]⟩ a h)else bif Nat.beq f 155&&Nat.beq r 3 then some (bp ⟨462,2000,[12,31,32,33,34,35,36,37,38,39,40,41,42,43,44,45,46,47,48,49,50,51,52,53],[],[10,11],[],[0,1,4],[(.exit 0,[])],[],[],false,[]⟩ a h)else bif Nat.beq f 155&&Nat.beq r 9 then some (bp ⟨463,3000,[55,56,57,58,59,60,61,62,63,64,65,66,67,68,69,70,71,72,73,74,75,76],[],[13],[0],[0,10],[(.exit 2,[])],[],[],false,[]⟩ a h)else bif Nat.beq f 155&&Nat.beq r 15 then some (bp ⟨464,2000,[16,83,84,85,86,87,88,89,90,91,92,93,94,95,96,97,98,99,100,101,102,103,104,105,106],[],[14,15],[],[0,2,4],[(.exit 4,[])],[],[],false,[]⟩ a h)else bif Nat.beq f 155&&Nat.beq r 21 then some (bp ⟨465,3000,[108,109,110,111,112,113,114,115,116,117,118,119,120,121,122,123,124,125,126,127,128],[],[17],[0],[0,14],[(.exit 6,[])],[],[],false,[]⟩ a h)else bif Nat.beq f 155&&Nat.beq r 33 then some (bp ⟨466,2000,[23,149,150,151,152,153,154,155,156,157,158,159,160,161,162,163,164,165,166,167,168,169,170,171,172,173,174],[],[20,21],[],[0,1,2,3,4,18,19,22],[(.exit 8,[])],[],[],false,[]⟩ a h)else bif Nat.beq f 122&&Nat.beq r 2 then some (bp ⟨467,2000,[11,12,13,14,15,16,17,18,19,20,21,22],[],[7,8],[0],[0,1,2,6],[(.exit 0,[])],[],[],false,[]⟩ a h)else bif Nat.beq f 122&&Nat.beq r 7 then some (bp ⟨468,3000,[7,8,9,28,29,30,31,32,33,34,35,36,37,38,39,40,41,42,43,44,45,46,47,48,49,50,51,52,53,54,55,56,57,58,59,60,61,62],[],[6],[0],[0,1,2],[(.exit 2,[])],[],[],false,[]⟩ a h)else bif Nat.beq f 122&&Nat.beq r 9 then some (bp ⟨469,4000,[33,34,35,36,37,38,39,40,41,42,43,44,45,46,47,48],[],[7,8],[0],[0,1,2,6],[(.exit 4,[])],[],[],false,[]⟩ a h)else bif Nat.beq f 44&&Nat.beq r 5 then some (bp ⟨750,2000,[4,5,13,14,15,16,17,18,19,20,21,22,23],[(3,none,84,[.str,.int .i64,.int .i64,.int .i64,.int .i64,.int .i64,.int .i64])],[3],[],[12],[(.exit 0,[])],[],[],true,[]⟩ a h)else bif Nat.beq f 119&&Nat.beq r 4 then some (bp ⟨751,2000,[8,13,14,15,16,17,18,19],[],[12],[4,5],[4,5,6,10,11],[(.exit 0,[])],[],[],false,[]⟩ a h)else bif Nat.beq f 88&&Nat.beq r 4 then some (bp ⟨752,2000,[8,14,15,16,17,18,19,20,21,22,23,24,25,26,27,28,29,30,31,32,33,34,35,36,37,38,39,40,41,42,43,44,45],[(4,none,2,[.int .i64]),(5,none,2,[.int .i64])],[4,5,13],[6],[2,6,11,12],[(.exit 0,[])],[],[],false,[]⟩ a h)else bif Nat.beq f 62&&Nat.beq r 8 then some (bp ⟨753,2000,[43,44,45,46,47,48,49,50,51,52,53,54,55,56,57,58],[(7,none,138,[.int .i64,.int .i64])],[7,8],[],[2,5],[(.exit 1,[])],[],[],false,[]⟩ a h)else bif Nat.beq f 146&&Nat.beq r 2 then some (bp ⟨754,2000,[5,6,7,8,12,13,14,15,16,17,18,19,20,21,22,23,24,25,26,27,28,29,30,31,32,33,34,35,36,37,38,39,40,41,42,43,44,45,46,47,48,49,50,51,52],[],[4,11],[],[0,1,9,10],[(.exit 0,[]),(.ret,[])],[],[],false,[]⟩ a h)else bif Nat.beq f 117&&Nat.beq r 6 then some (bp ⟨755,2000,[12,36,37,38,39,40,41,42,43,44,45,46,47,48,49,50,51,52,53,54,55,56,57,58,59,60,61,62],[(6,none,192,[.int .i64,.int .i64]),(8,none,192,[.int .i64,.int .i64])],[6,8,35],[7],[7,10,33,34],[(.exit 0,[])],[],[],false,[]⟩ a h)else bif Nat.beq f 148&&Nat.beq r 3 then some (bp ⟨756,2000,[11,15,16,17,18,19,20,21,22,23,24,25,26,27,28,29,30,31,32,33,34],[],[9,10],[],[0,2,4,8],[(.exit 0,[])],[],[],false,[]⟩ a h)else bif Nat.beq f 118&&Nat.beq r 2 then some (bp ⟨757,2000,[5,11,12,13,14,15,16,17,18,19,20,21,22,23,24,25,26],[(4,none,192,[.int .i64,.int .i64])],[4],[],[1,10],[(.exit 0,[])],[],[],true,[]⟩ a h)else bif Nat.beq f 86&&Nat.beq r 3 then some (bp ⟨758,2000,[11,32,33,34,35,36,37,38,39,40,41,42,43,44,45],[(4,none,52,[.str,.int .i64,.int .i64])],[4,31],[],[3,5,7,29,30],[(.exit 0,[])],[],[],false,[]⟩ a h)else bif Nat.beq f 61&&Nat.beq r 4 then some (bp ⟨759,2000,[11,26,27,28,29,30,31,32,33,34,35,36,37,38,39,40,41,42,43,44,45],[(4,none,52,[.str,.int .i64,.int .i64]),(9,none,54,[.int .i64,.int .i64,.int .i64,.int .i64])],[4,9,25],[],[0,8,23,24],[(.exit 0,[])],[],[],false,[]⟩ a h)else bif Nat.beq f 42&&Nat.beq r 11 then some (bp ⟨760,2000,[8,9,44,45,46,47,48,49,50,51,52,53,54,55,56,57,58,59,60,61,62,63,64,65,66,67,68,69,70,71,72,73,74,75],[(5,none,84,[.str,.int .i64,.int .i64,.int .i64,.int .i64,.int .i64,.int .i64])],[5,6,43],[],[0,3,41,42],[(.exit 1,[])],[],[],false,[]⟩ a h)else bif Nat.beq f 22&&Nat.beq r 5 then some (bp ⟨761,2000,[9,25,26,27,28,29,30,31,32,33],[],[24],[1000],[0,6,22,23],[(.exit 0,[])],[],[],false,[]⟩ a h)else bif Nat.beq f 22&&Nat.beq r 10 then some (bp ⟨762,2000,[11,37,38,39,40,41,42,43,44,45,46,47,48],[],[36],[1000],[0,34,35],[(.exit 2,[])],[],[],false,[]⟩ a h)else bif Nat.beq f 65&&Nat.beq r 2 then some (bp ⟨763,2000,[5,9,10,11,12,13,14,15,16,17,18],[],[4,8],[],[0,1,7],[(.exit 0,[]),(.ret,[])],[],[],false,[]⟩ a h)else bif Nat.beq f 43&&Nat.beq r 5 then some (bp ⟨764,2000,[7,16,17,18,19,20,21,22,23,24,25,26,27,28,29,30,31,32,33,34,35],[],[5,6],[0],[0,1],[(.exit 0,[])],[],[],false,[]⟩ a h)else bif Nat.beq f 51&&Nat.beq r 3 then some (bp ⟨480,2000,[7,8,9,10,11,12,13,14,15,16,17,18,19,20,21,22,23,24,25,26,27,28,29,30,31,32,33,34,35,36,37,38,39,40,41,42,43,44,45,46,47,48,49,50,51,52,53,54,55,56,57,58,59,60,61,62,63,64,65,66,67,68,69],[(5,none,81,[.str,.int .i64,.int .i64,.int .i64,.int .i64,.int .i64,.int .i64])],[5,6],[],[0,1],[(.exit 0,[])],[],[],false,[]⟩ a h)else bif Nat.beq f 51&&Nat.beq r 7 then some (bp ⟨481,3000,[8,23,24,25,26,27,28,29,30,31,32,33,34,35,36,37,38,39,40,41,42,43,44,45,46,47,48,49,50,51,52,53,54,55,56,57,58,59,60,61,62,63,64,65,66,67,68,69],[],[7],[5],[0,1,5,6],[(.exit 2,[])],[],[],false,[]⟩ a h)else bif Nat.beq f 68&&Nat.beq r 3 then some (bp ⟨850,2000,[9,10,11,12,13,14,15,16,17,18,19,20,21],[],[5],[4],[0,4],[(.exit 0,[])],[],[],false,[]⟩ a h)else bif Nat.beq f 50&&Nat.beq r 6 then some (bp ⟨851,2000,[17,18,19,20,21,22,23,24,25,26,27,28,29,30,31,32,33,34,35,36,37,38,39,40,41,42,43,44,45,46,47,48,49,50,51,52,53,54],[],[7],[2,4],[0,2,4,5],[(.exit 0,[])],[],[],false,[]⟩ a h)else bif Nat.beq f 9&&Nat.beq r 4 then some (bp ⟨852,2000,[11,12,13,14,15,16,17,18,19,20,21,22,23,24,25],[],[4,5],[],[0,1],[(.exit 0,[]),(.ret,[])],[],[],false,[]⟩ a h)else bif Nat.beq f 67&&Nat.beq r 8 then some (bp ⟨853,2000,[44,45,46,47,48,49,50,51,52,53,54,55,56,57,58,59,60,61,62,63,64,65,66,67],[(5,none,120,[.int .i64,.int .i64])],[5,7],[],[1,2],[(.exit 0,[])],[],[],false,[]⟩ a h)else bif Nat.beq f 98&&Nat.beq r 2 then some (bp ⟨854,2000,[7,8,9,10,11,12],[(0,none,146,[.int .i64,.int .i64])],[0,3],[],[],[(.exit 0,[])],[],[],false,[]⟩ a h)else bif Nat.beq f 98&&Nat.beq r 6 then some (bp ⟨855,2000,[6,13,14,15,16,17,18,19,20,21,22,23,24,25,26,27,28,29,30,31,32,33,34,35,36,37,38,39,40,41,42,43,44,45,46,47,48,49,50,51,52,53,54,55,56,57,58,59,60],[(4,none,146,[.int .i64,.int .i64])],[4,5],[],[0],[(.exit 2,[])],[],[],false,[]⟩ a h)else bif Nat.beq f 98&&Nat.beq r 10 then some (bp ⟨856,3000,[27,28,29,30,31,32,33,34,35,36,37,38,39,40,41,42,43,44,45,46,47,48,49,50,51,52,53,54,55,56,57,58,59,60],[],[6],[4],[0,4,5],[(.exit 4,[])],[],[],false,[]⟩ a h)else bif Nat.beq f 123&&Nat.beq r 2 then some (bp ⟨857,4000,[5,6,7,8,9,10,11,12,13,14,15,16,17,18,19,20,21,22,23,24,25,26,27,28,29,30,31,32,33,34,35,36,37,38,39,40,41,42,43,44,45,46,47,48,49,50,51,52,53,54,55,56,57,58,59,60,61,62,63,64,65,66,67,68,69,70,71,72,73,74,75,76,77],[],[3,4],[],[0],[(.exit 0,[]),(.ret,[])],[],[],false,[(2,146,[.int .i64,.int .i64])]⟩ a h)else bif Nat.beq f 123&&Nat.beq r 5 then some (bp ⟨858,5000,[6,7,16,17,18,19,20,21,22,23,24,25,26,27,28,29,30,31,32,33,34,35,36,37,38,39,40,41,42,43,44,45,46,47,48,49,50,51,52,53,54,55,56,57,58,59,60,61,62,63,64,65,66,67,68,69,70,71,72,73,74,75,76,77],[],[3,5],[],[0,4],[(.exit 2,[]),(.ret,[])],[],[],false,[(2,146,[.int .i64,.int .i64])]⟩ a h)else bif Nat.beq f 123&&Nat.beq r 10 then some (bp ⟨859,6000,[56,57,58,59,60,61,62,63,64,65,66,67,68,69,70,71,72,73,74,75,76],[(6,none,146,[.int .i64,.int .i64])],[6,7],[],[0,4,5],[(.exit 4,[])],[],[],false,[]⟩ a h)else bif Nat.beq f 66&&Nat.beq r 5 then some (bp ⟨860,2000,[11,12,13,14,15,16,17,18,19,20,21,22,23,24,25,26,27,28,29,30,31,32,33,34,35,36],[(6,none,146,[.int .i64,.int .i64])],[5,6,7],[],[0,1],[(.exit 0,[]),(.ret,[(4,.nils)])],[],[],false,[]⟩ a h)else bif Nat.beq f 47&&Nat.beq r 4 then some (bp ⟨861,2000,[14,15,16,17,18,19,20,21,22,23,24,25,26,27,28,29,30,31,32,33,34],[(8,none,2,[.int .i64])],[8,9],[],[1,2,3,7],[(.exit 0,[])],[],[],false,[]⟩ a h)else bif Nat.beq f 47&&Nat.beq r 11 then some (bp ⟨862,2000,[45,46,47,48,49,50,51,52,53,54,55,56,57,58,59,60,61,62,63,64],[(7,none,120,[.int .i64,.int .i64])],[7,12],[],[10],[(.exit 2,[])],[],[],false,[]⟩ a h)else bif Nat.beq f 47&&Nat.beq r 16 then some (bp ⟨863,2000,[66,67,68,69,70,71,72,73,74,75,76,77,78,79],[(7,none,120,[.int .i64,.int .i64])],[7,13],[],[3,8],[(.exit 4,[])],[],[],false,[]⟩ a h)else bif Nat.beq f 48&&Nat.beq r 2 then some (bp ⟨864,2000,[6,7,8,9,10,11,12,13,14,15,16,17,18],[],[4,5],[],[0,3],[(.exit 0,[]),(.ret,[])],[],[],false,[]⟩ a h)else bif Nat.beq f 26&&Nat.beq r 3 then some (bp ⟨865,2000,[8,9,10,11,12,13,14,15,16,17,18,19,20,21,22,23,24,25,26,27,28,29,30,31,32,33,34,35,36,37,38,39,40,41,42,43,44,45,46,47,48,49,50,51,52,53,54,55,56,57,58,59,60,61,62,63,64,65,66,67,68,69,70,71,72,73,74,75,76,77,78,79,80,81,82,83,84,85,86,87,88,89,90,91,92,93,94,95,96,97,98,99,100],[(6,none,81,[.str,.int .i64,.int .i64,.int .i64,.int .i64,.int .i64,.int .i64])],[5,6,7],[],[1,2],[(.exit 0,[]),(.ret,[(4,.nils)])],[],[],false,[]⟩ a h)else bif Nat.beq f 26&&Nat.beq r 7 then some (bp ⟨866,4000,[10,11,12,13,14,29,30,31,32,33,34,35,36,37,38,39,40,41,42,43,44,45,46,47,48,49,50,51,52,53,54,55,56,57,58,59,60,61,62,63,64,65,66,67,68,69,70,71,72,73,74,75,76,77,78,79,80,81,82,83,84,85,86,87,88,89,90,91,92,93,94,95,96,97,98,99,100],[(6,none,81,[.str,.int .i64,.int .i64,.int .i64,.int .i64,.int .i64,.int .i64])],[5,6,9],[],[1,2,7,8],[(.exit 2,[]),(.ret,[(4,.nils)])],[],[],false,[]⟩ a h)else bif Nat.beq f 26&&Nat.beq r 13 then some (bp ⟨867,6000,[54,55,56,57,58,59,60,61,62,63,64,65,66,67,68,69,70,71,72,73,74,75,76,77,78,79,80,81,82,83,84,85,86,87],[(11,none,2,[.int .i64])],[11,12],[],[1,2,6,7,8,9,10],[(.exit 4,[])],[],[],false,[]⟩ a h)else bif Nat.beq f 28&&Nat.beq r 3 then some (bp ⟨868,2000,[7,8,9,10,11,12,13,14,15,16,17,18,19,20,21,22,23,24,25,26,27],[(5,none,81,[.str,.int .i64,.int .i64,.int .i64,.int .i64,.int .i64,.int .i64])],[5,6],[],[0,1],[(.exit 0,[])],[],[],false,[]⟩ a h)else bif Nat.beq f 6&&Nat.beq r 4 then some (bp ⟨869,2000,[7,8,9,15,16,17,18,19,20,21,22,23,24,25,26,27,28,29,30,31,32,33,34,35,36,37,38,39,40],[],[5,6],[],[1,2],[(.exit 0,[]),(.ret,[(4,.nils)])],[],[],false,[]⟩ a h)else bif Nat.beq f 27&&Nat.beq r 3 then some (bp ⟨870,2000,[5,6,7,8,9,10,11,12,13,14,15,16,17,18,19,20,21,22,23],[(3,none,71,[.int .u8,.str,.int .i64,.int .i64])],[3,4],[],[0],[(.exit 0,[])],[],[],false,[]⟩ a h)else bif Nat.beq f 29&&Nat.beq r 2 then some (bp ⟨871,2000,[7,8,9,10,11,12,13,14,15,16,17,18,19,20,21],[],[2,3],[],[0],[(.exit 0,[]),(.ret,[])],[],[],false,[]⟩ a h)else bif Nat.beq f 5&&Nat.beq r 6 then some (bp ⟨872,2000,[10,11,12,24,25,26,27,28,29,30,31,32,33,34,35,36,37,38,39,40,41,42,43],[],[5,8,23],[1006],[6,21,22],[(.exit 0,[]),(.ret,[(4,.nils)])],[(30006,[.str,.int .i64,.int .i64],[.int .i64,.int .i64,.int .i64,.int .i64])],[],false,[]⟩ a h)else bif Nat.beq f 8&&Nat.beq r 3 then some (bp ⟨873,2000,[5,6,7,8,9,10,11,12,13,14,15,16,17,18],[(3,none,71,[.int .u8,.str,.int .i64,.int .i64])],[3,4],[],[0],[(.exit 0,[])],[],[],false,[]⟩ a h)else bif Nat.beq f 10&&Nat.beq r 3 then some (bp ⟨874,2000,[5,6,7,8,9,10,11,12,13,14,15,16,17,18,19,20,21,22,23,24,25,26],[(3,none,81,[.str,.int .i64,.int .i64,.int .i64,.int .i64,.int .i64,.int .i64])],[3,4],[],[0],[(.exit 0,[])],[],[],false,[]⟩ a h)else bif Nat.beq f 3&&Nat.beq r 4 then some (bp ⟨875,2000,[14,15,16,17,18,19,20,21,22,23,24,25,26,27],[],[4,5],[],[1,2],[(.exit 0,[]),(.ret,[])],[],[],false,[]⟩ a h)else none
noncomputable def aV:Env:={kw with lspec:=Dw}
noncomputable def iD:Env:={kw with caps:=λg=>Nat.beq g 150}
def bV:HC:=⟨4,0,⟨[],[],0,.cb true,.obool (.va 1000),[],[.cb true]⟩⟩
def L0:List HC:=[bV]
def L1:List HC:=[]
def eA:HC:=⟨40,4,⟨[.agg [.oint .u8 (.va 0),.oint .i64 (.va 1),.oint .i64 (.va 2),.oint .i64 (.va 3)]],[],0,.cb true,.obool (.va 1000),[],[.app 700 [.va 0,.va 1,.va 2,.va 3]]⟩⟩
def aW:HC:=⟨21,4,⟨[.agg [.oint .u8 (.va 0),.ostr (.va 1),.oint .i64 (.va 2),.oint .i64 (.va 3)]],[],0,.cb true,.oint .i64 (.va 1000),[],[.app 701 [.va 0,.va 1,.va 2,.va 3]]⟩⟩
def dV:List AV:=[.agg [.oint .u8 (.va 0),.ostr (.va 1),.oint .i64 (.va 2),.oint .i64 (.va 3)]]
def dZ:List AV:=[.agg [.int .u8 1,.ostr (.va 1),.oint .i64 (.va 2),.oint .i64 (.va 3)]]
def dX:List AV:=[.agg [.int .u8 2,.ostr (.va 1),.oint .i64 (.va 2),.oint .i64 (.va 3)]]
def eo:HC:=⟨119,1,⟨[.osl 0 (.ci 0) (.op .llen [.va 0]) 1],[.arr 4294967295 [.int .i64] (.va 0)],1,.op (.cmp .leq) [.op .llen [.va 0],.ci 1000000],.tup [.oint .i64 (.va 1000),.oint .i64 (.va 1001)],[],[.app 702 [.va 0],.app 703 [.va 0]]⟩⟩
def iI:HC:=⟨90,2,⟨[.oint .i64 (.va 0),.oint .i64 (.va 1)],[],0,.op .and [.op .and [.op (.cmp .leq) [.ci 1,.va 1],.op (.cmp .leq) [.va 1,.ci 1048576]],.op .and [.op (.cmp .leq) [.ci (-1099511627776),.va 0],.op (.cmp .leq) [.va 0,.ci 1099511627776]]],.tup [.oint .i64 (.va 1000),.oint .i64 (.va 1001)],[],[.app 709 [.va 0,.va 1],.ci 0]⟩⟩
def ej:HC:=⟨146,2,⟨[.oint .i64 (.va 0),.osl 0 (.ci 0) (.op .llen [.va 1]) 2],[.arr 4294967295 [.int .i64,.int .i64] (.va 1)],1,.op (.cmp .leq) [.op .llen [.va 1],.ci 400],.obool (.va 1000),[],[.app 711 [.va 0,.va 1]]⟩⟩
def fR:HC:=⟨152,4,⟨[.agg [.oint .i64 (.va 0),.oint .i64 (.va 1)],.agg [.oint .i64 (.va 2),.oint .i64 (.va 3)]],[],0,.cb true,.oint .i64 (.va 1000),[],[.app 712 [.va 0,.va 1,.va 2,.va 3]]⟩⟩
def ny:HC:=⟨150,5,⟨[.ous 1 (.va 1) 2,.oint .i64 (.va 2),.sl 0 0 1 1],[.cells 192 0 [.oint .i64 (.va 3),.oint .i64 (.va 4)],.arr 192 [.int .i64,.int .i64] (.va 0)],1,.app 713 [.va 0,.va 1,.va 2,.va 3,.va 4],.ous 2 (.op .llen [.va 1000]) 2,[none,some (.arr 192 [.int .i64,.int .i64] (.va 1000))],[.app 714 [.va 0,.va 1,.va 2,.va 3,.va 4]]⟩⟩
def jq:HC:=⟨151,2,⟨[.ous 0 (.va 0) 2,.func (.func 152) [] []],[.arr 192 [.int .i64,.int .i64] (.va 1)],0,.op .and [.op (.cmp .eql) [.va 0,.op .llen [.va 1]],.op (.cmp .leq) [.op .llen [.va 1],.ci 1000000]],.tup [],[some (.arr 192 [.int .i64,.int .i64] (.va 1000))],[.app 715 [.va 1]]⟩⟩
def cD:HC:=⟨151,2,⟨[.ous 0 (.va 0) 2,.func (.func 152) [] []],[.bag 192 [.int .i64,.int .i64] (.va 1)],0,.op .and [.op (.cmp .eql) [.va 0,.op .llen [.va 1]],.op .and [.op (.cmp .leq) [.op .llen [.va 1],.ci 1000000],.app 716 [.va 1]]],.tup [],[some (.arr 192 [.int .i64,.int .i64] (.va 1000))],[.app 715 [.va 1]]⟩⟩
def ep:HC:=⟨93,1,⟨[.osl 0 (.ci 0) (.op .llen [.va 0]) 7],[.arr 4294967295 [.str,.int .i64,.int .i64,.int .i64,.int .i64,.int .i64,.int .i64] (.va 0)],1,.op .and [.op (.cmp .leq) [.op .llen [.va 0],.ci 400],.app 431 [.va 0]],.ous 1 (.op .llen [.va 1000]) 7,[some (.arr 84 [.str,.int .i64,.int .i64,.int .i64,.int .i64,.int .i64,.int .i64] (.va 1000))],[.va 0]⟩⟩
def fw:HC:=⟨185,5,⟨[.ous 0 (.va 1) 7,.oint .i64 (.va 2),.oint .i64 (.va 3),.oint .i64 (.va 4),.func (.func 95) [.agg [.func (.func 79) [] []]] []],[.arr 84 [.str,.int .i64,.int .i64,.int .i64,.int .i64,.int .i64,.int .i64] (.va 0)],0,.app 420 [.va 0,.va 1,.va 2,.va 3,.va 4],.tup [],[some (.arr 84 [.str,.int .i64,.int .i64,.int .i64,.int .i64,.int .i64,.int .i64] (.va 1000))],[.app 421 [.va 0,.va 2,.va 3,.va 4]]⟩⟩
def jd:HC:=⟨95,14,⟨[.agg [.func (.func 79) [] []],.agg [.ostr (.va 0),.oint .i64 (.va 1),.oint .i64 (.va 2),.oint .i64 (.va 3),.oint .i64 (.va 4),.oint .i64 (.va 5),.oint .i64 (.va 6)],.agg [.ostr (.va 7),.oint .i64 (.va 8),.oint .i64 (.va 9),.oint .i64 (.va 10),.oint .i64 (.va 11),.oint .i64 (.va 12),.oint .i64 (.va 13)]],[],0,.cb true,.oint .i64 (.va 1000),[],[.app 206 [.va 0,.va 1,.va 2,.va 7,.va 8,.va 9]]⟩⟩
def L2:List HC:=[eA,aW,eo,iI,ej,fR,ny,jq,cD,ep,fw,jd]
def io:HC:=⟨173,5,⟨[.ous 0 (.va 1) 7,.oint .i64 (.va 2),.oint .i64 (.va 3),.oint .i64 (.va 4),.func (.func 95) [.agg [.func (.func 79) [] []]] []],[.arr 84 [.str,.int .i64,.int .i64,.int .i64,.int .i64,.int .i64,.int .i64] (.va 0)],0,.app 422 [.va 0,.va 1,.va 2,.va 3,.va 4],.tup [],[some (.arr 84 [.str,.int .i64,.int .i64,.int .i64,.int .i64,.int .i64,.int .i64] (.va 1000))],[.app 423 [.va 0,.va 2,.va 3,.va 4]]⟩⟩
def nu:HC:=⟨62,5,⟨[.agg [.oint .u8 (.va 0),.oint .i64 (.va 1),.oint .i64 (.va 2),.oint .i64 (.va 3)],.oint .i64 (.va 4)],[],0,.cb true,.ous 0 (.op .llen [.va 1000]) 2,[some (.arr 138 [.int .i64,.int .i64] (.va 1000))],[.app 704 [.va 0,.va 1,.va 2,.va 3,.va 4]]⟩⟩
def jc:HC:=⟨88,1,⟨[.osl 0 (.ci 0) (.op .llen [.va 0]) 4],[.arr 4294967295 [.int .i64,.int .i64,.int .i64,.int .i64] (.va 0)],1,.op (.cmp .leq) [.op .llen [.va 0],.ci 1000],.tup [.agg [.oint .i64 (.va 1000),.oint .i64 (.va 1001),.oint .i64 (.va 1002),.oint .i64 (.va 1003)],.oint .i64 (.va 1004)],[],[.op .lget [.app 705 [.va 0],.ci 0,.ci 0],.op .lget [.app 705 [.va 0],.ci 0,.ci 1],.op .lget [.app 705 [.va 0],.ci 0,.ci 2],.op .lget [.app 705 [.va 0],.ci 0,.ci 3],.app 706 [.va 0]]⟩⟩
def cP:HC:=⟨117,3,⟨[.oint .i64 (.va 0),.oint .i64 (.va 1),.osl 0 (.ci 0) (.op .llen [.va 2]) 2],[.arr 4294967295 [.int .i64,.int .i64] (.va 2)],1,.op (.cmp .leq) [.op .llen [.va 2],.ci 24],.tup [.ous 1 (.op .llen [.va 1003]) 2,.agg [.oint .i64 (.va 1000),.oint .i64 (.va 1001)],.ous 2 (.op .llen [.va 1004]) 2,.oint .i64 (.va 1002)],[some (.arr 192 [.int .i64,.int .i64] (.va 1003)),some (.arr 192 [.int .i64,.int .i64] (.va 1004))],[.op .lget [.app 718 [.va 0,.va 1,.va 2],.ci 0,.ci 0],.op .lget [.app 718 [.va 0,.va 1,.va 2],.ci 0,.ci 1],.app 720 [.va 0,.va 1,.va 2],.app 717 [.va 0,.va 1,.va 2],.app 719 [.va 0,.va 1,.va 2]]⟩⟩
def L3:List HC:=[io,nu,jc,cP]
def iE:HC:=⟨154,4,⟨[.ous 0 (.va 1) 7,.oint .i64 (.va 2),.oint .i64 (.va 3),.func (.func 95) [.agg [.func (.func 79) [] []]] []],[.arr 84 [.str,.int .i64,.int .i64,.int .i64,.int .i64,.int .i64,.int .i64] (.va 0)],0,.app 424 [.va 0,.va 1,.va 2,.va 3],.tup [],[some (.arr 84 [.str,.int .i64,.int .i64,.int .i64,.int .i64,.int .i64,.int .i64] (.va 1000))],[.app 425 [.va 0,.va 2,.va 3]]⟩⟩
def mX:HC:=⟨155,5,⟨[.ous 0 (.va 1) 7,.oint .i64 (.va 2),.oint .i64 (.va 3),.oint .i64 (.va 4),.func (.func 95) [.agg [.func (.func 79) [] []]] []],[.arr 84 [.str,.int .i64,.int .i64,.int .i64,.int .i64,.int .i64,.int .i64] (.va 0)],0,.app 426 [.va 0,.va 1,.va 2,.va 3,.va 4,.ci 1],.tup [],[some (.arr 84 [.str,.int .i64,.int .i64,.int .i64,.int .i64,.int .i64,.int .i64] (.va 1000))],[.app 425 [.va 0,.va 2,.va 4]]⟩⟩
def ig:HC:=⟨63,5,⟨[.agg [.oint .i64 (.va 0),.oint .i64 (.va 1),.oint .i64 (.va 2),.oint .i64 (.va 3)],.oint .i64 (.va 4)],[],0,.cb true,.tup [.agg [.oint .i64 (.va 1000),.oint .i64 (.va 1001),.oint .i64 (.va 1002),.oint .i64 (.va 1003)],.oint .i64 (.va 1004)],[],[.op .lget [.app 707 [.va 0,.va 1,.va 2,.va 3,.va 4],.ci 0,.ci 0],.op .lget [.app 707 [.va 0,.va 1,.va 2,.va 3,.va 4],.ci 0,.ci 1],.op .lget [.app 707 [.va 0,.va 1,.va 2,.va 3,.va 4],.ci 0,.ci 2],.op .lget [.app 707 [.va 0,.va 1,.va 2,.va 3,.va 4],.ci 0,.ci 3],.app 708 [.va 0,.va 1,.va 2,.va 3,.va 4]]⟩⟩
def L4:List HC:=[iE,mX,ig]
def ib:HC:=⟨155,5,⟨[.ous 0 (.va 1) 7,.oint .i64 (.va 2),.oint .i64 (.va 3),.oint .i64 (.va 4),.func (.func 95) [.agg [.func (.func 79) [] []]] []],[.arr 84 [.str,.int .i64,.int .i64,.int .i64,.int .i64,.int .i64,.int .i64] (.va 0)],0,.app 426 [.va 0,.va 1,.va 2,.va 3,.va 4,.ci 2],.tup [],[some (.arr 84 [.str,.int .i64,.int .i64,.int .i64,.int .i64,.int .i64,.int .i64] (.va 1000))],[.app 425 [.va 0,.va 2,.va 4]]⟩⟩
def L5:List HC:=[ib]
def iS:HC:=⟨155,5,⟨[.ous 0 (.va 1) 7,.oint .i64 (.va 2),.oint .i64 (.va 3),.oint .i64 (.va 4),.func (.func 95) [.agg [.func (.func 79) [] []]] []],[.arr 84 [.str,.int .i64,.int .i64,.int .i64,.int .i64,.int .i64,.int .i64] (.va 0)],0,.app 426 [.va 0,.va 1,.va 2,.va 3,.va 4,.ci 4],.tup [],[some (.arr 84 [.str,.int .i64,.int .i64,.int .i64,.int .i64,.int .i64,.int .i64] (.va 1000))],[.app 425 [.va 0,.va 2,.va 4]]⟩⟩
def L6:List HC:=[iS]
def ia:HC:=⟨155,5,⟨[.ous 0 (.va 1) 7,.oint .i64 (.va 2),.oint .i64 (.va 3),.oint .i64 (.va 4),.func (.func 95) [.agg [.func (.func 79) [] []]] []],[.arr 84 [.str,.int .i64,.int .i64,.int .i64,.int .i64,.int .i64,.int .i64] (.va 0)],0,.app 426 [.va 0,.va 1,.va 2,.va 3,.va 4,.ci 8],.tup [],[some (.arr 84 [.str,.int .i64,.int .i64,.int .i64,.int .i64,.int .i64,.int .i64] (.va 1000))],[.app 425 [.va 0,.va 2,.va 4]]⟩⟩
def L7:List HC:=[ia]
def iA:HC:=⟨155,5,⟨[.ous 0 (.va 1) 7,.oint .i64 (.va 2),.oint .i64 (.va 3),.oint .i64 (.va 4),.func (.func 95) [.agg [.func (.func 79) [] []]] []],[.arr 84 [.str,.int .i64,.int .i64,.int .i64,.int .i64,.int .i64,.int .i64] (.va 0)],0,.app 426 [.va 0,.va 1,.va 2,.va 3,.va 4,.ci 16],.tup [],[some (.arr 84 [.str,.int .i64,.int .i64,.int .i64,.int .i64,.int .i64,.int .i64] (.va 1000))],[.app 425 [.va 0,.va 2,.va 4]]⟩⟩
def L8:List HC:=[iA]
def im:HC:=⟨155,5,⟨[.ous 0 (.va 1) 7,.oint .i64 (.va 2),.oint .i64 (.va 3),.oint .i64 (.va 4),.func (.func 95) [.agg [.func (.func 79) [] []]] []],[.arr 84 [.str,.int .i64,.int .i64,.int .i64,.int .i64,.int .i64,.int .i64] (.va 0)],0,.app 426 [.va 0,.va 1,.va 2,.va 3,.va 4,.ci 32],.tup [],[some (.arr 84 [.str,.int .i64,.int .i64,.int .i64,.int .i64,.int .i64,.int .i64] (.va 1000))],[.app 425 [.va 0,.va 2,.va 4]]⟩⟩
def L9:List HC:=[im]
def iH:HC:=⟨155,5,⟨[.ous 0 (.va 1) 7,.oint .i64 (.va 2),.oint .i64 (.va 3),.oint .i64 (.va 4),.func (.func 95) [.agg [.func (.func 79) [] []]] []],[.arr 84 [.str,.int .i64,.int .i64,.int .i64,.int .i64,.int .i64,.int .i64] (.va 0)],0,.app 426 [.va 0,.va 1,.va 2,.va 3,.va 4,.ci 64],.tup [],[some (.arr 84 [.str,.int .i64,.int .i64,.int .i64,.int .i64,.int .i64,.int .i64] (.va 1000))],[.app 425 [.va 0,.va 2,.va 4]]⟩⟩
def SQ:List HC:=[iH]
def gZ:HC:=⟨155,5,⟨[.ous 0 (.va 1) 7,.oint .i64 (.va 2),.oint .i64 (.va 3),.oint .i64 (.va 4),.func (.func 95) [.agg [.func (.func 79) [] []]] []],[.arr 84 [.str,.int .i64,.int .i64,.int .i64,.int .i64,.int .i64,.int .i64] (.va 0)],0,.app 426 [.va 0,.va 1,.va 2,.va 3,.va 4,.ci 128],.tup [],[some (.arr 84 [.str,.int .i64,.int .i64,.int .i64,.int .i64,.int .i64,.int .i64] (.va 1000))],[.app 425 [.va 0,.va 2,.va 4]]⟩⟩
def L11:List HC:=[gZ]
def ja:HC:=⟨155,5,⟨[.ous 0 (.va 1) 7,.oint .i64 (.va 2),.oint .i64 (.va 3),.oint .i64 (.va 4),.func (.func 95) [.agg [.func (.func 79) [] []]] []],[.arr 84 [.str,.int .i64,.int .i64,.int .i64,.int .i64,.int .i64,.int .i64] (.va 0)],0,.app 426 [.va 0,.va 1,.va 2,.va 3,.va 4,.ci 256],.tup [],[some (.arr 84 [.str,.int .i64,.int .i64,.int .i64,.int .i64,.int .i64,.int .i64] (.va 1000))],[.app 425 [.va 0,.va 2,.va 4]]⟩⟩
def Ww:List HC:=[ja]
def iY:HC:=⟨155,5,⟨[.ous 0 (.va 1) 7,.oint .i64 (.va 2),.oint .i64 (.va 3),.oint .i64 (.va 4),.func (.func 95) [.agg [.func (.func 79) [] []]] []],[.arr 84 [.str,.int .i64,.int .i64,.int .i64,.int .i64,.int .i64,.int .i64] (.va 0)],0,.app 426 [.va 0,.va 1,.va 2,.va 3,.va 4,.ci 512],.tup [],[some (.arr 84 [.str,.int .i64,.int .i64,.int .i64,.int .i64,.int .i64,.int .i64] (.va 1000))],[.app 425 [.va 0,.va 2,.va 4]]⟩⟩
def Yt:List HC:=[iY]
def gY:HC:=⟨122,3,⟨[.ous 0 (.va 1) 7,.oint .i64 (.va 2),.func (.func 95) [.agg [.func (.func 79) [] []]] []],[.arr 84 [.str,.int .i64,.int .i64,.int .i64,.int .i64,.int .i64,.int .i64] (.va 0)],0,.app 428 [.va 0,.va 1,.va 2],.tup [],[some (.arr 84 [.str,.int .i64,.int .i64,.int .i64,.int .i64,.int .i64,.int .i64] (.va 1000))],[.app 425 [.va 0,.ci 0,.va 2]]⟩⟩
def Wx:List HC:=[gY]
def fE:HC:=⟨94,1,⟨[.ous 0 (.op .llen [.va 0]) 7,.func (.func 95) [.agg [.func (.func 79) [] []]] []],[.arr 84 [.str,.int .i64,.int .i64,.int .i64,.int .i64,.int .i64,.int .i64] (.va 0)],0,.op .and [.op (.cmp .leq) [.op .llen [.va 0],.ci 400],.app 431 [.va 0]],.tup [],[some (.arr 84 [.str,.int .i64,.int .i64,.int .i64,.int .i64,.int .i64,.int .i64] (.va 1000))],[.app 425 [.va 0,.ci 0,.op .llen [.va 0]]]⟩⟩
def Vj:List HC:=[fE]
def bU:HC:=⟨64,1,⟨[.bool false,.osl 0 (.ci 0) (.op .llen [.va 0]) 7],[.arr 4294967295 [.str,.int .i64,.int .i64,.int .i64,.int .i64,.int .i64,.int .i64] (.va 0)],1,.op .and [.op (.cmp .leq) [.op .llen [.va 0],.ci 400],.app 431 [.va 0]],.ous 1 (.op .llen [.va 1000]) 7,[some (.arr 84 [.str,.int .i64,.int .i64,.int .i64,.int .i64,.int .i64,.int .i64] (.va 1000))],[.app 490 [.va 0]]⟩⟩
def cw:HC:=⟨64,2,⟨[.bool false,.ous 0 (.va 0) 7],[.bag 84 [.str,.int .i64,.int .i64,.int .i64,.int .i64,.int .i64,.int .i64] (.va 1)],1,.op .and [.op (.cmp .eql) [.va 0,.op .llen [.va 1]],.op .and [.op .and [.op (.cmp .leq) [.op .llen [.va 1],.ci 400],.app 431 [.va 1]],.app 491 [.va 1]]],.ous 1 (.op .llen [.va 1000]) 7,[some (.arr 84 [.str,.int .i64,.int .i64,.int .i64,.int .i64,.int .i64,.int .i64] (.va 1000))],[.app 490 [.va 1]]⟩⟩
def WW:List HC:=[bU,cw]
def fK:HC:=⟨44,5,⟨[.ptr 0 0],[.cells 103 0 [.oint .u8 (.va 0),.oint .i64 (.va 1),.oint .i64 (.va 2),.oint .i64 (.va 3),.map 1],.marr false [.str,.int .i64,.int .i64] [.int .i64,.int .i64,.int .i64,.int .i64] (.va 4)],2,.op .and [.op .and [.op (.cmp .leq) [.op .llen [.va 4],.ci 400],.app 431 [.va 4]],.app 491 [.va 4]],.ous 2 (.op .llen [.va 1000]) 7,[some (.arr 84 [.str,.int .i64,.int .i64,.int .i64,.int .i64,.int .i64,.int .i64] (.va 1000))],[.app 490 [.va 4]]⟩⟩
def fS:HC:=⟨118,6,⟨[.ptr 0 0,.ostr (.va 5)],[.cells 103 0 [.oint .u8 (.va 0),.oint .i64 (.va 1),.oint .i64 (.va 2),.oint .i64 (.va 3),.map 1],.marr false [.str,.int .i64,.int .i64] [.int .i64,.int .i64,.int .i64,.int .i64] (.va 4)],2,.op .and [.op (.cmp .leq) [.op .llen [.va 4],.ci 400],.app 491 [.va 4]],.ous 2 (.op .llen [.va 1000]) 2,[some (.arr 192 [.int .i64,.int .i64] (.va 1000))],[.app 723 [.va 4,.va 5]]⟩⟩
def L17:List HC:=[fK,fS]
def eE:HC:=⟨86,9,⟨[.ptr 0 0,.agg [.oint .u8 (.va 5),.ostr (.va 6),.oint .i64 (.va 7),.oint .i64 (.va 8)]],[.cells 103 0 [.oint .u8 (.va 0),.oint .i64 (.va 1),.oint .i64 (.va 2),.oint .i64 (.va 3),.map 1],.marr false [.str,.int .i64,.int .i64] [.int .i64,.int .i64,.int .i64,.int .i64] (.va 4)],2,.op .and [.op (.cmp .leq) [.op .llen [.va 4],.ci 24],.app 491 [.va 4]],.tup [.ous 2 (.op .llen [.va 1003]) 3,.agg [.ostr (.va 1000),.oint .i64 (.va 1001),.oint .i64 (.va 1002)]],[some (.arr 52 [.str,.int .i64,.int .i64] (.va 1003))],[.op .lget [.app 725 [.va 3,.va 4,.va 6,.va 7],.ci 0,.ci 0],.op .lget [.app 725 [.va 3,.va 4,.va 6,.va 7],.ci 0,.ci 1],.op .lget [.app 725 [.va 3,.va 4,.va 6,.va 7],.ci 0,.ci 2],.app 724 [.va 3,.va 4,.va 6,.va 7]]⟩⟩
def fN:HC:=⟨23,6,⟨[.ptr 0 0,.oint .i64 (.va 5)],[.cells 103 0 [.oint .u8 (.va 0),.oint .i64 (.va 1),.oint .i64 (.va 2),.oint .i64 (.va 3),.map 1],.marr false [.str,.int .i64,.int .i64] [.int .i64,.int .i64,.int .i64,.int .i64] (.va 4)],2,.op .and [.op .and [.op (.cmp .leq) [.op .llen [.va 4],.ci 400],.app 431 [.va 4]],.app 491 [.va 4]],.ous 2 (.op .llen [.va 1000]) 7,[some (.arr 84 [.str,.int .i64,.int .i64,.int .i64,.int .i64,.int .i64,.int .i64] (.va 1000))],[.app 726 [.va 4,.va 5]]⟩⟩
def L18:List HC:=[eE,fN]
def iQ:HC:=⟨61,9,⟨[.ptr 0 0,.agg [.oint .u8 (.va 5),.ostr (.va 6),.oint .i64 (.va 7),.oint .i64 (.va 8)]],[.cells 103 0 [.oint .u8 (.va 0),.oint .i64 (.va 1),.oint .i64 (.va 2),.oint .i64 (.va 3),.map 1],.marr false [.str,.int .i64,.int .i64] [.int .i64,.int .i64,.int .i64,.int .i64] (.va 4)],2,.op .and [.op (.cmp .leq) [.op .llen [.va 4],.ci 24],.app 491 [.va 4]],.tup [.ous 2 (.op .llen [.va 1001]) 3,.ous 3 (.op .llen [.va 1002]) 7,.oint .i64 (.va 1000)],[some (.arr 52 [.str,.int .i64,.int .i64] (.va 1001)),some (.arr 84 [.str,.int .i64,.int .i64,.int .i64,.int .i64,.int .i64,.int .i64] (.va 1002))],[.app 729 [.va 3,.va 4,.va 6,.va 7,.va 8],.app 727 [.va 3,.va 4,.va 6,.va 7,.va 8],.app 728 [.va 3,.va 4,.va 6,.va 7,.va 8]]⟩⟩
def WB:List HC:=[iQ]
def mT:HC:=⟨42,9,⟨[.ptr 0 0,.agg [.oint .u8 (.va 5),.ostr (.va 6),.oint .i64 (.va 7),.oint .i64 (.va 8)]],[.cells 103 0 [.oint .u8 (.va 0),.oint .i64 (.va 1),.oint .i64 (.va 2),.oint .i64 (.va 3),.map 1],.marr false [.str,.int .i64,.int .i64] [.int .i64,.int .i64,.int .i64,.int .i64] (.va 4)],2,.op .and [.op .and [.op .and [.op (.cmp .leq) [.op .llen [.va 4],.ci 400],.app 431 [.va 4]],.app 491 [.va 4]],.app 739 [.va 0,.va 4,.va 6]],.tup [.ous 2 (.op .llen [.va 1001]) 3,.ous 3 (.op .llen [.va 1002]) 7,.oint .i64 (.va 1000)],[some (.arr 52 [.str,.int .i64,.int .i64] (.va 1001)),some (.arr 84 [.str,.int .i64,.int .i64,.int .i64,.int .i64,.int .i64,.int .i64] (.va 1002))],[.app 732 [.va 0,.va 1,.va 2,.va 3,.va 4,.va 5,.va 6,.va 7,.va 8],.app 730 [.va 0,.va 1,.va 2,.va 3,.va 4,.va 5,.va 6,.va 7,.va 8],.app 731 [.va 0,.va 1,.va 2,.va 3,.va 4,.va 5,.va 6,.va 7,.va 8]]⟩⟩
def SK:List HC:=[mT]
def mf:HC:=⟨22,9,⟨[.ptr 0 0,.agg [.oint .u8 (.va 5),.ostr (.va 6),.oint .i64 (.va 7),.oint .i64 (.va 8)]],[.cells 103 0 [.oint .u8 (.va 0),.oint .i64 (.va 1),.oint .i64 (.va 2),.oint .i64 (.va 3),.map 1],.marr false [.str,.int .i64,.int .i64] [.int .i64,.int .i64,.int .i64,.int .i64] (.va 4)],1,.op .and [.op .and [.op .and [.op (.cmp .leq) [.op .llen [.va 4],.ci 400],.app 431 [.va 4]],.app 491 [.va 4]],.app 739 [.va 0,.va 4,.va 6]],.oint .i64 (.va 1000),[some (.marr false [.str,.int .i64,.int .i64] [.int .i64,.int .i64,.int .i64,.int .i64] (.va 1001))],[.app 732 [.va 0,.va 1,.va 2,.va 3,.va 4,.va 5,.va 6,.va 7,.va 8],.app 733 [.va 0,.va 1,.va 2,.va 3,.va 4,.va 5,.va 6,.va 7,.va 8]]⟩⟩
def L21:List HC:=[mf]
def TA:List HC:=[]
def WH:List HC:=[]
def eC:HC:=⟨24,4,⟨[.agg [.oint .u8 (.va 0),.oint .i64 (.va 1),.oint .i64 (.va 2),.oint .i64 (.va 3)]],[],0,.cb true,.obool (.va 1000),[],[.app 700 [.va 0,.va 1,.va 2,.va 3]]⟩⟩
def mA:HC:=⟨25,4,⟨[.agg [.oint .u8 (.va 0),.ostr (.va 1),.oint .i64 (.va 2),.oint .i64 (.va 3)]],[],0,.cb true,.oint .i64 (.va 1000),[],[.app 701 [.va 0,.va 1,.va 2,.va 3]]⟩⟩
def iC:HC:=⟨101,1,⟨[.oint .i64 (.va 0)],[],0,.cb true,.agg [.oint .i64 (.va 1000),.oint .i64 (.va 1001),.oint .i64 (.va 1002),.oint .i64 (.va 1003)],[],[.op .lget [.app 810 [.va 0],.ci 0,.ci 0],.op .lget [.app 810 [.va 0],.ci 0,.ci 1],.op .lget [.app 810 [.va 0],.ci 0,.ci 2],.op .lget [.app 810 [.va 0],.ci 0,.ci 3]]⟩⟩
def eu:HC:=⟨100,8,⟨[.agg [.oint .i64 (.va 0),.oint .i64 (.va 1),.oint .i64 (.va 2),.oint .i64 (.va 3)],.agg [.oint .i64 (.va 4),.oint .i64 (.va 5),.oint .i64 (.va 6),.oint .i64 (.va 7)]],[],0,.cb true,.agg [.oint .i64 (.va 1000),.oint .i64 (.va 1001),.oint .i64 (.va 1002),.oint .i64 (.va 1003)],[],[.op .lget [.app 811 [.va 0,.va 1,.va 2,.va 3,.va 4,.va 5,.va 6,.va 7],.ci 0,.ci 0],.op .lget [.app 811 [.va 0,.va 1,.va 2,.va 3,.va 4,.va 5,.va 6,.va 7],.ci 0,.ci 1],.op .lget [.app 811 [.va 0,.va 1,.va 2,.va 3,.va 4,.va 5,.va 6,.va 7],.ci 0,.ci 2],.op .lget [.app 811 [.va 0,.va 1,.va 2,.va 3,.va 4,.va 5,.va 6,.va 7],.ci 0,.ci 3]]⟩⟩
def fy:HC:=⟨9,2,⟨[.osl 0 (.ci 0) (.op .llen [.va 0]) 7,.osl 1 (.ci 0) (.op .llen [.va 1]) 7],[.arr 4294967295 [.str,.int .i64,.int .i64,.int .i64,.int .i64,.int .i64,.int .i64] (.va 0),.arr 4294967295 [.str,.int .i64,.int .i64,.int .i64,.int .i64,.int .i64,.int .i64] (.va 1)],2,.op (.cmp .leq) [.op .llen [.va 0],.ci 1000000],.obool (.va 1000),[],[.app 3 [.va 0,.va 1]]⟩⟩
def nq:HC:=⟨48,4,⟨[.osl 0 (.ci 0) (.op .llen [.va 0]) 7,.agg [.ostr (.va 1),.oint .i64 (.va 2),.oint .i64 (.va 3)]],[.arr 4294967295 [.str,.int .i64,.int .i64,.int .i64,.int .i64,.int .i64,.int .i64] (.va 0)],1,.op (.cmp .leq) [.op .llen [.va 0],.ci 1000000],.obool (.va 1000),[],[.app 827 [.va 0,.va 1,.va 2,.va 3]]⟩⟩
def eD:HC:=⟨28,2,⟨[.osl 0 (.ci 0) (.op .llen [.va 0]) 7,.oint .i64 (.va 1)],[.arr 4294967295 [.str,.int .i64,.int .i64,.int .i64,.int .i64,.int .i64,.int .i64] (.va 0)],1,.op .and [.op (.cmp .leq) [.op .llen [.va 0],.ci 400],.app 431 [.va 0]],.ous 1 (.op .llen [.va 1000]) 7,[some (.arr 81 [.str,.int .i64,.int .i64,.int .i64,.int .i64,.int .i64,.int .i64] (.va 1000))],[.app 832 [.va 0,.va 1]]⟩⟩
def cQ:HC:=⟨27,1,⟨[.osl 0 (.ci 0) (.op .llen [.va 0]) 4],[.arr 4294967295 [.int .u8,.str,.int .i64,.int .i64] (.va 0)],1,.op (.cmp .leq) [.op .llen [.va 0],.ci 100],.ous 1 (.op .llen [.va 1000]) 4,[some (.arr 71 [.int .u8,.str,.int .i64,.int .i64] (.va 1000))],[.app 830 [.va 0]]⟩⟩
def fM:HC:=⟨29,1,⟨[.osl 0 (.ci 0) (.op .llen [.va 0]) 4],[.arr 4294967295 [.int .u8,.str,.int .i64,.int .i64] (.va 0)],1,.op (.cmp .leq) [.op .llen [.va 0],.ci 100],.oint .i64 (.va 1000),[],[.app 831 [.va 0]]⟩⟩
def iG:HC:=⟨8,1,⟨[.osl 0 (.ci 0) (.op .llen [.va 0]) 4],[.arr 4294967295 [.int .u8,.str,.int .i64,.int .i64] (.va 0)],1,.op (.cmp .leq) [.op .llen [.va 0],.ci 100],.ous 1 (.op .llen [.va 1000]) 4,[some (.arr 71 [.int .u8,.str,.int .i64,.int .i64] (.va 1000))],[.app 835 [.va 0]]⟩⟩
def fJ:HC:=⟨10,1,⟨[.osl 0 (.ci 0) (.op .llen [.va 0]) 7],[.arr 4294967295 [.str,.int .i64,.int .i64,.int .i64,.int .i64,.int .i64,.int .i64] (.va 0)],1,.op .and [.op (.cmp .leq) [.op .llen [.va 0],.ci 400],.app 431 [.va 0]],.ous 1 (.op .llen [.va 1000]) 7,[some (.arr 81 [.str,.int .i64,.int .i64,.int .i64,.int .i64,.int .i64,.int .i64] (.va 1000))],[.va 0]⟩⟩
def fB:HC:=⟨51,1,⟨[.bool false,.osl 0 (.ci 0) (.op .llen [.va 0]) 7],[.arr 4294967295 [.str,.int .i64,.int .i64,.int .i64,.int .i64,.int .i64,.int .i64] (.va 0)],1,.op .and [.op (.cmp .leq) [.op .llen [.va 0],.ci 400],.app 431 [.va 0]],.ous 1 (.op .llen [.va 1000]) 7,[some (.arr 81 [.str,.int .i64,.int .i64,.int .i64,.int .i64,.int .i64,.int .i64] (.va 1000))],[.app 490 [.va 0]]⟩⟩
def WI:List HC:=[eC,mA,iC,eu,fy,nq,eD,cQ,fM,iG,fJ,fB]
def fH:HC:=⟨102,4,⟨[.agg [.oint .i64 (.va 0),.oint .i64 (.va 1),.oint .i64 (.va 2),.oint .i64 (.va 3)]],[],0,.cb true,.tup [.oint .i64 (.va 1000),.obool (.va 1001)],[],[.app 812 [.va 0,.va 1,.va 2,.va 3],.app 813 [.va 0,.va 1,.va 2,.va 3]]⟩⟩
def nw:HC:=⟨67,5,⟨[.agg [.oint .u8 (.va 0),.oint .i64 (.va 1),.oint .i64 (.va 2),.oint .i64 (.va 3)],.oint .i64 (.va 4)],[],0,.cb true,.ous 0 (.op .llen [.va 1000]) 2,[some (.arr 120 [.int .i64,.int .i64] (.va 1000))],[.app 704 [.va 0,.va 1,.va 2,.va 3,.va 4]]⟩⟩
def Tz:List HC:=[fH,nw]
def fG:HC:=⟨68,1,⟨[.osl 0 (.ci 0) (.op .llen [.va 0]) 1],[.arr 4294967295 [.int .i64] (.va 0)],1,.op (.cmp .leq) [.op .llen [.va 0],.ci 100],.tup [.oint .i64 (.va 1000),.oint .i64 (.va 1001)],[],[.app 842 [.va 0],.app 843 [.va 0]]⟩⟩
def mB:HC:=⟨66,2,⟨[.oint .i64 (.va 0),.osl 0 (.ci 0) (.op .llen [.va 1]) 1],[.arr 4294967295 [.int .i64] (.va 1)],1,.op (.cmp .leq) [.op .llen [.va 1],.ci 100],.tup [.ous 1 (.op .llen [.va 1001]) 2,.oint .i64 (.va 1000)],[some (.arr 146 [.int .i64,.int .i64] (.va 1001))],[.app 825 [.va 0,.va 1],.app 824 [.va 0,.va 1]]⟩⟩
def Tu:List HC:=[fG,mB]
def ip:HC:=⟨50,1,⟨[.osl 0 (.ci 0) (.op .llen [.va 0]) 1],[.arr 4294967295 [.int .i64] (.va 0)],1,.op (.cmp .leq) [.op .llen [.va 0],.ci 100],.tup [.agg [.oint .i64 (.va 1000),.oint .i64 (.va 1001),.oint .i64 (.va 1002),.oint .i64 (.va 1003)],.oint .i64 (.va 1004)],[],[.op .lget [.app 820 [.va 0],.ci 0,.ci 0],.op .lget [.app 820 [.va 0],.ci 0,.ci 1],.op .lget [.app 820 [.va 0],.ci 0,.ci 2],.op .lget [.app 820 [.va 0],.ci 0,.ci 3],.app 843 [.va 0]]⟩⟩
def eq:HC:=⟨47,6,⟨[.agg [.oint .u8 (.va 0),.oint .i64 (.va 1),.oint .i64 (.va 2),.oint .i64 (.va 3)],.osl 0 (.ci 0) (.op .llen [.va 4]) 4,.ostr (.va 5)],[.arr 4294967295 [.int .u8,.str,.int .i64,.int .i64] (.va 4)],1,.op (.cmp .leq) [.op .llen [.va 4],.ci 100],.ous 1 (.op .llen [.va 1000]) 2,[some (.arr 120 [.int .i64,.int .i64] (.va 1000))],[.app 826 [.va 0,.va 1,.va 2,.va 3,.va 4,.va 5]]⟩⟩
def Sb:List HC:=[ip,eq]
def fI:HC:=⟨26,5,⟨[.agg [.oint .u8 (.va 0),.oint .i64 (.va 1),.oint .i64 (.va 2),.oint .i64 (.va 3)],.osl 0 (.ci 0) (.op .llen [.va 4]) 4],[.arr 4294967295 [.int .u8,.str,.int .i64,.int .i64] (.va 4)],1,.op .and [.op (.cmp .leq) [.op .llen [.va 4],.ci 100],.app 840 [.va 0,.va 1,.va 2,.va 3,.va 4]],.tup [.ous 1 (.op .llen [.va 1001]) 7,.obool (.va 1000)],[some (.arr 81 [.str,.int .i64,.int .i64,.int .i64,.int .i64,.int .i64,.int .i64] (.va 1001))],[.app 829 [.va 0,.va 1,.va 2,.va 3,.va 4],.app 828 [.va 0,.va 1,.va 2,.va 3,.va 4]]⟩⟩
def Xl:List HC:=[fI]
def uC:HC:=⟨6,5,⟨[.agg [.oint .u8 (.va 0),.oint .i64 (.va 1),.oint .i64 (.va 2),.oint .i64 (.va 3)],.osl 0 (.ci 0) (.op .llen [.va 4]) 4],[.arr 4294967295 [.int .u8,.str,.int .i64,.int .i64] (.va 4)],1,.op .and [.op (.cmp .leq) [.op .llen [.va 4],.ci 100],.app 838 [.va 0,.va 1,.va 2,.va 3,.va 4]],.tup [.ous 1 (.op .llen [.va 1001]) 7,.oint .i64 (.va 1000)],[some (.arr 81 [.str,.int .i64,.int .i64,.int .i64,.int .i64,.int .i64,.int .i64] (.va 1001))],[.app 834 [.va 0,.va 1,.va 2,.va 3,.va 4],.app 833 [.va 0,.va 1,.va 2,.va 3,.va 4]]⟩⟩
def gX:HC:=⟨5,5,⟨[.agg [.oint .u8 (.va 0),.oint .i64 (.va 1),.oint .i64 (.va 2),.oint .i64 (.va 3)],.osl 0 (.ci 0) (.op .llen [.va 4]) 4],[.arr 4294967295 [.int .u8,.str,.int .i64,.int .i64] (.va 4)],1,.op .and [.op (.cmp .leq) [.op .llen [.va 4],.ci 100],.app 838 [.va 0,.va 1,.va 2,.va 3,.va 4]],.tup [.ous 1 (.op .llen [.va 1001]) 7,.oint .i64 (.va 1000)],[some (.arr 84 [.str,.int .i64,.int .i64,.int .i64,.int .i64,.int .i64,.int .i64] (.va 1001))],[.app 837 [.va 0,.va 1,.va 2,.va 3,.va 4],.app 836 [.va 0,.va 1,.va 2,.va 3,.va 4]]⟩⟩
def Tg:List HC:=[uC,gX]
def bd:HC:=⟨3,5,⟨[.agg [.oint .u8 (.va 0),.oint .i64 (.va 1),.oint .i64 (.va 2),.oint .i64 (.va 3)],.osl 0 (.ci 0) (.op .llen [.va 4]) 4],[.arr 4294967295 [.int .u8,.str,.int .i64,.int .i64] (.va 4)],1,.app 839 [.va 0,.va 1,.va 2,.va 3,.va 4],.obool (.va 1000),[],[.cb true]⟩⟩
def L30:List HC:=[bd]
theorem BV:(Tryz.prog.funcs.toList.all λfn=> !(fn.name== "runtime.NumGoroutine"))=true:=by kernel_rfl
theorem tF: ∃fn:Func,Tryz.prog.funcs[126]? =some fn/\fn.body=none/\Extern.findNext fn=none/\Extern.find fn=some (Ext.mapsClone).model:=
 ⟨_,Tryz.func126,by kernel_rfl,by kernel_rfl,by kernel_rfl⟩
theorem vo: ∃fn:Func,Tryz.prog.funcs[170]? =some fn/\fn.body=none/\Extern.findNext fn=none/\Extern.find fn=some (Ext.overlaps 191 4).model:=
 ⟨_,Tryz.func170,by kernel_rfl,by kernel_rfl,by kernel_rfl⟩
theorem fL(I:Opq)(ae: ∀t,I.fix t=cA Tryz.prog t):kw.Ok I:=by
 refine⟨ae,λf fn h=> ?_,λf e h=> ?_,λ_ _ _ _ h=>(by cases h),λ_ _ _ h=>(by cases h),λ_ _ _ h=>(by cases h),λ_ _ _ _ _ h=>(by cases h)⟩
 .have h1:=k6.1 BV fn (by
   obtain⟨h2,rfl⟩:=P7.1 h;exact Array.mem_toList_iff.2 (Array.getElem_mem h2))
  simpa using h1
 .have h:(bif Nat.beq f 126 then some (.mapsClone)else bif Nat.beq f 170 then some (.overlaps 191 4)else none:Option Ext)=some e:=h;cases hf126:Nat.beq f 126 with
  |true=>
   rw[hf126]at h;obtain rfl:f=126:=by simpa using hf126
   cases h;exact tF
  |false=>
   rw[hf126]at h;simp only[cond_false]at h;cases hf170:Nat.beq f 170 with
   |true=>
    rw[hf170]at h;obtain rfl:f=170:=by simpa using hf170
    cases h;exact vo
   |false=>
    rw[hf170]at h;simp only[cond_false]at h;cases h
theorem vU(I:Opq)(ae: ∀t,I.fix t=cA Tryz.prog t):aV.Ok I:=
 let h:=fL I ae
 ⟨h.fix,h.name,h.ext,h.bin,h.un,h.conv,h.blt⟩
theorem qh(I:Opq)(ae: ∀t,I.fix t=cA Tryz.prog t):iD.Ok I:=
 let h:=fL I ae
 ⟨h.fix,h.name,h.ext,h.bin,h.un,h.conv,h.blt⟩
theorem eJ:Tryz.prog.follows .mixedOrders=true:=by kernel_rfl
noncomputable def H0:List HC:=[]
noncomputable def H1:List HC:=L0++H0
noncomputable def H2:List HC:=L1++H1
noncomputable def H3:List HC:=L2++H2
noncomputable def H4:List HC:=L3++H3
noncomputable def H5:List HC:=L4++H4
noncomputable def H6:List HC:=L5++H5
noncomputable def H7:List HC:=L6++H6
noncomputable def H8:List HC:=L7++H7
noncomputable def H9:List HC:=L8++H8
noncomputable def H10:List HC:=L9++H9
noncomputable def VB:List HC:=SQ++H10
noncomputable def ZK:List HC:=L11++VB
noncomputable def UA:List HC:=Ww++ZK
noncomputable def WP:List HC:=Yt++UA
noncomputable def XT:List HC:=Wx++WP
noncomputable def H16:List HC:=Vj++XT
noncomputable def TK:List HC:=WW++H16
noncomputable def Vn:List HC:=L17++TK
noncomputable def WQ:List HC:=L18++Vn
noncomputable def Tk:List HC:=WB++WQ
noncomputable def Ve:List HC:=SK++Tk
noncomputable def Uz:List HC:=L21++Ve
noncomputable def YO:List HC:=TA++Uz
noncomputable def Sr:List HC:=WH++YO
noncomputable def H25:List HC:=WI++Sr
noncomputable def TZ:List HC:=Tz++H25
noncomputable def Tf:List HC:=Tu++TZ
noncomputable def YW:List HC:=Sb++Tf
noncomputable def TX:List HC:=Xl++YW
noncomputable def H30:List HC:=Tg++TX
def fP:VT:= .both (.ret 0 [.cb true]) (.ret 0 [.cb true])
theorem pu:FC.run kw 1000000 bV.f bV.c bV.c.args=fP:=by kernel_rfl
theorem il:FC.run (aV.hooks H2) 1000000 aW.f aW.c dV=S9.T_evRight0:=by kernel_rfl
theorem iW:FC.run (aV.hooks H2) 1000000 aW.f aW.c dZ=S9.T_evRight1:=by kernel_rfl
theorem ii:FC.run (aV.hooks H2) 1000000 aW.f aW.c dX=S9.T_evRight2:=by kernel_rfl
def Om(I:Opq):Prop:=Lc F Tryz.prog I
theorem bw(I:Opq)(v0:Nat)(l:List Val)(h:Om I):Om (I.upd v0 l):=h
theorem aR{I:Opq}(h:Om I): ∀i a,I.f i a=F i a:=λi a=>by rw[h.1]
theorem wc(I:Opq)(h:Om I):aV.Ok I:=vU I h.2
theorem AZ(I:Opq)(h:Om I):kw.Ok I:=fL I h.2
theorem Ab(I:Opq)(h:Om I):iD.Ok I:=qh I h.2
theorem gu{O:aQ}{I:Opq}{us:List Value}{k:IntKind}{n:Nat}{i:Int}{r:List AV}(h:(I.w n).toI=i)(hv:aT O I [.agg (.oint k (.va n)::r)] us):aT O I [.agg (.int k i::r)] us:=by
 obtain⟨v,vr,e,⟨xs,e2,u,ur,e3,p1,p2⟩,q⟩:=hv;refine⟨v,vr,e,⟨xs,e2,u,ur,e3,?_,p2⟩,q⟩;show u= .int k i;rw[<-h];exact p1
theorem rn{cs:List HC}{x:HC}{T:VT}(hc: ∀x∈cs,V3 aV Om x)(ho:ot x.c x.nv=true)(r:FC.run (aV.hooks cs) 1000000 x.f x.c x.c.args=T)(m: ∀I,Om I->dB I x.c.need=true->R0 T I=some (0,R7 I x.c.outs)):V3 aV Om x:=IY (E:=aV) (cs:=cs) bw wc eJ hc (n:=1000000) ho (cj5 r m)
theorem fn{T:VT}{I:Opq}{l q:List Val}(h:R0 T I=some (0,l))(e:l=q):R0 T I=some (0,q):=e▸h
theorem Dd: ∀x∈H0,V3 aV Om x:=λx hx=>by cases hx
theorem qk:V3 aV Om bV:=
 IY (E:=kw) (cs:=[]) bw AZ eJ (λx hx=>by cases hx) (n:=1000000) (by kernel_rfl) (cj5 (T:=fP) pu λI ae hn=>by
  exact(S9.allT_ok (t:=fP) (by kernel_rfl)).trans (by simp only[bV,R7,aM]))
theorem Ci: ∀x∈L0,V3 aV Om x:=by
 exact T8 (λx hx=>(by cases hx)) qk
theorem Br: ∀x∈H1,V3 aV Om x:=Z5 Dd Ci
theorem BL: ∀x∈L1,V3 aV Om x:=by
 exactλx hx=>(by cases hx)
theorem bZ: ∀x∈H2,V3 aV Om x:=Z5 Br BL
theorem lV:V3 aV Om eA:=
 rn (T:=S9.T_wRight) bZ (by kernel_rfl) (by kernel_rfl) (λI ae hn=>by
  exact fn (S9.t_wRight) (by simp only[eA,R7,aM,W7,aR ae]<;>rfl))
theorem jM:V3 aV Om aW:=
 IY (E:=aV) (cs:=H2) bw wc eJ bZ (n:=1000000) (by kernel_rfl) (λI ae hn=>by
  by_cases hk:(I.w 0).toI=1\/(I.w 0).toI=2
  .rcases hk with e|e
   .exact⟨dZ,λO us h=>gu e h,by rw[iW];exact fn (S9.t_evRight1 (X:=S9.FE F0) e) (by simp only[aW,R7,aM,W7,aR ae]<;>rfl)⟩
   .exact⟨dX,λO us h=>gu e h,by rw[ii];exact fn (S9.t_evRight2 (X:=S9.FE F0) e) (by simp only[aW,R7,aM,W7,aR ae]<;>rfl)⟩
  .exact⟨dV,λO us h=>h,by rw[il];exact fn (S9.t_evRight0 (X:=S9.FE F0) (by omega)) (by simp only[aW,R7,aM,W7,aR ae]<;>rfl)⟩)
theorem mH:V3 aV Om eo:=
 rn (T:=S9.T_numSum) bZ (by kernel_rfl) (by kernel_rfl) (λI ae hn=>by
  have hn:decide (((I.w 0).toL.length:Int)<=1000000)=true:=hn;have hn:=j6 hn;exact fn (S9.t_numSum (aR ae) (by omega)) (by simp only[eo,R7,aM,W7,aR ae]<;>rfl))
theorem sT:V3 aV Om iI:=
 rn (T:=S9.T_down) bZ (by kernel_rfl) (by kernel_rfl) (λI ae hn=>by
  have hn:((decide (1<=(I.w 1).toI)&&decide ((I.w 1).toI<=1048576))&&(decide (-1099511627776<=(I.w 0).toI)&&decide ((I.w 0).toI<=1099511627776)))=true:=hn;obtain⟨h1,h2⟩:=Q8 hn;obtain⟨h3,h4⟩:=Q8 h1;obtain⟨h5,h6⟩:=Q8 h2;exact fn (S9.t_down (j6 h3) (j6 h4) (j6 h5) (j6 h6)) (by simp only[iI,R7,aM,W7,aR ae]<;>rfl))
theorem mi:V3 aV Om ej:=
 rn (T:=S9.T_sRight) bZ (by kernel_rfl) (by kernel_rfl) (λI ae hn=>by
  exact fn (S9.t_sRight (aR ae) hn) (by simp only[ej,R7,aM,W7,aR ae]<;>rfl))
theorem jJ:V3 aV Om fR:=
 rn (T:=S9.T_spanP) bZ (by kernel_rfl) (by kernel_rfl) (λI ae hn=>by
  exact fn (S9.t_spanP) (by simp only[fR,R7,aM,W7,aR ae]<;>rfl))
noncomputable def bq(n:Nat):Bool:=(List.range (n+1)).all λj=>CI iD 1000000 150 192 (gy 192 (.app 713 [.va 0,.va 1,.va 2,.va 3,.va 4]) (.app 714 [.va 0,.va 1,.va 2,.va 3,.va 4])) [.us 1 0 n 2,.int .i64 (j:Int),.sl 0 0 1 1] n j
theorem dw{P:Nat->Prop}{n:Nat}(h: ∀i,i<n->P i)(hn:P n): ∀i,i<n+1->P i:=λi hi=>by
 by_cases c:i<n
 .exact h i c
 .obtain rfl:i=n:=by omega
  exact hn
theorem vP:CI iD 1000000 150 192 (gy 192 (.app 713 [.va 0,.va 1,.va 2,.va 3,.va 4]) (.app 714 [.va 0,.va 1,.va 2,.va 3,.va 4])) [.nils,.int .i64 0,.sl 0 0 1 1] 0 0=true:=by kernel_rfl
theorem Bc:bq 0=true:=by kernel_rfl
theorem Bf:bq 1=true:=by kernel_rfl
theorem CZ:bq 2=true:=by kernel_rfl
theorem AX:bq 3=true:=by kernel_rfl
theorem CF:bq 4=true:=by kernel_rfl
theorem AQ:bq 5=true:=by kernel_rfl
theorem AF:bq 6=true:=by kernel_rfl
theorem BC:bq 7=true:=by kernel_rfl
theorem AO:bq 8=true:=by kernel_rfl
theorem Bs:bq 9=true:=by kernel_rfl
theorem vE:bq 10=true:=by kernel_rfl
theorem tK:bq 11=true:=by kernel_rfl
theorem uX:bq 12=true:=by kernel_rfl
theorem um:bq 13=true:=by kernel_rfl
theorem vS:bq 14=true:=by kernel_rfl
theorem sh:bq 15=true:=by kernel_rfl
theorem sQ:bq 16=true:=by kernel_rfl
theorem uO:bq 17=true:=by kernel_rfl
theorem uT:bq 18=true:=by kernel_rfl
theorem sr:bq 19=true:=by kernel_rfl
theorem vW:bq 20=true:=by kernel_rfl
theorem vT:bq 21=true:=by kernel_rfl
theorem tW:bq 22=true:=by kernel_rfl
theorem vC:bq 23=true:=by kernel_rfl
theorem uf:bq 24=true:=by kernel_rfl
theorem mb:TN iD 1000000 150 192 (gy 192 (.app 713 [.va 0,.va 1,.va 2,.va 3,.va 4]) (.app 714 [.va 0,.va 1,.va 2,.va 3,.va 4])) 24=true:=
 Bool.and_eq_true_iff.2 ⟨vP,k6.2 λn hn=>(dw (dw (dw (dw (dw (dw (dw (dw (dw (dw (dw (dw (dw (dw (dw (dw (dw (dw (dw (dw (dw (dw (dw (dw (dw (λi hi=>absurd hi (N3 i)) Bc) Bf) CZ) AX) CF) AQ) AF) BC) AO) Bs) vE) tK) uX) um) vS) sh) sQ) uO) uT) sr) vW) vT) tW) vC) uf: ∀i,i<24+1->bq i=true) n (m8.1 hn)⟩
theorem sw:V3 aV Om ny:=
 (HM (E:=aV) bw (nv:=5) (by kernel_rfl) (d65 (E:=aV) (Ec:=iD) (N:=1000000) (M:=24) (f:=150) (e:=192) rfl (λI ae=>((OK (E:=iD) bw Ab (λI ae=>bz6 λ_ _ _=>rfl) eJ 1000000 I ae).1 _ (i6 _)).1) (by decide) (λI ae=>(ae.2 192).trans (by kernel_rfl)) mb (λI ae hn=>S9.sins_ok (aR ae) hn)):V3 aV Om ⟨150,5,(gy 192 (.app 713 [.va 0,.va 1,.va 2,.va 3,.va 4]) (.app 714 [.va 0,.va 1,.va 2,.va 3,.va 4]))⟩)
def pT:Go.Shelf.Ren:=⟨λ|6=>151|15=>108|14=>172|28=>135|29=>136|20=>177|21=>178|22=>179|23=>180|24=>181|25=>182|26=>183|27=>184|46=>187|47=>158|48=>159|49=>188|50=>189|57=>190|n=>n,λ|22=>191|24=>192|25=>228|3=>3|39=>180|0=>0|53=>212|55=>61|4=>4|46=>205|45=>204|50=>209|5=>5|9=>9|66=>235|70=>238|76=>250|77=>251|n=>n,λ|n=>n⟩
theorem mL:Go.Proofs.SlLaysF0.n6 Tryz.prog pT:={
 mixed:=by kernel_rfl
 f6:=⟨Tryz.f151.name,by decide,Tryz.func151.trans (congrArg some (by kernel_rfl))⟩
 f14:=⟨Tryz.f172.name,by decide,Tryz.func172.trans (congrArg some (by kernel_rfl))⟩
 f15:=Tryz.func108.trans (congrArg some (by kernel_rfl))
 f20:=⟨Tryz.f177.name,by decide,Tryz.func177.trans (congrArg some (by kernel_rfl))⟩
 f21:=⟨Tryz.f178.name,by decide,Tryz.func178.trans (congrArg some (by kernel_rfl))⟩
 f22:=⟨Tryz.f179.name,by decide,Tryz.func179.trans (congrArg some (by kernel_rfl))⟩
 f23:=⟨Tryz.f180.name,by decide,Tryz.func180.trans (congrArg some (by kernel_rfl))⟩
 f24:=⟨Tryz.f181.name,by decide,Tryz.func181.trans (congrArg some (by kernel_rfl))⟩
 f25:=⟨Tryz.f182.name,by decide,Tryz.func182.trans (congrArg some (by kernel_rfl))⟩
 f26:=⟨Tryz.f183.name,by decide,Tryz.func183.trans (congrArg some (by kernel_rfl))⟩
 f27:=⟨Tryz.f184.name,by decide,Tryz.func184.trans (congrArg some (by kernel_rfl))⟩
 f28:=Tryz.func135.trans (congrArg some (by kernel_rfl))
 f29:=Tryz.func136.trans (congrArg some (by kernel_rfl))
 f46:=⟨Tryz.f187.name,by decide,Tryz.func187.trans (congrArg some (by kernel_rfl))⟩
 f47:=Tryz.func158.trans (congrArg some (by kernel_rfl))
 f48:=Tryz.func159.trans (congrArg some (by kernel_rfl))
 f49:=⟨Tryz.f188.name,by decide,Tryz.func188.trans (congrArg some (by kernel_rfl))⟩
 f50:=⟨Tryz.f189.name,by decide,Tryz.func189.trans (congrArg some (by kernel_rfl))⟩
 f57:=⟨Tryz.f190.name,by decide,Tryz.func190.trans (congrArg some (by kernel_rfl))⟩
 t0:=Tryz.underlying0
 a0:=Tryz.isAgg0
 z0:=Tryz.sizeOf0
 v0:=Tryz.zeroValue0
 t3:=Tryz.underlying3
 a3:=Tryz.isAgg3
 z3:=Tryz.sizeOf3
 v3:=Tryz.zeroValue3
 t4:=Tryz.underlying4
 a4:=Tryz.isAgg4
 z4:=Tryz.sizeOf4
 v4:=Tryz.zeroValue4
 t5:=Tryz.underlying5
 a5:=Tryz.isAgg5
 z5:=Tryz.sizeOf5
 v5:=Tryz.zeroValue5
 t9:=Tryz.underlying9
 a9:=Tryz.isAgg9
 z9:=Tryz.sizeOf9
 v9:=Tryz.zeroValue9
 t22:=Tryz.underlying191
 a22:=Tryz.isAgg191
 z22:=Tryz.sizeOf191
 v22:=Tryz.zeroValue191
 t25:=Tryz.underlying228
 a25:=Tryz.isAgg228
 z25:=Tryz.sizeOf228
 v25:=Tryz.zeroValue228
 t39:=Tryz.underlying180
 a39:=Tryz.isAgg180
 z39:=Tryz.sizeOf180
 v39:=Tryz.zeroValue180
 t45:=Tryz.underlying204
 a45:=Tryz.isAgg204
 z45:=Tryz.sizeOf204
 v45:=Tryz.zeroValue204
 t46:=Tryz.underlying205
 a46:=Tryz.isAgg205
 z46:=Tryz.sizeOf205
 v46:=Tryz.zeroValue205
 t50:=Tryz.underlying209
 a50:=Tryz.isAgg209
 z50:=Tryz.sizeOf209
 v50:=Tryz.zeroValue209
 t53:=Tryz.underlying212
 a53:=Tryz.isAgg212
 z53:=Tryz.sizeOf212
 v53:=Tryz.zeroValue212
 t55:=Tryz.underlying61
 a55:=Tryz.isAgg61
 z55:=Tryz.sizeOf61
 v55:=Tryz.zeroValue61
 t66:=Tryz.underlying235
 a66:=Tryz.isAgg235
 z66:=Tryz.sizeOf235
 v66:=Tryz.zeroValue235
 t70:=Tryz.underlying238
 a70:=Tryz.isAgg238
 z70:=Tryz.sizeOf238
 v70:=Tryz.zeroValue238
 t76:=Tryz.underlying250
 a76:=Tryz.isAgg250
 z76:=Tryz.sizeOf250
 v76:=Tryz.zeroValue250
 t77:=Tryz.underlying251
 a77:=Tryz.isAgg251
 z77:=Tryz.sizeOf251
 v77:=Tryz.zeroValue251}
noncomputable def om0:Opq:=⟨ax.v,ax.w,F,ax.one,cA Tryz.prog,λ_=>none⟩
theorem vJ(G:Nat->List Val->Val)(P:Program):Lc G P ⟨ax.v,ax.w,G,ax.one,cA P,λ_=>none⟩:=⟨rfl,λ_=>rfl⟩
theorem sK:Om om0:=vJ F Tryz.prog
theorem Bu:IS Tryz.prog 152 [.int .i64,.int .i64] S9.spanV:=
 ds4 (E:=aV) bw sK jJ (x:= .app 712 [.va 0,.va 1,.va 2,.va 3]) (h2:=Heap.empty) (by kernel_rfl) (λI ae a b ha hb=>by
  have a0:I.w 0=a.toL.getD 0 default:=ha 0 (by decide);have a1:I.w 1=a.toL.getD 1 default:=ha 1 (by decide);have b0:I.w 2=b.toL.getD 0 default:=hb 0 (by decide);have b1:I.w 3=b.toL.getD 1 default:=hb 1 (by decide);show(I.f 712 [I.w 0,I.w 1,I.w 2,I.w 3]).toI=_;rw[aR ae,a0,a1,b0,b1];rfl)
theorem jv:V3 aV Om jq:=
 (HM (E:=aV) bw (nv:=2) (by kernel_rfl) (d59 (E:=aV) mL (f:=151) rfl (g:=152) (sig:=[.int .i64,.int .i64]) (e:=192) (id:=715) (cf:=S9.spanV) Tryz.isAgg192 Tryz.sizeOf192 S9.swo_spanV (enters_of Tryz.func152 (by kernel_rfl) rfl) Bu (λI ae l=>by rw[aR ae];rfl) (by kernel_rfl)):V3 aV Om ⟨151,2,CW 152 192 [.int .i64,.int .i64] 715⟩)
theorem mD:V3 aV Om cD:=
 (HM (E:=aV) bw (nv:=2) (by kernel_rfl) (d61 bw jv (g:=152) (e:=192) (sig:=[.int .i64,.int .i64]) (need:=cD.c.need) (id:=715) (by kernel_rfl) (by kernel_rfl) (λI ae hn=>S9.sortsb_ok (aR ae) hn) (by kernel_rfl)):V3 aV Om ⟨151,2,IB 152 192 [.int .i64,.int .i64] cD.c.need 715⟩)
theorem lW:V3 aV Om ep:=
 rn (T:=IT) bZ (by kernel_rfl) (by kernel_rfl) (λI ae hn=>by
  have hn:(decide (((I.w 0).toL.length:Int)<=400)&&(I.f 431 [I.w 0]).toB)=true:=hn;obtain⟨h1,h2⟩:=Q8 hn;rw[aR ae]at h2;exact(S7.t_cloneR (aR ae) (by have:=j6 h1;omega) h2).trans (by simp only[ep,R7,aM,aR ae]))
theorem pb:V3 aV Om fw:=
 rn (T:=RN) bZ (by kernel_rfl) (by kernel_rfl) (λI ae hn=>by
  have hn:(I.f 420 [I.w 0,I.w 1,I.w 2,I.w 3,I.w 4]).toB=true:=hn;rw[aR ae]at hn;exact(S7.t_swapR (aR ae) hn).trans (by simp only[fw,R7,aM,aR ae]))
theorem wp:V3 aV Om jd:=
 rn (T:=FX) bZ (by kernel_rfl) (by kernel_rfl) (λI ae hn=>by
  exact S7.t_cmpR.trans (by simp only[jd,R7,aM,aR ae]))
theorem BW: ∀x∈L2,V3 aV Om x:=by
 exact T8 (T8 (T8 (T8 (T8 (T8 (T8 (T8 (T8 (T8 (T8 (T8 (λx hx=>(by cases hx)) wp) pb) lW) mD) jv) sw) jJ) mi) sT) mH) jM) lV
theorem gC: ∀x∈H3,V3 aV Om x:=Z5 bZ BW
theorem vw:V3 aV Om io:=
 rn (T:=Sx) gC (by kernel_rfl) (by kernel_rfl) (λI ae hn=>by
  have hn:(I.f 422 [I.w 0,I.w 1,I.w 2,I.w 3,I.w 4]).toB=true:=hn;rw[aR ae]at hn;exact(S7.t_rotC (aR ae) hn).trans (by simp only[io,R7,aM,aR ae]))
theorem Af:V3 aV Om nu:=
 rn (T:=S9.T_wOf) gC (by kernel_rfl) (by kernel_rfl) (λI ae hn=>by
  exact fn (S9.t_wOf (aR ae)) (by simp only[nu,R7,aM,W7,aR ae]<;>rfl))
theorem tn:V3 aV Om jc:=
 rn (T:=S9.T_join) gC (by kernel_rfl) (by kernel_rfl) (λI ae hn=>by
  have hn:decide (((I.w 0).toL.length:Int)<=1000)=true:=hn;have hn:=j6 hn;exact fn (S9.t_join (aR ae) (by omega)) (by simp only[jc,R7,aM,W7,aR ae]<;>rfl))
theorem km:V3 aV Om cP:=
 rn (T:=S9.T_sinsert) gC (by kernel_rfl) (by kernel_rfl) (λI ae hn=>by
  exact fn (S9.t_sinsert (aR ae) hn) (by simp only[cP,R7,aM,W7,aR ae]<;>rfl))
theorem Cz: ∀x∈L3,V3 aV Om x:=by
 exact T8 (T8 (T8 (T8 (λx hx=>(by cases hx)) km) tn) Af) vw
theorem js: ∀x∈H4,V3 aV Om x:=Z5 gC Cz
theorem vF:V3 aV Om iE:=
 rn (T:=ZE) js (by kernel_rfl) (by kernel_rfl) (λI ae hn=>by
  have hn:(I.f 424 [I.w 0,I.w 1,I.w 2,I.w 3]).toB=true:=hn;rw[aR ae]at hn;exact(S7.t_insC (aR ae) hn).trans (by simp only[iE,R7,aM,aR ae]))
theorem ub:V3 aV Om mX:=
 IY (E:=aV) (cs:=H4) bw wc eJ js (n:=1000000) (by kernel_rfl) (λI ae hn=>by
  have hn:(I.f 426 [I.w 0,I.w 1,I.w 2,I.w 3,I.w 4,.vi 1]).toB=true:=hn;rw[aR ae]at hn;exact(S7.sym_vac hn).elim)
theorem tc:V3 aV Om ig:=
 rn (T:=S9.T_aput) js (by kernel_rfl) (by kernel_rfl) (λI ae hn=>by
  exact fn (S9.t_aput (aR ae)) (by simp only[ig,R7,aM,W7,aR ae]<;>rfl))
theorem BA: ∀x∈L4,V3 aV Om x:=by
 exact T8 (T8 (T8 (λx hx=>(by cases hx)) tc) ub) vF
theorem sa: ∀x∈H5,V3 aV Om x:=Z5 js BA
theorem uu:V3 aV Om ib:=
 rn (T:=lJ 1) sa (by kernel_rfl) (by kernel_rfl) (λI ae hn=>by
  have hn:(I.f 426 [I.w 0,I.w 1,I.w 2,I.w 3,I.w 4,.vi 2]).toB=true:=hn;rw[aR ae]at hn;exact(S7.t_sym (B:=1) (aR ae) hn).trans (by simp only[ib,R7,aM,aR ae]))
theorem Dh: ∀x∈L5,V3 aV Om x:=by
 exact T8 (λx hx=>(by cases hx)) uu
theorem qG: ∀x∈H6,V3 aV Om x:=Z5 sa Dh
theorem ud:V3 aV Om iS:=
 rn (T:=lJ 2) qG (by kernel_rfl) (by kernel_rfl) (λI ae hn=>by
  have hn:(I.f 426 [I.w 0,I.w 1,I.w 2,I.w 3,I.w 4,.vi 4]).toB=true:=hn;rw[aR ae]at hn;exact(S7.t_sym (B:=2) (aR ae) hn).trans (by simp only[iS,R7,aM,aR ae]))
theorem Ax: ∀x∈L6,V3 aV Om x:=by
 exact T8 (λx hx=>(by cases hx)) ud
theorem qN: ∀x∈H7,V3 aV Om x:=Z5 qG Ax
theorem sC:V3 aV Om ia:=
 rn (T:=lJ 4) qN (by kernel_rfl) (by kernel_rfl) (λI ae hn=>by
  have hn:(I.f 426 [I.w 0,I.w 1,I.w 2,I.w 3,I.w 4,.vi 8]).toB=true:=hn;rw[aR ae]at hn;exact(S7.t_sym (B:=4) (aR ae) hn).trans (by simp only[ia,R7,aM,aR ae]))
theorem AK: ∀x∈L7,V3 aV Om x:=by
 exact T8 (λx hx=>(by cases hx)) sC
theorem qC: ∀x∈H8,V3 aV Om x:=Z5 qN AK
theorem uy:V3 aV Om iA:=
 rn (T:=lJ 8) qC (by kernel_rfl) (by kernel_rfl) (λI ae hn=>by
  have hn:(I.f 426 [I.w 0,I.w 1,I.w 2,I.w 3,I.w 4,.vi 16]).toB=true:=hn;rw[aR ae]at hn;exact(S7.t_sym (B:=8) (aR ae) hn).trans (by simp only[iA,R7,aM,aR ae]))
theorem BP: ∀x∈L8,V3 aV Om x:=by
 exact T8 (λx hx=>(by cases hx)) uy
theorem rq: ∀x∈H9,V3 aV Om x:=Z5 qC BP
theorem ue:V3 aV Om im:=
 rn (T:=lJ 16) rq (by kernel_rfl) (by kernel_rfl) (λI ae hn=>by
  have hn:(I.f 426 [I.w 0,I.w 1,I.w 2,I.w 3,I.w 4,.vi 32]).toB=true:=hn;rw[aR ae]at hn;exact(S7.t_sym (B:=16) (aR ae) hn).trans (by simp only[im,R7,aM,aR ae]))
theorem BG: ∀x∈L9,V3 aV Om x:=by
 exact T8 (λx hx=>(by cases hx)) ue
theorem mP: ∀x∈H10,V3 aV Om x:=Z5 rq BG
theorem sf:V3 aV Om iH:=
 rn (T:=lJ 32) mP (by kernel_rfl) (by kernel_rfl) (λI ae hn=>by
  have hn:(I.f 426 [I.w 0,I.w 1,I.w 2,I.w 3,I.w 4,.vi 64]).toB=true:=hn;rw[aR ae]at hn;exact(S7.t_sym (B:=32) (aR ae) hn).trans (by simp only[iH,R7,aM,aR ae]))
theorem vG: ∀x∈SQ,V3 aV Om x:=by
 exact T8 (λx hx=>(by cases hx)) sf
theorem lw: ∀x∈VB,V3 aV Om x:=Z5 mP vG
theorem vn:V3 aV Om gZ:=
 rn (T:=lJ 64) lw (by kernel_rfl) (by kernel_rfl) (λI ae hn=>by
  have hn:(I.f 426 [I.w 0,I.w 1,I.w 2,I.w 3,I.w 4,.vi 128]).toB=true:=hn;rw[aR ae]at hn;exact(S7.t_sym (B:=64) (aR ae) hn).trans (by simp only[gZ,R7,aM,aR ae]))
theorem tq: ∀x∈L11,V3 aV Om x:=by
 exact T8 (λx hx=>(by cases hx)) vn
theorem nj: ∀x∈ZK,V3 aV Om x:=Z5 lw tq
theorem uN:V3 aV Om ja:=
 rn (T:=lJ 128) nj (by kernel_rfl) (by kernel_rfl) (λI ae hn=>by
  have hn:(I.f 426 [I.w 0,I.w 1,I.w 2,I.w 3,I.w 4,.vi 256]).toB=true:=hn;rw[aR ae]at hn;exact(S7.t_sym (B:=128) (aR ae) hn).trans (by simp only[ja,R7,aM,aR ae]))
theorem wn: ∀x∈Ww,V3 aV Om x:=by
 exact T8 (λx hx=>(by cases hx)) uN
theorem lu: ∀x∈UA,V3 aV Om x:=Z5 nj wn
theorem wt:V3 aV Om iY:=
 rn (T:=lJ 256) lu (by kernel_rfl) (by kernel_rfl) (λI ae hn=>by
  have hn:(I.f 426 [I.w 0,I.w 1,I.w 2,I.w 3,I.w 4,.vi 512]).toB=true:=hn;rw[aR ae]at hn;exact(S7.t_sym (B:=256) (aR ae) hn).trans (by simp only[iY,R7,aM,aR ae]))
theorem ua: ∀x∈Yt,V3 aV Om x:=by
 exact T8 (λx hx=>(by cases hx)) wt
theorem mZ: ∀x∈WP,V3 aV Om x:=Z5 lu ua
theorem uD:V3 aV Om gY:=
 rn (T:=VV) mZ (by kernel_rfl) (by kernel_rfl) (λI ae hn=>by
  have hn:(I.f 428 [I.w 0,I.w 1,I.w 2]).toB=true:=hn;rw[aR ae]at hn;exact(S7.t_stab (aR ae) hn).trans (by simp only[gY,R7,aM,aR ae]))
theorem tj: ∀x∈Wx,V3 aV Om x:=by
 exact T8 (λx hx=>(by cases hx)) uD
theorem mW: ∀x∈XT,V3 aV Om x:=Z5 mZ tj
theorem po:V3 aV Om fE:=
 rn (T:=Xv) mW (by kernel_rfl) (by kernel_rfl) (λI ae hn=>by
  have hn:(decide (((I.w 0).toL.length:Int)<=400)&&(I.f 431 [I.w 0]).toB)=true:=hn;obtain⟨h1,h2⟩:=Q8 hn;rw[aR ae]at h2;exact(S7.t_sstab (aR ae) (by have:=j6 h1;omega) h2).trans (by simp only[fE,R7,aM,W7,aR ae]))
theorem tN: ∀x∈Vj,V3 aV Om x:=by
 exact T8 (λx hx=>(by cases hx)) po
theorem lQ: ∀x∈H16,V3 aV Om x:=Z5 mW tN
theorem fj:V3 aV Om bU:=
 rn (T:=Tn) lQ (by kernel_rfl) (by kernel_rfl) (λI ae hn=>by
  have hn:(decide (((I.w 0).toL.length:Int)<=400)&&(I.f 431 [I.w 0]).toB)=true:=hn;obtain⟨h1,h2⟩:=Q8 hn;rw[aR ae]at h2;exact(S7.t_aggSort (aR ae) (by have:=j6 h1;omega) h2).trans (by simp only[bU,R7,aM,aR ae]))
theorem iu:V3 aV Om cw:=
 (HM (E:=aV) bw (nv:=2) (by kernel_rfl) (d60 bw fj (e:=84) (sig:=[.str,.int .i64,.int .i64,.int .i64,.int .i64,.int .i64,.int .i64]) (id:=490) (by kernel_rfl) (λI ae hn=>dz9 (aR ae) hn) (by kernel_rfl)):V3 aV Om ⟨bU.f,2,yO 84 [.str,.int .i64,.int .i64,.int .i64,.int .i64,.int .i64,.int .i64] cw.c.need 490⟩)
theorem vO: ∀x∈WW,V3 aV Om x:=by
 exact T8 (T8 (λx hx=>(by cases hx)) iu) fj
theorem iw: ∀x∈TK,V3 aV Om x:=Z5 lQ vO
theorem ql:V3 aV Om fK:=
 rn (T:=S9.T_trows) iw (by kernel_rfl) (by kernel_rfl) (λI ae hn=>by
  exact fn (S9.t_trows (aR ae) (λv h=>Ki h) hn) (by simp only[fK,R7,aM,W7,aR ae]<;>rfl))
theorem oV:V3 aV Om fS:=
 rn (T:=S9.T_tsess) iw (by kernel_rfl) (by kernel_rfl) (λI ae hn=>by
  exact fn (S9.t_tsess (aR ae) dR9 hn) (by simp only[fS,R7,aM,W7,aR ae]<;>rfl))
theorem tT: ∀x∈L17,V3 aV Om x:=by
 exact T8 (T8 (λx hx=>(by cases hx)) oV) ql
theorem iK: ∀x∈Vn,V3 aV Om x:=Z5 iw tT
theorem mv:V3 aV Om eE:=
 rn (T:=S9.T_joined) iK (by kernel_rfl) (by kernel_rfl) (λI ae hn=>by
  exact fn (S9.t_joined (aR ae) hn) (by simp only[eE,R7,aM,W7,aR ae]<;>rfl))
theorem pg:V3 aV Om fN:=
 rn (T:=S9.T_fired) iK (by kernel_rfl) (by kernel_rfl) (λI ae hn=>by
  have hn:((decide (((I.w 4).toL.length:Int)<=400)&&(I.f 431 [I.w 4]).toB)&&(I.f 491 [I.w 4]).toB)=true:=hn;obtain⟨hn,h3⟩:=Q8 hn;obtain⟨h1,h2⟩:=Q8 hn;rw[aR ae]at h2 h3;have h1:=j6 h1;exact fn (S9.c_fired (aR ae) (by omega) h2 h3) (by simp only[fN,R7,aM,W7,aR ae]<;>rfl))
theorem uq: ∀x∈L18,V3 aV Om x:=by
 exact T8 (T8 (λx hx=>(by cases hx)) pg) mv
theorem ll: ∀x∈WQ,V3 aV Om x:=Z5 iK uq
theorem sj:V3 aV Om iQ:=
 rn (T:=S9.T_sess) ll (by kernel_rfl) (by kernel_rfl) (λI ae hn=>by
  exact fn (S9.t_sess (aR ae) hn) (by simp only[iQ,R7,aM,W7,aR ae]<;>rfl))
theorem uW: ∀x∈WB,V3 aV Om x:=by
 exact T8 (λx hx=>(by cases hx)) sj
theorem ng: ∀x∈Tk,V3 aV Om x:=Z5 ll uW
theorem Au:V3 aV Om mT:=
 rn (T:=S9.T_tryE) ng (by kernel_rfl) (by kernel_rfl) (λI ae hn=>by
  exact fn (S9.t_tryE (aR ae) S9.fe_x.x431 hn) (by simp only[mT,R7,aM,W7,aR ae]<;>rfl))
theorem tg: ∀x∈SK,V3 aV Om x:=by
 exact T8 (λx hx=>(by cases hx)) Au
theorem lE: ∀x∈Ve,V3 aV Om x:=Z5 ng tg
theorem zZ:V3 aV Om mf:=
 rn (T:=S9.T_put) lE (by kernel_rfl) (by kernel_rfl) (λI ae hn=>by
  exact fn (S9.put_t (aR ae) hn) (by simp only[mf,R7,aM,W7,aR ae]<;>rfl))
theorem tI: ∀x∈L21,V3 aV Om x:=by
 exact T8 (λx hx=>(by cases hx)) zZ
theorem wk: ∀x∈Uz,V3 aV Om x:=Z5 lE tI
theorem uV: ∀x∈TA,V3 aV Om x:=by
 exactλx hx=>(by cases hx)
theorem uG: ∀x∈YO,V3 aV Om x:=Z5 wk uV
theorem th: ∀x∈WH,V3 aV Om x:=by
 exactλx hx=>(by cases hx)
theorem bn: ∀x∈Sr,V3 aV Om x:=Z5 uG th
theorem lC:V3 aV Om eC:=
 rn (T:=S9.T_rRight) bn (by kernel_rfl) (by kernel_rfl) (λI ae hn=>by
  exact fn (S9.c_rRight) (by simp only[eC,R7,aM,W7,aR ae]<;>rfl))
theorem AS:V3 aV Om mA:=
 rn (T:=S9.T_rev) bn (by kernel_rfl) (by kernel_rfl) (λI ae hn=>by
  exact fn (S9.c_rev) (by simp only[mA,R7,aM,W7,aR ae]<;>rfl))
theorem tE:V3 aV Om iC:=
 rn (T:=S9.T_r3of) bn (by kernel_rfl) (by kernel_rfl) (λI ae hn=>by
  exact fn (S9.c_r3of) (by simp only[iC,R7,aM,W7,aR ae]<;>rfl))
theorem mU:V3 aV Om eu:=
 rn (T:=S9.T_r3plus) bn (by kernel_rfl) (by kernel_rfl) (λI ae hn=>by
  exact fn (S9.c_r3plus) (by simp only[eu,R7,aM,W7,aR ae]<;>rfl))
theorem pQ:V3 aV Om fy:=
 rn (T:=S9.T_sameV) bn (by kernel_rfl) (by kernel_rfl) (λI ae hn=>by
  have hn:decide (((I.w 0).toL.length:Int)<=1000000)=true:=hn;have hn:=j6 hn;exact fn (df4 (aR ae) (by omega)) (by simp only[fy,R7,aM,W7,aR ae]<;>rfl))
theorem CO:V3 aV Om nq:=
 rn (T:=S9.T_has) bn (by kernel_rfl) (by kernel_rfl) (λI ae hn=>by
  have hn:decide (((I.w 0).toL.length:Int)<=1000000)=true:=hn;have hn:=j6 hn;exact fn (S9.c_has (aR ae) (by omega)) (by simp only[nq,R7,aM,W7,aR ae]<;>rfl))
theorem lK:V3 aV Om eD:=
 rn (T:=S9.T_rFired) bn (by kernel_rfl) (by kernel_rfl) (λI ae hn=>by
  have hn:(decide (((I.w 0).toL.length:Int)<=400)&&(I.f 431 [I.w 0]).toB)=true:=hn;obtain⟨h1,h2⟩:=Q8 hn;rw[aR ae]at h2;have h1:=j6 h1;exact fn (S9.c_rFired (aR ae) (by omega)) (by simp only[eD,R7,aM,W7,aR ae]<;>rfl))
theorem jX:V3 aV Om cQ:=
 rn (T:=S9.T_rEvents) bn (by kernel_rfl) (by kernel_rfl) (λI ae hn=>by
  have hn:decide (((I.w 0).toL.length:Int)<=100)=true:=hn;have hn:=j6 hn;exact fn (S9.c_rEvents (aR ae) (by omega)) (by simp only[cQ,R7,aM,W7,aR ae]<;>rfl))
theorem ph:V3 aV Om fM:=
 rn (T:=S9.T_rMark) bn (by kernel_rfl) (by kernel_rfl) (λI ae hn=>by
  have hn:decide (((I.w 0).toL.length:Int)<=100)=true:=hn;have hn:=j6 hn;exact fn (S9.c_rMark (aR ae) (by omega)) (by simp only[fM,R7,aM,W7,aR ae]<;>rfl))
theorem uo:V3 aV Om iG:=
 rn (T:=S9.T_opsN) bn (by kernel_rfl) (by kernel_rfl) (λI ae hn=>by
  have hn:decide (((I.w 0).toL.length:Int)<=100)=true:=hn;have hn:=j6 hn;exact fn (S9.c_opsN (aR ae) (by omega)) (by simp only[iG,R7,aM,W7,aR ae]<;>rfl))
theorem pv:V3 aV Om fJ:=
 rn (T:=OW) bn (by kernel_rfl) (by kernel_rfl) (λI ae hn=>by
  have hn:(decide (((I.w 0).toL.length:Int)<=400)&&(I.f 431 [I.w 0]).toB)=true:=hn;obtain⟨h1,h2⟩:=Q8 hn;rw[aR ae]at h2;have h1:=j6 h1;exact fn (S9.c_rowsN (aR ae) (by omega) h2) (by simp only[fJ,R7,aM,W7,aR ae]<;>rfl))
theorem pZ:V3 aV Om fB:=
 rn (T:=Sy) bn (by kernel_rfl) (by kernel_rfl) (λI ae hn=>by
  have hn:(decide (((I.w 0).toL.length:Int)<=400)&&(I.f 431 [I.w 0]).toB)=true:=hn;obtain⟨h1,h2⟩:=Q8 hn;rw[aR ae]at h2;have h1:=j6 h1;exact fn (S7.t_sort5 (aR ae) (by omega) h2) (by simp only[fB,R7,aM,W7,aR ae]<;>rfl))
theorem tZ: ∀x∈WI,V3 aV Om x:=by
 exact T8 (T8 (T8 (T8 (T8 (T8 (T8 (T8 (T8 (T8 (T8 (T8 (λx hx=>(by cases hx)) pZ) pv) uo) ph) jX) lK) CO) pQ) mU) tE) AS) lC
theorem jb: ∀x∈H25,V3 aV Om x:=Z5 bn tZ
theorem pj:V3 aV Om fH:=
 rn (T:=S9.T_r3fit) jb (by kernel_rfl) (by kernel_rfl) (λI ae hn=>by
  exact fn (S9.c_r3fit (aR ae)) (by simp only[fH,R7,aM,W7,aR ae]<;>rfl))
theorem zH:V3 aV Om nw:=
 rn (T:=S9.T_rOf) jb (by kernel_rfl) (by kernel_rfl) (λI ae hn=>by
  exact fn (S9.c_rOf (aR ae)) (by simp only[nw,R7,aM,W7,aR ae]<;>rfl))
theorem wb: ∀x∈Tz,V3 aV Om x:=by
 exact T8 (T8 (λx hx=>(by cases hx)) zH) pj
theorem iX: ∀x∈TZ,V3 aV Om x:=Z5 jb wb
theorem qg:V3 aV Om fG:=
 rn (T:=S9.T_r3Sum) iX (by kernel_rfl) (by kernel_rfl) (λI ae hn=>by
  have hn:decide (((I.w 0).toL.length:Int)<=100)=true:=hn;have hn:=j6 hn;exact fn (S9.c_r3Sum (aR ae) (by omega)) (by simp only[fG,R7,aM,W7,aR ae]<;>rfl))
theorem Dn:V3 aV Om mB:=
 rn (T:=S9.T_sOf) iX (by kernel_rfl) (by kernel_rfl) (λI ae hn=>by
  have hn:decide (((I.w 1).toL.length:Int)<=100)=true:=hn;have hn:=j6 hn;exact fn (S9.c_sOf (aR ae) (by omega)) (by simp only[mB,R7,aM,W7,aR ae]<;>rfl))
theorem tw: ∀x∈Tu,V3 aV Om x:=by
 exact T8 (T8 (λx hx=>(by cases hx)) Dn) qg
theorem ix: ∀x∈Tf,V3 aV Om x:=Z5 iX tw
theorem sA:V3 aV Om ip:=
 rn (T:=S9.T_rAll) ix (by kernel_rfl) (by kernel_rfl) (λI ae hn=>by
  have hn:decide (((I.w 0).toL.length:Int)<=100)=true:=hn;have hn:=j6 hn;exact fn (S9.c_rAll (aR ae) (by omega)) (by simp only[ip,R7,aM,W7,aR ae]<;>rfl))
theorem mY:V3 aV Om eq:=
 rn (T:=S9.T_rSpans) ix (by kernel_rfl) (by kernel_rfl) (λI ae hn=>by
  have hn:decide (((I.w 4).toL.length:Int)<=100)=true:=hn;have hn:=j6 hn;exact fn (S9.c_rSpans (aR ae) (by omega)) (by simp only[eq,R7,aM,W7,aR ae]<;>rfl))
theorem tu: ∀x∈Sb,V3 aV Om x:=by
 exact T8 (T8 (λx hx=>(by cases hx)) mY) sA
theorem lN: ∀x∈YW,V3 aV Om x:=Z5 ix tu
theorem pn:V3 aV Om fI:=
 rn (T:=S9.T_rRows) lN (by kernel_rfl) (by kernel_rfl) (λI ae hn=>by
  have hn:(decide (((I.w 4).toL.length:Int)<=100)&&(I.f 840 [I.w 0,I.w 1,I.w 2,I.w 3,I.w 4]).toB)=true:=hn;have h2:=(Q8 hn).2;rw[aR ae]at h2;exact fn (S9.c_rRows (aR ae) h2) (by simp only[fI,R7,aM,W7,aR ae]<;>rfl))
theorem sI: ∀x∈Xl,V3 aV Om x:=by
 exact T8 (λx hx=>(by cases hx)) pn
theorem iv: ∀x∈TX,V3 aV Om x:=Z5 lN sI
theorem Lk:V3 aV Om uC:=
 rn (T:=S9.T_rT) iv (by kernel_rfl) (by kernel_rfl) (λI ae hn=>by
  have hn:(decide (((I.w 4).toL.length:Int)<=100)&&(I.f 838 [I.w 0,I.w 1,I.w 2,I.w 3,I.w 4]).toB)=true:=hn;have h2:=(Q8 hn).2;rw[aR ae]at h2;exact fn (S9.c_rT (aR ae) h2) (by simp only[uC,R7,aM,W7,aR ae]<;>rfl))
theorem vZ:V3 aV Om gX:=
 rn (T:=S9.T_engT) iv (by kernel_rfl) (by kernel_rfl) (λI ae hn=>by
  have hn:(decide (((I.w 4).toL.length:Int)<=100)&&(I.f 838 [I.w 0,I.w 1,I.w 2,I.w 3,I.w 4]).toB)=true:=hn;have h2:=(Q8 hn).2;rw[aR ae]at h2;exact fn (S9.c_engT (aR ae) h2) (by simp only[gX,R7,aM,W7,aR ae]<;>rfl))
theorem uz: ∀x∈Tg,V3 aV Om x:=by
 exact T8 (T8 (λx hx=>(by cases hx)) vZ) Lk
theorem tS: ∀x∈H30,V3 aV Om x:=Z5 iv uz
theorem CU:V3 aV Om bd:=
 rn (T:=S9.T_engineT) tS (by kernel_rfl) (by kernel_rfl) (λI ae hn=>by
  have hn:(I.f 839 [I.w 0,I.w 1,I.w 2,I.w 3,I.w 4]).toB=true:=hn;rw[aR ae]at hn;exact(S9.c_engineT (aR ae) hn).trans (by simp only[bd,R7,aM]))
end Go.Proofs.YtpmabjilbokleaaGreat.Ctr
