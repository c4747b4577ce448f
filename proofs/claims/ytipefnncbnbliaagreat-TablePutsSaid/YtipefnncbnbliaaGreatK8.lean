import Derived.Test.YtipefnncbnbliaaGreatRows
import Derived.Test.YtipefnncbnbliaaGreatEQ1
import Derived.Test.YtipefnncbnbliaaGreatE43
import Derived.ProofKit
set_option linter.unusedVariables false
set_option linter.unusedSimpArgs false
namespace Go.Proofs.YtipefnncbnbliaaGreat.Ctr
open Go Go.Ev Go.Shelf
def funIn(t g:Nat)(a:Fr):Bool:=match a.slot t with
 | .func (.func f) _ _=>Nat.beq f g
 |_=>false
noncomputable def nL:Env:=⟨Tryz.prog,λf=>bif Nat.beq f 59 then some (.mapsClone)else bif Nat.beq f 116 then some (.overlaps 130 4)else none,λ_=>false,λ_=>false,λ_ _ _=> .bad,λ_ _=>none,λ_ _ _ _=>none⟩
abbrev cW:List CT:=[.str,.int .i64,.int .i64,.int .i64,.int .i64,.int .i64,.int .i64]
abbrev fM:List CT:=[.int .i64,.int .i64]
abbrev nI:List CT:=[.str,.int .i64,.int .i64]
abbrev BZ:List CT:=[.int .i64,.int .i64,.int .i64,.int .i64]
abbrev vp:List CT:=[.int .u8,.str,.int .i64,.int .i64]
abbrev tL:AV:= .agg [.oint .u8 aM,.oint .i64 aO,.oint .i64 aT,.oint .i64 aU]
abbrev AT:AV:= .agg [.oint .i64 bi,.oint .i64 bz,.oint .i64 bK,.oint .i64 bR]
abbrev Ho:AV:= .agg [.oint .u8 be,.ostr bd,.oint .i64 bf,.oint .i64 bh]
abbrev SI:AV:= .agg [.oint .u8 aM,.ostr aO,.oint .i64 aT,.oint .i64 aU]
abbrev Rt:AV:= .agg [.oint .i64 aM,.oint .i64 aO,.oint .i64 aT,.oint .i64 aU]
abbrev jD:Blk:= .cells 72 0 [.oint .u8 aM,.oint .i64 aO,.oint .i64 aT,.oint .i64 aU,.map 1]
abbrev jt:Blk:= .marr false nI BZ aS
noncomputable def Du(f:FuncId)(r:Nat)(a:Fr)(h:Heap):Option LSpec:=bif Nat.beq f 143&&Nat.beq r 1 then some (dp ⟨452,2000,[11,12,13,14,15,16,17,18,19,20,21,22,23,24,25,26,27,28,29,30,31,32,33,34,35,36,37],[],[10],[0],[0,1,2,3],[(.exit 0,[])],[],[],false,[]⟩ a h)else bif Nat.beq f 120&&Nat.beq r 2 then some (dp ⟨458,2000,[18,19,20,21,22,23,24,25,26,27,28,29,30,31,32,33,34,35,36,37,38,39,40,41,42,43,44,45,46,47,48,49],[],[10,11],[0],[0,2,4],[(.exit 0,[])],[],[],false,[]⟩ a h)else bif Nat.beq f 96&&Nat.beq r 1 then some (dp ⟨460,2000,[9,12,13,14,15,16,17,18,19,20,21,22,23,24,25,26,27,28,29,30,31,32,33,34,35,36,37,38,39,40,41,42,43,44,45,46,47,48,49,50,51,52],[],[8],[0],[0,1,2,3],[(.exit 0,[])],[],[],false,[]⟩ a h)else bif Nat.beq f 96&&Nat.beq r 4 then some (dp ⟨461,3000,[18,19,20,21,22,23,24,25,26,27,28,29,30,31,32,33,34,35,36,37,38,39,40,41,42,43,44,45,46,47,48,49,50,51,52],[],[9],[0],[0,1,2,3,8],[(.exit 2,[])],[],[],false,[]⟩ a h)else bif Nat.beq f 97&&Nat.beq r 3 then some (dp ⟨462,2000,[12,31,32,33,34,35,36,37,38,39,40,41,42,43,44,45,46,47,48,49,50,51,52,53],[],[10,11],[],[0,1,4],[(.exit 0,[])],[],[],false,[]⟩ a h)else bif Nat.beq f 97&&Nat.beq r 9 then some (dp ⟨463,3000,[55,56,57,58,59,60,61,62,63,64,65,66,67,68,69,70,71,72,73,74,75,76],[],[13],[0],[0,10],[(.exit 2,[])],[],[],false,[]⟩ a h)else bif Nat.beq f 97&&Nat.beq r 15 then some (dp ⟨464,2000,[16,83,84,85,86,87,88,89,90,91,92,93,94,95,96,97,98,99,100,101,102,103,104,105,106],[],[14,15],[],[0,2,4],[(.exit 4,[])],[],[],false,[]⟩ a h)else bif Nat.beq f 97&&Nat.beq r 21 then some (dp ⟨465,3000,[108,109,110,111,112,113,114,115,116,117,118,119,120,121,122,123,124,125,126,127,128],[],[17],[0],[0,14],[(.exit 6,[])],[],[],false,[]⟩ a h)else bif Nat.beq f 97&&Nat.beq r 33 then some (dp ⟨466,2000,[23,149,150,151,152,153,154,155,156,157,158,159,160,161,162,163,164,165,166,167,168,169,170,171,172,173,174],[],[20,21],[],[0,1,2,3,4,18,19,22],[(.exit 8,[])],[],[],false,[]⟩ a h)else bif Nat.beq f 72&&Nat.beq r 2 then some (dp ⟨467,2000,[11,12,13,14,15,16,17,18,19,20,21,22],[],[7,8],[0],[0,1,2,6],[(.exit 0,[])],[],[],false,[]⟩ a h)else bif Nat.beq f 72&&Nat.beq r 7 then some (dp ⟨468,3000,[7,8,9,28,29,30,31,32,33,34,35,36,37,38,39,40,41,42,43,44,45,46,47,48,49,50,51,52,53,54,55,56,57,58,59,60,61,62],[],[6],[0],[0,1,2],[(.exit 2,[])],[],[],false,[]⟩ a h)else bif Nat.beq f 72&&Nat.beq r 9 then some (dp ⟨469,4000,[33,34,35,36,37,38,39,40,41,42,43,44,45,46,47,48],[],[7,8],[0],[0,1,2,6],[(.exit 4,[])],[],[],false,[]⟩ a h)else bif Nat.beq f 42&&Nat.beq r 4 then some (dp ⟨107,2000,[5,14,15,16,17,18,19,20,21,22,23,24,25],[],[4,13],[],[0,1,12],[(.exit 0,[]),(.ret,[])],[],[],false,[]⟩ a h)else bif Nat.beq f 22&&Nat.beq r 5 then some (dp ⟨750,2000,[4,5,13,14,15,16,17,18,19,20,21,22,23],[(3,none,63,cW)],[3],[],[12],[(.exit 0,[])],[],[],true,[]⟩ a h)else bif Nat.beq f 66&&Nat.beq r 4 then some (dp ⟨751,2000,[8,13,14,15,16,17,18,19],[],[12],[4,5],[4,5,6,10,11],[(.exit 0,[])],[],[],false,[]⟩ a h)else bif Nat.beq f 46&&Nat.beq r 4 then some (dp ⟨752,2000,[8,14,15,16,17,18,19,20,21,22,23,24,25,26,27,28,29,30,31,32,33,34,35,36,37,38,39,40,41,42,43,44,45],[(4,none,2,[.int .i64]),(5,none,2,[.int .i64])],[4,5,13],[6],[2,6,11,12],[(.exit 0,[])],[],[],false,[]⟩ a h)else bif Nat.beq f 32&&Nat.beq r 8 then some (dp ⟨753,2000,[43,44,45,46,47,48,49,50,51,52,53,54,55,56,57,58],[(7,none,80,fM)],[7,8],[],[2,5],[(.exit 1,[])],[],[],false,[]⟩ a h)else bif Nat.beq f 86&&Nat.beq r 2 then some (dp ⟨754,2000,[5,6,7,8,12,13,14,15,16,17,18,19,20,21,22,23,24,25,26,27,28,29,30,31,32,33,34,35,36,37,38,39,40,41,42,43,44,45,46,47,48,49,50,51,52],[],[4,11],[],[0,1,9,10],[(.exit 0,[]),(.ret,[])],[],[],false,[]⟩ a h)else bif Nat.beq f 63&&Nat.beq r 6 then some (dp ⟨755,2000,[12,36,37,38,39,40,41,42,43,44,45,46,47,48,49,50,51,52,53,54,55,56,57,58,59,60,61,62],[(6,none,131,fM),(8,none,131,fM)],[6,8,35],[7],[7,10,33,34],[(.exit 0,[])],[],[],false,[]⟩ a h)else bif Nat.beq f 88&&Nat.beq r 3 then some (dp ⟨756,2000,[11,15,16,17,18,19,20,21,22,23,24,25,26,27,28,29,30,31,32,33,34],[],[9,10],[],[0,2,4,8],[(.exit 0,[])],[],[],false,[]⟩ a h)else bif Nat.beq f 64&&Nat.beq r 2 then some (dp ⟨757,2000,[5,11,12,13,14,15,16,17,18,19,20,21,22,23,24,25,26],[(4,none,131,fM)],[4],[],[1,10],[(.exit 0,[])],[],[],true,[]⟩ a h)else bif Nat.beq f 44&&Nat.beq r 3 then some (dp ⟨758,2000,[11,32,33,34,35,36,37,38,39,40,41,42,43,44,45],[(4,none,26,nI)],[4,31],[],[3,5,7,29,30],[(.exit 0,[])],[],[],false,[]⟩ a h)else bif Nat.beq f 31&&Nat.beq r 4 then some (dp ⟨759,2000,[11,26,27,28,29,30,31,32,33,34,35,36,37,38,39,40,41,42,43,44,45],[(4,none,26,nI),(9,none,58,BZ)],[4,9,25],[],[0,8,23,24],[(.exit 0,[])],[],[],false,[]⟩ a h)else bif Nat.beq f 9&&Nat.beq r 11 then some (dp ⟨760,2000,[8,9,44,45,46,47,48,49,50,51,52,53,54,55,56,57,58,59,60,61,62,63,64,65,66,67,68,69,70,71,72,73,74,75],[(5,none,63,cW)],[5,6,43],[],[0,3,41,42],[(.exit 1,[])],[],[],false,[]⟩ a h)else bif Nat.beq f 19&&Nat.beq r 5 then some (dp ⟨761,2000,[9,25,26,27,28,29,30,31,32,33],[],[24],[1000],[0,6,22,23],[(.exit 0,[])],[],[],false,[]⟩ a h)else bif Nat.beq f 19&&Nat.beq r 10 then some (dp ⟨762,2000,[11,37,38,39,40,41,42,43,44,45,46,47,48],[],[36],[1000],[0,34,35],[(.exit 2,[])],[],[],false,[]⟩ a h)else bif Nat.beq f 78&&Nat.beq r 2 then some (dp ⟨763,2000,[5,9,10,11,12,13,14,15,16,17,18],[],[4,8],[],[0,1,7],[(.exit 0,[]),(.ret,[])],[],[],false,[]⟩ a h)else bif Nat.beq f 60&&Nat.beq r 5 then some (dp ⟨764,2000,[7,16,17,18,19,20,21,22,23,24,25,26,27,28,29,30,31,32,33,34,35],[],[5,6],[0],[0,1],[(.exit 0,[])],[],[],false,[]⟩ a h)else bif Nat.beq f 4&&Nat.beq r 2 then some (dp ⟨765,2000,[6,7,8,9,10,11,12,13,14,15,16,17,18,19,20,21,22],[],[4,5],[],[0,1],[(.exit 0,[]),(.ret,[])],[],[],false,[]⟩ a h)else bif Nat.beq f 8&&Nat.beq r 3 then some (dp ⟨771,2000,[9,18,19,20,21,22,23,24,25,26,27],[],[4,5,7,17],[1006],[6,15,16],[(.exit 0,[]),(.ret,[])],[(30006,nI,BZ)],[],false,[]⟩ a h)else bif Nat.beq f 58&&Nat.beq r 3 then some (dp ⟨480,2000,[7,8,9,10,11,12,13,14,15,16,17,18,19,20,21,22,23,24,25,26,27,28,29,30,31,32,33,34,35,36,37,38,39,40,41,42,43,44,45,46,47,48,49,50,51,52,53,54,55,56,57,58,59,60,61,62,63,64,65,66,67,68,69],[(5,none,90,cW)],[5,6],[],[0,1],[(.exit 0,[])],[],[],false,[]⟩ a h)else bif Nat.beq f 58&&Nat.beq r 7 then some (dp ⟨481,3000,[8,23,24,25,26,27,28,29,30,31,32,33,34,35,36,37,38,39,40,41,42,43,44,45,46,47,48,49,50,51,52,53,54,55,56,57,58,59,60,61,62,63,64,65,66,67,68,69],[],[7],[5],[0,1,5,6],[(.exit 2,[])],[],[],false,[]⟩ a h)else bif Nat.beq f 75&&Nat.beq r 3 then some (dp ⟨850,2000,[9,10,11,12,13,14,15,16,17,18,19,20,21],[],[5],[4],[0,4],[(.exit 0,[])],[],[],false,[]⟩ a h)else bif Nat.beq f 57&&Nat.beq r 6 then some (dp ⟨851,2000,[17,18,19,20,21,22,23,24,25,26,27,28,29,30,31,32,33,34,35,36,37,38,39,40,41,42,43,44,45,46,47,48,49,50,51,52,53,54],[],[7],[2,4],[0,2,4,5],[(.exit 0,[])],[],[],false,[]⟩ a h)else bif Nat.beq f 16&&Nat.beq r 4 then some (dp ⟨852,2000,[11,12,13,14,15,16,17,18,19,20,21,22,23,24,25],[],[4,5],[],[0,1],[(.exit 0,[]),(.ret,[])],[],[],false,[]⟩ a h)else bif Nat.beq f 74&&Nat.beq r 8 then some (dp ⟨853,2000,[44,45,46,47,48,49,50,51,52,53,54,55,56,57,58,59,60,61,62,63,64,65,66,67],[(5,none,120,fM)],[5,7],[],[1,2],[(.exit 0,[])],[],[],false,[]⟩ a h)else bif Nat.beq f 100&&Nat.beq r 2 then some (dp ⟨854,2000,[7,8,9,10,11,12],[(0,none,145,fM)],[0,3],[],[],[(.exit 0,[])],[],[],false,[]⟩ a h)else bif Nat.beq f 100&&Nat.beq r 6 then some (dp ⟨855,2000,[6,13,14,15,16,17,18,19,20,21,22,23,24,25,26,27,28,29,30,31,32,33,34,35,36,37,38,39,40,41,42,43,44,45,46,47,48,49,50,51,52,53,54,55,56,57,58,59,60],[(4,none,145,fM)],[4,5],[],[0],[(.exit 2,[])],[],[],false,[]⟩ a h)else bif Nat.beq f 100&&Nat.beq r 10 then some (dp ⟨856,3000,[27,28,29,30,31,32,33,34,35,36,37,38,39,40,41,42,43,44,45,46,47,48,49,50,51,52,53,54,55,56,57,58,59,60],[],[6],[4],[0,4,5],[(.exit 4,[])],[],[],false,[]⟩ a h)else bif Nat.beq f 121&&Nat.beq r 2 then some (dp ⟨857,4000,[5,6,7,8,9,10,11,12,13,14,15,16,17,18,19,20,21,22,23,24,25,26,27,28,29,30,31,32,33,34,35,36,37,38,39,40,41,42,43,44,45,46,47,48,49,50,51,52,53,54,55,56,57,58,59,60,61,62,63,64,65,66,67,68,69,70,71,72,73,74,75,76,77],[],[3,4],[],[0],[(.exit 0,[]),(.ret,[])],[],[],false,[(2,145,fM)]⟩ a h)else bif Nat.beq f 121&&Nat.beq r 5 then some (dp ⟨858,5000,[6,7,16,17,18,19,20,21,22,23,24,25,26,27,28,29,30,31,32,33,34,35,36,37,38,39,40,41,42,43,44,45,46,47,48,49,50,51,52,53,54,55,56,57,58,59,60,61,62,63,64,65,66,67,68,69,70,71,72,73,74,75,76,77],[],[3,5],[],[0,4],[(.exit 2,[]),(.ret,[])],[],[],false,[(2,145,fM)]⟩ a h)else bif Nat.beq f 121&&Nat.beq r 10 then some (dp ⟨859,6000,[56,57,58,59,60,61,62,63,64,65,66,67,68,69,70,71,72,73,74,75,76],[(6,none,145,fM)],[6,7],[],[0,4,5],[(.exit 4,[])],[],[],false,[]⟩ a h)else bif Nat.beq f 73&&Nat.beq r 5 then some (dp ⟨860,2000,[11,12,13,14,15,16,17,18,19,20,21,22,23,24,25,26,27,28,29,30,31,32,33,34,35,36],[(6,none,145,fM)],[5,6,7],[],[0,1],[(.exit 0,[]),(.ret,[(4,.nils)])],[],[],false,[]⟩ a h)else bif Nat.beq f 55&&Nat.beq r 4 then some (dp ⟨861,2000,[14,15,16,17,18,19,20,21,22,23,24,25,26,27,28,29,30,31,32,33,34],[(8,none,2,[.int .i64])],[8,9],[],[1,2,3,7],[(.exit 0,[])],[],[],false,[]⟩ a h)else bif Nat.beq f 55&&Nat.beq r 11 then some (dp ⟨862,2000,[45,46,47,48,49,50,51,52,53,54,55,56,57,58,59,60,61,62,63,64],[(7,none,120,fM)],[7,12],[],[10],[(.exit 2,[])],[],[],false,[]⟩ a h)else bif Nat.beq f 55&&Nat.beq r 16 then some (dp ⟨863,2000,[66,67,68,69,70,71,72,73,74,75,76,77,78,79],[(7,none,120,fM)],[7,13],[],[3,8],[(.exit 4,[])],[],[],false,[]⟩ a h)else bif Nat.beq f 36&&Nat.beq r 2 then some (dp ⟨864,2000,[6,7,8,9,10,11,12,13,14,15,16,17,18],[],[4,5],[],[0,3],[(.exit 0,[]),(.ret,[])],[],[],false,[]⟩ a h)else bif Nat.beq f 35&&Nat.beq r 3 then some (dp ⟨865,2000,[8,9,10,11,12,13,14,15,16,17,18,19,20,21,22,23,24,25,26,27,28,29,30,31,32,33,34,35,36,37,38,39,40,41,42,43,44,45,46,47,48,49,50,51,52,53,54,55,56,57,58,59,60,61,62,63,64,65,66,67,68,69,70,71,72,73,74,75,76,77,78,79,80,81,82,83,84,85,86,87,88,89,90,91,92,93,94,95,96,97,98,99,100],[(6,none,90,cW)],[5,6,7],[],[1,2],[(.exit 0,[]),(.ret,[(4,.nils)])],[],[],false,[]⟩ a h)else bif Nat.beq f 35&&Nat.beq r 7 then some (dp ⟨866,4000,[10,11,12,13,14,29,30,31,32,33,34,35,36,37,38,39,40,41,42,43,44,45,46,47,48,49,50,51,52,53,54,55,56,57,58,59,60,61,62,63,64,65,66,67,68,69,70,71,72,73,74,75,76,77,78,79,80,81,82,83,84,85,86,87,88,89,90,91,92,93,94,95,96,97,98,99,100],[(6,none,90,cW)],[5,6,9],[],[1,2,7,8],[(.exit 2,[]),(.ret,[(4,.nils)])],[],[],false,[]⟩ a h)else bif Nat.beq f 35&&Nat.beq r 13 then some (dp ⟨867,6000,[54,55,56,57,58,59,60,61,62,63,64,65,66,67,68,69,70,71,72,73,74,75,76,77,78,79,80,81,82,83,84,85,86,87],[(11,none,2,[.int .i64])],[11,12],[],[1,2,6,7,8,9,10],[(.exit 4,[])],[],[],false,[]⟩ a h)else bif Nat.beq f 41&&Nat.beq r 3 then some (dp ⟨868,2000,[7,8,9,10,11,12,13,14,15,16,17,18,19,20,21,22,23,24,25,26,27],[(5,none,90,cW)],[5,6],[],[0,1],[(.exit 0,[])],[],[],false,[]⟩ a h)else bif Nat.beq f 10&&Nat.beq r 9 then some (dp ⟨920,2000,[43,44,45,46,47,48,49,50,51,52,53,54,55,56,57,58,59,60,61,62,63,64],[(15,none,87,nI)],[15,17],[],[11,13,16],[(.exit 0,[])],[],[],false,[]⟩ a h)else bif Nat.beq f 10&&Nat.beq r 14 then some (dp ⟨921,2000,[19,20,65,66,67,68,69,70,71,72,73,74,75,76,77,78,79,80,81,82,83,84,85,86,87,88,89,90,91,92,93,94,95,96,97],[(16,none,90,cW)],[16,18],[],[11,13,15],[(.exit 2,[])],[],[],false,[]⟩ a h)else bif Nat.beq f 10&&Nat.beq r 18 then some (dp ⟨922,4000,[71,72,73,74,75,76,77,78,79,80,81,82,83,84,85,86,87,88],[],[19,20],[],[11,13,15,16,18],[(.exit 4,[])],[],[],false,[]⟩ a h)else bif Nat.beq f 17&&Nat.beq r 3 then some (dp ⟨923,2000,[5,6,7,8,9,10,11,12,13,14,15,16,17,18,19,20,21,22,23,24,25,26,27,28,29,30,31,32,33,34,35],[(3,none,90,cW)],[3,4],[],[0],[(.exit 0,[])],[],[],false,[]⟩ a h)else bif Nat.beq f 15&&Nat.beq r 4 then some (dp ⟨924,2000,[11,12,13,14,15,16,17,18,19,20,21,22,23,24,25,26],[],[4,5],[],[0,1],[(.exit 0,[]),(.ret,[])],[],[],false,[]⟩ a h)else bif Nat.beq f 18&&Nat.beq r 11 then some (dp ⟨925,4000,[15,16,57,58,59,60,61,62,63,64,65,66,67,68,69,70,71,72,73,74,75,76,77,78,79,80,81,82,83,84,85,86,87],[],[8,14],[12],[0,3,9,11,12,13],[(.exit 2,[]),(.ret,[])],[],[],false,[]⟩ a h)else bif Nat.beq f 18&&Nat.beq r 18 then some (dp ⟨926,4000,[88,89,90,91,92,93,94,95,96,97],[],[17],[13],[0,3,9,11,13],[(.exit 4,[])],[],[],false,[]⟩ a h)else bif Nat.beq f 3&&Nat.beq r 10 then some (dp ⟨927,2000,[16,17,18,19,20,21,22,23,24,68,69,70,71,72,73,74,75,76,77,78,79,80,81,82,83,84,85,86,87,88,89,90,91,92,93,94,95,96,97,98,99,100,101,102,103,104,105,106,107,108,109,110,111,112,113,114,115,116,117,118,119,120,121,122,123,124,125,126,127,128,129,130,131,132,133,134,135,136,137,138,139,140,141,142,143,144,145,146,147,148,149,150,151,152,153,154,155,156],[(13,none,47,vp)],[8,13,14,15],[1009],[1,2,4,7,9,10],[(.exit 0,[]),(.ret,[])],[(30009,nI,BZ)],[],false,[]⟩ a h)else bif Nat.beq f 3&&Nat.beq r 24 then some (dp ⟨928,2000,[163,164,165,166,167,168,169,170,171,172,173,174,175,176,177,178,179],[],[27,28],[],[1,2,4,7,9,10,13,14,26],[(.exit 2,[])],[],[],false,[]⟩ a h)else none
noncomputable def cq:Env:={nL with lspec:=Du}
noncomputable def lF:Env:={nL with caps:=λg=>Nat.beq g 90}
def eR:HC:=⟨5,0,⟨[],[],0,.cb true,.obool bi,[],[.cb true]⟩⟩
def L0:List HC:=[eR]
def L1:List HC:=[]
def L2:List HC:=[]
def im:HC:=⟨7,4,⟨[tL],[],0,.cb true,.obool bi,[],[.app 700 [aM,aO,aT,aU]]⟩⟩
def cJ:HC:=⟨30,4,⟨[SI],[],0,.cb true,.oint .i64 bi,[],[.app 701 [aM,aO,aT,aU]]⟩⟩
def ie:List AV:=[SI]
def iq:List AV:=[.agg [.int .u8 1,.ostr aO,.oint .i64 aT,.oint .i64 aU]]
def ik:List AV:=[.agg [.int .u8 2,.ostr aO,.oint .i64 aT,.oint .i64 aU]]
def ia:HC:=⟨66,1,⟨[.osl 0 aN (.op .llen [aM]) 1],[.arr 4294967295 [.int .i64] aM],1,.op (.cmp .leq) [.op .llen [aM],bO],.tup [.oint .i64 bi,.oint .i64 bz],[],[.app 702 [aM],.app 703 [aM]]⟩⟩
def jA:HC:=⟨25,2,⟨[.osl 0 aN (.op .llen [aM]) 7,.osl 1 aN (.op .llen [aO]) 7],[.arr 4294967295 cW aM,.arr 4294967295 cW aO],2,.op (.cmp .leq) [.op .llen [aM],bO],.obool bi,[],[.app 3 [aM,aO]]⟩⟩
def lH:HC:=⟨48,2,⟨[.oint .i64 aM,.oint .i64 aO],[],0,.op .and [.op .and [.op (.cmp .leq) [aZ,aO],.op (.cmp .leq) [aO,bS]],.op .and [.op (.cmp .leq) [.ci (-1099511627776),aM],.op (.cmp .leq) [aM,bT]]],.tup [.oint .i64 bi,.oint .i64 bz],[],[.app 709 [aM,aO],aN]⟩⟩
def ip:HC:=⟨86,2,⟨[.oint .i64 aM,.osl 0 aN (.op .llen [aO]) 2],[.arr 4294967295 fM aO],1,.op (.cmp .leq) [.op .llen [aO],bB],.obool bi,[],[.app 711 [aM,aO]]⟩⟩
def jv:HC:=⟨92,4,⟨[.agg [.oint .i64 aM,.oint .i64 aO],.agg [.oint .i64 aT,.oint .i64 aU]],[],0,.cb true,.oint .i64 bi,[],[.app 712 [aM,aO,aT,aU]]⟩⟩
def qV:HC:=⟨90,5,⟨[.ous 1 aO 2,.oint .i64 aT,.sl 0 0 1 1],[.cells 131 0 [.oint .i64 aU,.oint .i64 aS],.arr 131 fM aM],1,.app 713 [aM,aO,aT,aU,aS],.ous 2 (.op .llen [bi]) 2,[none,some (.arr 131 fM bi)],[.app 714 [aM,aO,aT,aU,aS]]⟩⟩
def mW:HC:=⟨91,2,⟨[.ous 0 aM 2,.func (.func 92) [] []],[.arr 131 fM aO],0,.op .and [.op (.cmp .eql) [aM,.op .llen [aO]],.op (.cmp .leq) [.op .llen [aO],bO]],.tup [],[some (.arr 131 fM bi)],[.app 715 [aO]]⟩⟩
def fH:HC:=⟨91,2,⟨[.ous 0 aM 2,.func (.func 92) [] []],[.bag 131 fM aO],0,.op .and [.op (.cmp .eql) [aM,.op .llen [aO]],.op .and [.op (.cmp .leq) [.op .llen [aO],bO],.app 716 [aO]]],.tup [],[some (.arr 131 fM bi)],[.app 715 [aO]]⟩⟩
def ii:HC:=⟨52,1,⟨[.osl 0 aN (.op .llen [aM]) 7],[.arr 4294967295 cW aM],1,.op .and [.op (.cmp .leq) [.op .llen [aM],bB],.app 431 [aM]],.ous 1 (.op .llen [bi]) 7,[some (.arr 63 cW bi)],[aM]⟩⟩
def jI:HC:=⟨143,5,⟨[.ous 0 aO 7,.oint .i64 aT,.oint .i64 aU,.oint .i64 aS,.func (.func 54) [.agg [.func (.func 50) [] []]] []],[.arr 63 cW aM],0,.app 420 [aM,aO,aT,aU,aS],.tup [],[some (.arr 63 cW bi)],[.app 421 [aM,aT,aU,aS]]⟩⟩
def lc:HC:=⟨54,14,⟨[.agg [.func (.func 50) [] []],.agg [.ostr aM,.oint .i64 aO,.oint .i64 aT,.oint .i64 aU,.oint .i64 aS,.oint .i64 be,.oint .i64 bd],.agg [.ostr bf,.oint .i64 bh,.oint .i64 bH,.oint .i64 bt,.oint .i64 (.va 11),.oint .i64 (.va 12),.oint .i64 (.va 13)]],[],0,.cb true,.oint .i64 bi,[],[.app 206 [aM,aO,aT,bf,bh,bH]]⟩⟩
def L3:List HC:=[im,cJ,ia,jA,lH,ip,jv,qV,mW,fH,ii,jI,lc]
def lB:HC:=⟨120,5,⟨[.ous 0 aO 7,.oint .i64 aT,.oint .i64 aU,.oint .i64 aS,.func (.func 54) [.agg [.func (.func 50) [] []]] []],[.arr 63 cW aM],0,.app 422 [aM,aO,aT,aU,aS],.tup [],[some (.arr 63 cW bi)],[.app 423 [aM,aT,aU,aS]]⟩⟩
def qG:HC:=⟨32,5,⟨[tL,.oint .i64 aS],[],0,.cb true,.ous 0 (.op .llen [bi]) 2,[some (.arr 80 fM bi)],[.app 704 [aM,aO,aT,aU,aS]]⟩⟩
def lw:HC:=⟨46,1,⟨[.osl 0 aN (.op .llen [aM]) 4],[.arr 4294967295 BZ aM],1,.op (.cmp .leq) [.op .llen [aM],.ci 1000],.tup [AT,.oint .i64 bQ],[],[.op .lget [.app 705 [aM],aN,aN],.op .lget [.app 705 [aM],aN,aZ],.op .lget [.app 705 [aM],aN,bn],.op .lget [.app 705 [aM],aN,.ci 3],.app 706 [aM]]⟩⟩
def fQ:HC:=⟨63,3,⟨[.oint .i64 aM,.oint .i64 aO,.osl 0 aN (.op .llen [aT]) 2],[.arr 4294967295 fM aT],1,.op (.cmp .leq) [.op .llen [aT],.ci 24],.tup [.ous 1 (.op .llen [bR]) 2,.agg [.oint .i64 bi,.oint .i64 bz],.ous 2 (.op .llen [bQ]) 2,.oint .i64 bK],[some (.arr 131 fM bR),some (.arr 131 fM bQ)],[.op .lget [.app 718 [aM,aO,aT],aN,aN],.op .lget [.app 718 [aM,aO,aT],aN,aZ],.app 720 [aM,aO,aT],.app 717 [aM,aO,aT],.app 719 [aM,aO,aT]]⟩⟩
def L4:List HC:=[lB,qG,lw,fQ]
def lu:HC:=⟨96,4,⟨[.ous 0 aO 7,.oint .i64 aT,.oint .i64 aU,.func (.func 54) [.agg [.func (.func 50) [] []]] []],[.arr 63 cW aM],0,.app 424 [aM,aO,aT,aU],.tup [],[some (.arr 63 cW bi)],[.app 425 [aM,aT,aU]]⟩⟩
def qQ:HC:=⟨97,5,⟨[.ous 0 aO 7,.oint .i64 aT,.oint .i64 aU,.oint .i64 aS,.func (.func 54) [.agg [.func (.func 50) [] []]] []],[.arr 63 cW aM],0,.app 426 [aM,aO,aT,aU,aS,aZ],.tup [],[some (.arr 63 cW bi)],[.app 425 [aM,aT,aS]]⟩⟩
def mJ:HC:=⟨33,5,⟨[Rt,.oint .i64 aS],[],0,.cb true,.tup [AT,.oint .i64 bQ],[],[.op .lget [.app 707 [aM,aO,aT,aU,aS],aN,aN],.op .lget [.app 707 [aM,aO,aT,aU,aS],aN,aZ],.op .lget [.app 707 [aM,aO,aT,aU,aS],aN,bn],.op .lget [.app 707 [aM,aO,aT,aU,aS],aN,.ci 3],.app 708 [aM,aO,aT,aU,aS]]⟩⟩
def L5:List HC:=[lu,qQ,mJ]
def mz:HC:=⟨97,5,⟨[.ous 0 aO 7,.oint .i64 aT,.oint .i64 aU,.oint .i64 aS,.func (.func 54) [.agg [.func (.func 50) [] []]] []],[.arr 63 cW aM],0,.app 426 [aM,aO,aT,aU,aS,bn],.tup [],[some (.arr 63 cW bi)],[.app 425 [aM,aT,aS]]⟩⟩
def L6:List HC:=[mz]
def lV:HC:=⟨97,5,⟨[.ous 0 aO 7,.oint .i64 aT,.oint .i64 aU,.oint .i64 aS,.func (.func 54) [.agg [.func (.func 50) [] []]] []],[.arr 63 cW aM],0,.app 426 [aM,aO,aT,aU,aS,.ci 4],.tup [],[some (.arr 63 cW bi)],[.app 425 [aM,aT,aS]]⟩⟩
def L7:List HC:=[lV]
def mf:HC:=⟨97,5,⟨[.ous 0 aO 7,.oint .i64 aT,.oint .i64 aU,.oint .i64 aS,.func (.func 54) [.agg [.func (.func 50) [] []]] []],[.arr 63 cW aM],0,.app 426 [aM,aO,aT,aU,aS,.ci 8],.tup [],[some (.arr 63 cW bi)],[.app 425 [aM,aT,aS]]⟩⟩
def L8:List HC:=[mf]
def mE:HC:=⟨97,5,⟨[.ous 0 aO 7,.oint .i64 aT,.oint .i64 aU,.oint .i64 aS,.func (.func 54) [.agg [.func (.func 50) [] []]] []],[.arr 63 cW aM],0,.app 426 [aM,aO,aT,aU,aS,.ci 16],.tup [],[some (.arr 63 cW bi)],[.app 425 [aM,aT,aS]]⟩⟩
def L9:List HC:=[mE]
def mC:HC:=⟨97,5,⟨[.ous 0 aO 7,.oint .i64 aT,.oint .i64 aU,.oint .i64 aS,.func (.func 54) [.agg [.func (.func 50) [] []]] []],[.arr 63 cW aM],0,.app 426 [aM,aO,aT,aU,aS,bJ],.tup [],[some (.arr 63 cW bi)],[.app 425 [aM,aT,aS]]⟩⟩
def L10:List HC:=[mC]
def lO:HC:=⟨97,5,⟨[.ous 0 aO 7,.oint .i64 aT,.oint .i64 aU,.oint .i64 aS,.func (.func 54) [.agg [.func (.func 50) [] []]] []],[.arr 63 cW aM],0,.app 426 [aM,aO,aT,aU,aS,.ci 64],.tup [],[some (.arr 63 cW bi)],[.app 425 [aM,aT,aS]]⟩⟩
def L11:List HC:=[lO]
def lK:HC:=⟨97,5,⟨[.ous 0 aO 7,.oint .i64 aT,.oint .i64 aU,.oint .i64 aS,.func (.func 54) [.agg [.func (.func 50) [] []]] []],[.arr 63 cW aM],0,.app 426 [aM,aO,aT,aU,aS,.ci 128],.tup [],[some (.arr 63 cW bi)],[.app 425 [aM,aT,aS]]⟩⟩
def L12:List HC:=[lK]
def lL:HC:=⟨97,5,⟨[.ous 0 aO 7,.oint .i64 aT,.oint .i64 aU,.oint .i64 aS,.func (.func 54) [.agg [.func (.func 50) [] []]] []],[.arr 63 cW aM],0,.app 426 [aM,aO,aT,aU,aS,.ci 256],.tup [],[some (.arr 63 cW bi)],[.app 425 [aM,aT,aS]]⟩⟩
def Yd:List HC:=[lL]
def my:HC:=⟨97,5,⟨[.ous 0 aO 7,.oint .i64 aT,.oint .i64 aU,.oint .i64 aS,.func (.func 54) [.agg [.func (.func 50) [] []]] []],[.arr 63 cW aM],0,.app 426 [aM,aO,aT,aU,aS,.ci 512],.tup [],[some (.arr 63 cW bi)],[.app 425 [aM,aT,aS]]⟩⟩
def L14:List HC:=[my]
def lZ:HC:=⟨72,3,⟨[.ous 0 aO 7,.oint .i64 aT,.func (.func 54) [.agg [.func (.func 50) [] []]] []],[.arr 63 cW aM],0,.app 428 [aM,aO,aT],.tup [],[some (.arr 63 cW bi)],[.app 425 [aM,aN,aT]]⟩⟩
def L15:List HC:=[lZ]
def jB:HC:=⟨53,1,⟨[.ous 0 (.op .llen [aM]) 7,.func (.func 54) [.agg [.func (.func 50) [] []]] []],[.arr 63 cW aM],0,.op .and [.op (.cmp .leq) [.op .llen [aM],bB],.app 431 [aM]],.tup [],[some (.arr 63 cW bi)],[.app 425 [aM,aN,.op .llen [aM]]]⟩⟩
def L16:List HC:=[jB]
def eT:HC:=⟨34,1,⟨[.bool false,.osl 0 aN (.op .llen [aM]) 7],[.arr 4294967295 cW aM],1,.op .and [.op (.cmp .leq) [.op .llen [aM],bB],.app 431 [aM]],.ous 1 (.op .llen [bi]) 7,[some (.arr 63 cW bi)],[.app 490 [aM]]⟩⟩
def fp:HC:=⟨34,2,⟨[.bool false,.ous 0 aM 7],[.bag 63 cW aO],1,.op .and [.op (.cmp .eql) [aM,.op .llen [aO]],.op .and [.op .and [.op (.cmp .leq) [.op .llen [aO],bB],.app 431 [aO]],.app 491 [aO]]],.ous 1 (.op .llen [bi]) 7,[some (.arr 63 cW bi)],[.app 490 [aO]]⟩⟩
def XC:List HC:=[eT,fp]
def jK:HC:=⟨22,5,⟨[.ptr 0 0],[jD,jt],2,.op .and [.op .and [.op (.cmp .leq) [.op .llen [aS],bB],.app 431 [aS]],.app 491 [aS]],.ous 2 (.op .llen [bi]) 7,[some (.arr 63 cW bi)],[.app 490 [aS]]⟩⟩
def mg:HC:=⟨20,8,⟨[.ptr 0 0,.agg [.ostr be,.oint .i64 bd,.oint .i64 bf]],[jD,jt],2,.op (.cmp .leq) [.op .llen [aS],bO],.tup [AT,.obool bQ],[],[.op .lget [.app 721 [aS,be,bd,bf],aN,aN],.op .lget [.app 721 [aS,be,bd,bf],aN,aZ],.op .lget [.app 721 [aS,be,bd,bf],aN,bn],.op .lget [.app 721 [aS,be,bd,bf],aN,.ci 3],.app 722 [aS,be,bd,bf]]⟩⟩
def jH:HC:=⟨64,6,⟨[.ptr 0 0,.ostr be],[jD,jt],2,.op .and [.op (.cmp .leq) [.op .llen [aS],bB],.app 491 [aS]],.ous 2 (.op .llen [bi]) 2,[some (.arr 131 fM bi)],[.app 723 [aS,be]]⟩⟩
def Xq:List HC:=[jK,mg,jH]
def gU:HC:=⟨44,9,⟨[.ptr 0 0,Ho],[jD,jt],2,.op .and [.op (.cmp .leq) [.op .llen [aS],.ci 24],.app 491 [aS]],.tup [.ous 2 (.op .llen [bR]) 3,.agg [.ostr bi,.oint .i64 bz,.oint .i64 bK]],[some (.arr 26 nI bR)],[.op .lget [.app 725 [aU,aS,bd,bf],aN,aN],.op .lget [.app 725 [aU,aS,bd,bf],aN,aZ],.op .lget [.app 725 [aU,aS,bd,bf],aN,bn],.app 724 [aU,aS,bd,bf]]⟩⟩
def jr:HC:=⟨40,6,⟨[.ptr 0 0,.oint .i64 be],[jD,jt],2,.op .and [.op .and [.op (.cmp .leq) [.op .llen [aS],bB],.app 431 [aS]],.app 491 [aS]],.ous 2 (.op .llen [bi]) 7,[some (.arr 63 cW bi)],[.app 726 [aS,be]]⟩⟩
def L19:List HC:=[gU,jr]
def mA:HC:=⟨31,9,⟨[.ptr 0 0,Ho],[jD,jt],2,.op .and [.op (.cmp .leq) [.op .llen [aS],.ci 24],.app 491 [aS]],.tup [.ous 2 (.op .llen [bz]) 3,.ous 3 (.op .llen [bK]) 7,.oint .i64 bi],[some (.arr 26 nI bz),some (.arr 63 cW bK)],[.app 729 [aU,aS,bd,bf,bh],.app 727 [aU,aS,bd,bf,bh],.app 728 [aU,aS,bd,bf,bh]]⟩⟩
def L20:List HC:=[mA]
def pb:HC:=⟨9,9,⟨[.ptr 0 0,Ho],[jD,jt],2,.op .and [.op .and [.op .and [.op (.cmp .leq) [.op .llen [aS],bB],.app 431 [aS]],.app 491 [aS]],.app 739 [aM,aS,bd]],.tup [.ous 2 (.op .llen [bz]) 3,.ous 3 (.op .llen [bK]) 7,.oint .i64 bi],[some (.arr 26 nI bz),some (.arr 63 cW bK)],[.app 732 [aM,aO,aT,aU,aS,be,bd,bf,bh],.app 730 [aM,aO,aT,aU,aS,be,bd,bf,bh],.app 731 [aM,aO,aT,aU,aS,be,bd,bf,bh]]⟩⟩
def L21:List HC:=[pb]
def qD:HC:=⟨19,9,⟨[.ptr 0 0,Ho],[jD,jt],1,.op .and [.op .and [.op .and [.op (.cmp .leq) [.op .llen [aS],bB],.app 431 [aS]],.app 491 [aS]],.app 739 [aM,aS,bd]],.oint .i64 bi,[some (.marr false nI BZ bz)],[.app 732 [aM,aO,aT,aU,aS,be,bd,bf,bh],.app 733 [aM,aO,aT,aU,aS,be,bd,bf,bh]]⟩⟩
def XI:List HC:=[qD]
def L23:List HC:=[]
def XJ:List HC:=[]
def gW:HC:=⟨101,4,⟨[tL],[],0,.cb true,.obool bi,[],[.app 700 [aM,aO,aT,aU]]⟩⟩
def qU:HC:=⟨38,4,⟨[SI],[],0,.cb true,.oint .i64 bi,[],[.app 701 [aM,aO,aT,aU]]⟩⟩
def ld:HC:=⟨104,1,⟨[.oint .i64 aM],[],0,.cb true,AT,[],[.op .lget [.app 810 [aM],aN,aN],.op .lget [.app 810 [aM],aN,aZ],.op .lget [.app 810 [aM],aN,bn],.op .lget [.app 810 [aM],aN,.ci 3]]⟩⟩
def gX:HC:=⟨103,8,⟨[Rt,.agg [.oint .i64 aS,.oint .i64 be,.oint .i64 bd,.oint .i64 bf]],[],0,.cb true,AT,[],[.op .lget [.app 811 [aM,aO,aT,aU,aS,be,bd,bf],aN,aN],.op .lget [.app 811 [aM,aO,aT,aU,aS,be,bd,bf],aN,aZ],.op .lget [.app 811 [aM,aO,aT,aU,aS,be,bd,bf],aN,bn],.op .lget [.app 811 [aM,aO,aT,aU,aS,be,bd,bf],aN,.ci 3]]⟩⟩
def jp:HC:=⟨16,2,⟨[.osl 0 aN (.op .llen [aM]) 7,.osl 1 aN (.op .llen [aO]) 7],[.arr 4294967295 cW aM,.arr 4294967295 cW aO],2,.op (.cmp .leq) [.op .llen [aM],bO],.obool bi,[],[.app 3 [aM,aO]]⟩⟩
def pt:HC:=⟨36,4,⟨[.osl 0 aN (.op .llen [aM]) 7,.agg [.ostr aO,.oint .i64 aT,.oint .i64 aU]],[.arr 4294967295 cW aM],1,.op (.cmp .leq) [.op .llen [aM],bO],.obool bi,[],[.app 827 [aM,aO,aT,aU]]⟩⟩
def hZ:HC:=⟨41,2,⟨[.osl 0 aN (.op .llen [aM]) 7,.oint .i64 aO],[.arr 4294967295 cW aM],1,.op .and [.op (.cmp .leq) [.op .llen [aM],bB],.app 431 [aM]],.ous 1 (.op .llen [bi]) 7,[some (.arr 90 cW bi)],[.app 832 [aM,aO]]⟩⟩
def jg:HC:=⟨58,1,⟨[.bool false,.osl 0 aN (.op .llen [aM]) 7],[.arr 4294967295 cW aM],1,.op .and [.op (.cmp .leq) [.op .llen [aM],bB],.app 431 [aM]],.ous 1 (.op .llen [bi]) 7,[some (.arr 90 cW bi)],[.app 490 [aM]]⟩⟩
def L25:List HC:=[gW,qU,ld,gX,jp,pt,hZ,jg]
def jy:HC:=⟨105,4,⟨[Rt],[],0,.cb true,.tup [.oint .i64 bi,.obool bz],[],[.app 812 [aM,aO,aT,aU],.app 813 [aM,aO,aT,aU]]⟩⟩
def pT:HC:=⟨74,5,⟨[tL,.oint .i64 aS],[],0,.cb true,.ous 0 (.op .llen [bi]) 2,[some (.arr 120 fM bi)],[.app 704 [aM,aO,aT,aU,aS]]⟩⟩
def ZW:List HC:=[jy,pT]
def jj:HC:=⟨75,1,⟨[.osl 0 aN (.op .llen [aM]) 1],[.arr 4294967295 [.int .i64] aM],1,.op (.cmp .leq) [.op .llen [aM],bM],.tup [.oint .i64 bi,.oint .i64 bz],[],[.app 842 [aM],.app 843 [aM]]⟩⟩
def qd:HC:=⟨73,2,⟨[.oint .i64 aM,.osl 0 aN (.op .llen [aO]) 1],[.arr 4294967295 [.int .i64] aO],1,.op (.cmp .leq) [.op .llen [aO],bM],.tup [.ous 1 (.op .llen [bz]) 2,.oint .i64 bi],[some (.arr 145 fM bz)],[.app 825 [aM,aO],.app 824 [aM,aO]]⟩⟩
def L27:List HC:=[jj,qd]
def lJ:HC:=⟨57,1,⟨[.osl 0 aN (.op .llen [aM]) 1],[.arr 4294967295 [.int .i64] aM],1,.op (.cmp .leq) [.op .llen [aM],bM],.tup [AT,.oint .i64 bQ],[],[.op .lget [.app 820 [aM],aN,aN],.op .lget [.app 820 [aM],aN,aZ],.op .lget [.app 820 [aM],aN,bn],.op .lget [.app 820 [aM],aN,.ci 3],.app 843 [aM]]⟩⟩
def ij:HC:=⟨55,6,⟨[tL,.osl 0 aN (.op .llen [aS]) 4,.ostr be],[.arr 4294967295 vp aS],1,.op (.cmp .leq) [.op .llen [aS],bM],.ous 1 (.op .llen [bi]) 2,[some (.arr 120 fM bi)],[.app 826 [aM,aO,aT,aU,aS,be]]⟩⟩
def Zn:List HC:=[lJ,ij]
def jk:HC:=⟨35,5,⟨[tL,.osl 0 aN (.op .llen [aS]) 4],[.arr 4294967295 vp aS],1,.op .and [.op (.cmp .leq) [.op .llen [aS],bM],.app 840 [aM,aO,aT,aU,aS]],.tup [.ous 1 (.op .llen [bz]) 7,.obool bi],[some (.arr 90 cW bz)],[.app 829 [aM,aO,aT,aU,aS],.app 828 [aM,aO,aT,aU,aS]]⟩⟩
def L29:List HC:=[jk]
def L30:List HC:=[]
def Vp:List HC:=[]
def qb:HC:=⟨4,2,⟨[.osl 0 aN (.op .llen [aM]) 4,.oint .i64 aO],[.arr 4294967295 vp aM],1,.cb true,.obool bi,[],[.app 734 [aM,aO]]⟩⟩
def ji:HC:=⟨17,1,⟨[.osl 0 aN (.op .llen [aM]) 7],[.arr 4294967295 cW aM],1,.op .and [.op (.cmp .leq) [.op .llen [aM],bB],.app 431 [aM]],.ous 1 (.op .llen [bi]) 7,[some (.arr 90 cW bi)],[aM]⟩⟩
def eP:HC:=⟨15,2,⟨[.osl 0 aN (.op .llen [aM]) 3,.osl 1 aN (.op .llen [aO]) 3],[.arr 4294967295 nI aM,.arr 4294967295 nI aO],2,.op (.cmp .leq) [.op .llen [aM],bB],.obool bi,[],[.app 900 [aM,aO]]⟩⟩
def L32:List HC:=[qb,ji,eP]
def mh:HC:=⟨10,9,⟨[tL,.osl 0 aN (.op .llen [aS]) 4,Ho],[.arr 4294967295 vp aS],1,.op .and [.op (.cmp .leq) [.op .llen [aS],bM],.app 906 [aM,aO,aT,aU,aS,be,bd,bf,bh]],.tup [.ous 1 (.op .llen [bz]) 3,.ous 2 (.op .llen [bK]) 7,.oint .i64 bi],[some (.arr 87 nI bz),some (.arr 90 cW bK)],[.app 905 [aM,aO,aT,aU,aS,be,bd,bf,bh],.app 903 [aM,aO,aT,aU,aS,be,bd,bf,bh],.app 904 [aM,aO,aT,aU,aS,be,bd,bf,bh]]⟩⟩
def XM:List HC:=[mh]
def zI:HC:=⟨18,11,⟨[.ptr 0 0,.agg [.oint .u8 be,.oint .i64 bd,.oint .i64 bf,.oint .i64 bh],.osl 2 aN (.op .llen [bH]) 4,.oint .i64 bt],[jD,jt,.arr 4294967295 vp bH],3,.op .and [.op (.cmp .leq) [.op .llen [bH],bM],.app 907 [aM,aO,aT,aU,aS,be,bd,bf,bh,bH,bt]],.obool bi,[],[.cb true]⟩⟩
def wa:HC:=⟨18,6,⟨[.nilp,tL,.osl 0 aN (.op .llen [aS]) 4,.oint .i64 be],[.arr 4294967295 vp aS],1,.cb false,.obool bi,[],[.cb true]⟩⟩
def L34:List HC:=[zI,wa]
def eu:HC:=⟨3,9,⟨[tL,.osl 0 aN (.op .llen [aS]) 4,.oint .i64 be,.agg [.ostr bd,.oint .i64 bf,.oint .i64 bh]],[.arr 4294967295 vp aS],1,.app 908 [aM,aO,aT,aU,aS,be,bd,bf,bh],.obool bi,[],[.cb true]⟩⟩
def L35:List HC:=[eu]
theorem FJ:(Tryz.prog.funcs.toList.all λfn=> !(fn.name== "runtime.NumGoroutine"))=true:=by kernel_rfl
theorem DA: ∃fn:Func,Tryz.prog.funcs[59]? =some fn/\fn.body=none/\Extern.findNext fn=none/\Extern.find fn=some (Ext.mapsClone).model:=
 ⟨_,Tryz.func59,by kernel_rfl,by kernel_rfl,by kernel_rfl⟩
theorem yG: ∃fn:Func,Tryz.prog.funcs[116]? =some fn/\fn.body=none/\Extern.findNext fn=none/\Extern.find fn=some (Ext.overlaps 130 4).model:=
 ⟨_,Tryz.func116,by kernel_rfl,by kernel_rfl,by kernel_rfl⟩
theorem jo(I:Opq)(ae: ∀t,I.fix t=fC Tryz.prog t):nL.Ok I:=by
 refine⟨ae,λf fn h=> ?_,λf e h=> ?_,λ_ _ _ _ h=>(by cases h),λ_ _ _ h=>(by cases h),λ_ _ _ h=>(by cases h),λ_ _ _ _ _ h=>(by cases h)⟩
 .have h1:=k6.1 FJ fn (by
   obtain⟨h2,rfl⟩:=S2.1 h;exact Array.mem_toList_iff.2 (Array.getElem_mem h2))
  simpa using h1
 .have h:(bif Nat.beq f 59 then some (.mapsClone)else bif Nat.beq f 116 then some (.overlaps 130 4)else none:Option Ext)=some e:=h;cases hf59:Nat.beq f 59 with
  |true=>
   rw[hf59]at h;obtain rfl:f=59:=by simpa using hf59
   cases h;exact DA
  |false=>
   rw[hf59]at h;simp only[cond_false]at h;cases hf116:Nat.beq f 116 with
   |true=>
    rw[hf116]at h;obtain rfl:f=116:=by simpa using hf116
    cases h;exact yG
   |false=>
    rw[hf116]at h;simp only[cond_false]at h;cases h
theorem xB(I:Opq)(ae: ∀t,I.fix t=fC Tryz.prog t):cq.Ok I:=
 let h:=jo I ae
 ⟨h.fix,h.name,h.ext,h.bin,h.un,h.conv,h.blt⟩
theorem ua(I:Opq)(ae: ∀t,I.fix t=fC Tryz.prog t):lF.Ok I:=
 let h:=jo I ae
 ⟨h.fix,h.name,h.ext,h.bin,h.un,h.conv,h.blt⟩
theorem fY:Tryz.prog.follows .mixedOrders=true:=by kernel_rfl
noncomputable def H0:List HC:=[]
noncomputable def H1:List HC:=L0++H0
noncomputable def H2:List HC:=L1++H1
noncomputable def H3:List HC:=L2++H2
noncomputable def H4:List HC:=L3++H3
noncomputable def H5:List HC:=L4++H4
noncomputable def H6:List HC:=L5++H5
noncomputable def H7:List HC:=L6++H6
noncomputable def H8:List HC:=L7++H7
noncomputable def H9:List HC:=L8++H8
noncomputable def H10:List HC:=L9++H9
noncomputable def WG:List HC:=L10++H10
noncomputable def H12:List HC:=L11++WG
noncomputable def Ys:List HC:=L12++H12
noncomputable def H14:List HC:=Yd++Ys
noncomputable def H15:List HC:=L14++H14
noncomputable def H16:List HC:=L15++H15
noncomputable def ZX:List HC:=L16++H16
noncomputable def H18:List HC:=XC++ZX
noncomputable def H19:List HC:=Xq++H18
noncomputable def H20:List HC:=L19++H19
noncomputable def ZI:List HC:=L20++H20
noncomputable def H22:List HC:=L21++ZI
noncomputable def Xh:List HC:=XI++H22
noncomputable def XR:List HC:=L23++Xh
noncomputable def H25:List HC:=XJ++XR
noncomputable def Yr:List HC:=L25++H25
noncomputable def H27:List HC:=ZW++Yr
noncomputable def H28:List HC:=L27++H27
noncomputable def H29:List HC:=Zn++H28
noncomputable def Xo:List HC:=L29++H29
noncomputable def YI:List HC:=L30++Xo
noncomputable def H32:List HC:=Vp++YI
noncomputable def H33:List HC:=L32++H32
noncomputable def PT:List HC:=XM++H33
noncomputable def H35:List HC:=L34++PT
def jh:VT:= .both (.both (.both (.both (.ret 0 [.cb true]) (.ret 0 [.cb true])) (.both (.ret 0 [.cb true]) (.ret 0 [.cb true]))) (.both (.both (.ret 0 [.cb true]) (.ret 0 [.cb true])) (.both (.ret 0 [.cb true]) (.ret 0 [.cb true])))) (.both (.both (.both (.ret 0 [.cb true]) (.ret 0 [.cb true])) (.both (.ret 0 [.cb true]) (.ret 0 [.cb true]))) (.both (.both (.ret 0 [.cb true]) (.ret 0 [.cb true])) (.both (.ret 0 [.cb true]) (.ret 0 [.cb true]))))
theorem to:FC.run nL 1000000 eR.f eR.c eR.c.args=jh:=by kernel_rfl
theorem lN:FC.run (cq.hooks H3) 1000000 cJ.f cJ.c ie=S9.T_evRight0:=by kernel_rfl
theorem li:FC.run (cq.hooks H3) 1000000 cJ.f cJ.c iq=S9.T_evRight1:=by kernel_rfl
theorem lg:FC.run (cq.hooks H3) 1000000 cJ.f cJ.c ik=S9.T_evRight2:=by kernel_rfl
def Om(I:Opq):Prop:=Qd F Tryz.prog I
theorem dA(I:Opq)(v0:Nat)(l:List Val)(h:Om I):Om (I.upd v0 l):=h
theorem ce{I:Opq}(h:Om I): ∀i a,I.f i a=F i a:=λi a=>by rw[h.1]
theorem ul(I:Opq)(h:Om I):cq.Ok I:=xB I h.2
theorem Do(I:Opq)(h:Om I):nL.Ok I:=jo I h.2
theorem DV(I:Opq)(h:Om I):lF.Ok I:=ua I h.2
theorem kE{O:bY}{I:Opq}{us:List Value}{k:IntKind}{n:Nat}{i:Int}{r:List AV}(h:(I.w n).toI=i)(hv:cj O I [.agg (.oint k (.va n)::r)] us):cj O I [.agg (.int k i::r)] us:=by
 obtain⟨v,vr,e,⟨xs,e2,u,ur,e3,p1,p2⟩,q⟩:=hv;refine⟨v,vr,e,⟨xs,e2,u,ur,e3,?_,p2⟩,q⟩;show u= .int k i;rw[<-h];exact p1
theorem rn{cs:List HC}{x:HC}{T:VT}(hc: ∀x∈cs,ct cq Om x)(ho:rM x.c x.nv=true)(r:FC.run (cq.hooks cs) 1000000 x.f x.c x.c.args=T)(m: ∀I,Om I->dB I x.c.need=true->W7 T I=some (0,Z6 I x.c.outs)):ct cq Om x:=Dz (E:=cq) (cs:=cs) dA ul fY hc (n:=1000000) ho (VE r m)
theorem fn{T:VT}{I:Opq}{l q:List Val}(h:W7 T I=some (0,l))(e:l=q):W7 T I=some (0,q):=e▸h
theorem Fw: ∀x∈H0,ct cq Om x:=λx hx=>by cases hx
theorem tM:ct cq Om eR:=
 Dz (E:=nL) (cs:=[]) dA Do fY (λx hx=>by cases hx) (n:=1000000) (by kernel_rfl) (VE (T:=jh) to λI ae hn=>by
  exact(S9.allT_ok (t:=jh) (by kernel_rfl)).trans (by simp only[eR,Z6,bU]))
theorem Et: ∀x∈L0,ct cq Om x:=by
 exact cV (λx hx=>(by cases hx)) tM
theorem Eg: ∀x∈H1,ct cq Om x:=eN Fw Et
theorem ED: ∀x∈L1,ct cq Om x:=by
 exactλx hx=>(by cases hx)
theorem DU: ∀x∈H2,ct cq Om x:=eN Eg ED
theorem Fb: ∀x∈L2,ct cq Om x:=by
 exactλx hx=>(by cases hx)
theorem eK: ∀x∈H3,ct cq Om x:=eN DU Fb
theorem qh:ct cq Om im:=
 rn (T:=S9.T_wRight) eK (by kernel_rfl) (by kernel_rfl) (λI ae hn=>by
  exact fn (S9.t_wRight) (by simp only[im,Z6,bU,cA,ce ae]<;>rfl))
theorem nN:ct cq Om cJ:=
 Dz (E:=cq) (cs:=H3) dA ul fY eK (n:=1000000) (by kernel_rfl) (λI ae hn=>by
  by_cases hk:(I.w 0).toI=1\/(I.w 0).toI=2
  .rcases hk with e|e
   .exact⟨iq,λO us h=>kE e h,by rw[li];exact fn (S9.t_evRight1 (X:=S9.FQ F0) e) (by simp only[cJ,Z6,bU,cA,ce ae]<;>rfl)⟩
   .exact⟨ik,λO us h=>kE e h,by rw[lg];exact fn (S9.t_evRight2 (X:=S9.FQ F0) e) (by simp only[cJ,Z6,bU,cA,ce ae]<;>rfl)⟩
  .exact⟨ie,λO us h=>h,by rw[lN];exact fn (S9.t_evRight0 (X:=S9.FQ F0) (by omega)) (by simp only[cJ,Z6,bU,cA,ce ae]<;>rfl)⟩)
theorem pu:ct cq Om ia:=
 rn (T:=S9.T_numSum) eK (by kernel_rfl) (by kernel_rfl) (λI ae hn=>by
  have hn:decide (((I.w 0).toL.length:Int)<=1000000)=true:=hn;have hn:=j6 hn;exact fn (S9.t_numSum (ce ae) (by omega)) (by simp only[ia,Z6,bU,cA,ce ae]<;>rfl))
theorem tY:ct cq Om jA:=
 rn (T:=Td) eK (by kernel_rfl) (by kernel_rfl) (λI ae hn=>by
  have hn:decide (((I.w 0).toL.length:Int)<=1000000)=true:=hn;have hn:=j6 hn;exact fn (dp4 (ce ae) (by omega)) (by simp only[jA,Z6,bU,cA,ce ae]<;>rfl))
theorem zC:ct cq Om lH:=
 rn (T:=S9.T_down) eK (by kernel_rfl) (by kernel_rfl) (λI ae hn=>by
  have hn:((decide (1<=(I.w 1).toI)&&decide ((I.w 1).toI<=1048576))&&(decide (-1099511627776<=(I.w 0).toI)&&decide ((I.w 0).toI<=1099511627776)))=true:=hn;obtain⟨h1,h2⟩:=W5 hn;obtain⟨h3,h4⟩:=W5 h1;obtain⟨h5,h6⟩:=W5 h2;exact fn (S9.t_down (j6 h3) (j6 h4) (j6 h5) (j6 h6)) (by simp only[lH,Z6,bU,cA,ce ae]<;>rfl))
theorem qP:ct cq Om ip:=
 rn (T:=S9.T_sRight) eK (by kernel_rfl) (by kernel_rfl) (λI ae hn=>by
  exact fn (S9.t_sRight (ce ae) hn) (by simp only[ip,Z6,bU,cA,ce ae]<;>rfl))
theorem ni:ct cq Om jv:=
 rn (T:=S9.T_spanP) eK (by kernel_rfl) (by kernel_rfl) (λI ae hn=>by
  exact fn (S9.t_spanP) (by simp only[jv,Z6,bU,cA,ce ae]<;>rfl))
noncomputable def dC(n:Nat):Bool:=(List.range (n+1)).all λj=>Gl lF 1000000 90 131 (km 131 (.app 713 [aM,aO,aT,aU,aS]) (.app 714 [aM,aO,aT,aU,aS])) [.us 1 0 n 2,.int .i64 (j:Int),.sl 0 0 1 1] n j
theorem gu{P:Nat->Prop}{n:Nat}(h: ∀i,i<n->P i)(hn:P n): ∀i,i<n+1->P i:=λi hi=>by
 by_cases c:i<n
 .exact h i c
 .obtain rfl:i=n:=by omega
  exact hn
theorem xq:Gl lF 1000000 90 131 (km 131 (.app 713 [aM,aO,aT,aU,aS]) (.app 714 [aM,aO,aT,aU,aS])) [.nils,.int .i64 0,.sl 0 0 1 1] 0 0=true:=by kernel_rfl
theorem Gk:dC 0=true:=by kernel_rfl
theorem DB:dC 1=true:=by kernel_rfl
theorem FL:dC 2=true:=by kernel_rfl
theorem GQ:dC 3=true:=by kernel_rfl
theorem GW:dC 4=true:=by kernel_rfl
theorem FD:dC 5=true:=by kernel_rfl
theorem Ft:dC 6=true:=by kernel_rfl
theorem DY:dC 7=true:=by kernel_rfl
theorem DX:dC 8=true:=by kernel_rfl
theorem EN:dC 9=true:=by kernel_rfl
theorem yW:dC 10=true:=by kernel_rfl
theorem wT:dC 11=true:=by kernel_rfl
theorem yd:dC 12=true:=by kernel_rfl
theorem Am:dC 13=true:=by kernel_rfl
theorem xR:dC 14=true:=by kernel_rfl
theorem wb:dC 15=true:=by kernel_rfl
theorem wC:dC 16=true:=by kernel_rfl
theorem yT:dC 17=true:=by kernel_rfl
theorem xo:dC 18=true:=by kernel_rfl
theorem wP:dC 19=true:=by kernel_rfl
theorem yC:dC 20=true:=by kernel_rfl
theorem xP:dC 21=true:=by kernel_rfl
theorem yp:dC 22=true:=by kernel_rfl
theorem yN:dC 23=true:=by kernel_rfl
theorem Ae:dC 24=true:=by kernel_rfl
theorem qj:d09 lF 1000000 90 131 (km 131 (.app 713 [aM,aO,aT,aU,aS]) (.app 714 [aM,aO,aT,aU,aS])) 24=true:=
 Bool.and_eq_true_iff.2 ⟨xq,k6.2 λn hn=>(gu (gu (gu (gu (gu (gu (gu (gu (gu (gu (gu (gu (gu (gu (gu (gu (gu (gu (gu (gu (gu (gu (gu (gu (gu (λi hi=>absurd hi (J1 i)) Gk) DB) FL) GQ) GW) FD) Ft) DY) DX) EN) yW) wT) yd) Am) xR) wb) wC) yT) xo) wP) yC) xP) yp) yN) Ae: ∀i,i<24+1->dC i=true) n (o8.1 hn)⟩
theorem xI:ct cq Om qV:=
 (KJ (E:=cq) dA (nv:=5) (by kernel_rfl) (dh4 (E:=cq) (Ec:=lF) (N:=1000000) (M:=24) (f:=90) (e:=131) rfl (λI ae=>((NB (E:=lF) dA DV (λI ae=>bI3 λ_ _ _=>rfl) fY 1000000 I ae).1 _ (i6 _)).1) (by decide) (λI ae=>(ae.2 131).trans (by kernel_rfl)) qj (λI ae hn=>S9.sins_ok (ce ae) hn)):ct cq Om ⟨90,5,(km 131 (.app 713 [aM,aO,aT,aU,aS]) (.app 714 [aM,aO,aT,aU,aS]))⟩)
def ti:Go.Shelf.Ren:=⟨λ|6=>91|15=>119|14=>118|28=>141|29=>142|20=>133|21=>134|22=>135|23=>136|24=>137|25=>138|26=>139|27=>140|46=>151|47=>152|48=>153|49=>154|50=>155|57=>156|n=>n,λ|22=>130|24=>131|25=>155|3=>3|39=>182|0=>0|53=>210|55=>194|4=>4|46=>204|45=>203|50=>153|5=>5|9=>9|66=>219|70=>222|76=>224|77=>225|n=>n,λ|n=>n⟩
theorem qm:Go.Proofs.SlLaysF0.n6 Tryz.prog ti:={
 mixed:=by kernel_rfl
 f6:=⟨Tryz.f91.name,by decide,Tryz.func91.trans (congrArg some (by kernel_rfl))⟩
 f14:=⟨Tryz.f118.name,by decide,Tryz.func118.trans (congrArg some (by kernel_rfl))⟩
 f15:=Tryz.func119.trans (congrArg some (by kernel_rfl))
 f20:=⟨Tryz.f133.name,by decide,Tryz.func133.trans (congrArg some (by kernel_rfl))⟩
 f21:=⟨Tryz.f134.name,by decide,Tryz.func134.trans (congrArg some (by kernel_rfl))⟩
 f22:=⟨Tryz.f135.name,by decide,Tryz.func135.trans (congrArg some (by kernel_rfl))⟩
 f23:=⟨Tryz.f136.name,by decide,Tryz.func136.trans (congrArg some (by kernel_rfl))⟩
 f24:=⟨Tryz.f137.name,by decide,Tryz.func137.trans (congrArg some (by kernel_rfl))⟩
 f25:=⟨Tryz.f138.name,by decide,Tryz.func138.trans (congrArg some (by kernel_rfl))⟩
 f26:=⟨Tryz.f139.name,by decide,Tryz.func139.trans (congrArg some (by kernel_rfl))⟩
 f27:=⟨Tryz.f140.name,by decide,Tryz.func140.trans (congrArg some (by kernel_rfl))⟩
 f28:=Tryz.func141.trans (congrArg some (by kernel_rfl))
 f29:=Tryz.func142.trans (congrArg some (by kernel_rfl))
 f46:=⟨Tryz.f151.name,by decide,Tryz.func151.trans (congrArg some (by kernel_rfl))⟩
 f47:=Tryz.func152.trans (congrArg some (by kernel_rfl))
 f48:=Tryz.func153.trans (congrArg some (by kernel_rfl))
 f49:=⟨Tryz.f154.name,by decide,Tryz.func154.trans (congrArg some (by kernel_rfl))⟩
 f50:=⟨Tryz.f155.name,by decide,Tryz.func155.trans (congrArg some (by kernel_rfl))⟩
 f57:=⟨Tryz.f156.name,by decide,Tryz.func156.trans (congrArg some (by kernel_rfl))⟩
 t0:=Tryz.underlying0
 a0:=Tryz.isAgg0
 z0:=Tryz.sizeOf0
 v0:=Tryz.zeroValue0
 t3:=Tryz.underlying3
 a3:=Tryz.isAgg3
 z3:=Tryz.sizeOf3
 v3:=Tryz.zeroValue3
 t4:=Tryz.underlying4
 a4:=Tryz.isAgg4
 z4:=Tryz.sizeOf4
 v4:=Tryz.zeroValue4
 t5:=Tryz.underlying5
 a5:=Tryz.isAgg5
 z5:=Tryz.sizeOf5
 v5:=Tryz.zeroValue5
 t9:=Tryz.underlying9
 a9:=Tryz.isAgg9
 z9:=Tryz.sizeOf9
 v9:=Tryz.zeroValue9
 t22:=Tryz.underlying130
 a22:=Tryz.isAgg130
 z22:=Tryz.sizeOf130
 v22:=Tryz.zeroValue130
 t25:=Tryz.underlying155
 a25:=Tryz.isAgg155
 z25:=Tryz.sizeOf155
 v25:=Tryz.zeroValue155
 t39:=Tryz.underlying182
 a39:=Tryz.isAgg182
 z39:=Tryz.sizeOf182
 v39:=Tryz.zeroValue182
 t45:=Tryz.underlying203
 a45:=Tryz.isAgg203
 z45:=Tryz.sizeOf203
 v45:=Tryz.zeroValue203
 t46:=Tryz.underlying204
 a46:=Tryz.isAgg204
 z46:=Tryz.sizeOf204
 v46:=Tryz.zeroValue204
 t50:=Tryz.underlying153
 a50:=Tryz.isAgg153
 z50:=Tryz.sizeOf153
 v50:=Tryz.zeroValue153
 t53:=Tryz.underlying210
 a53:=Tryz.isAgg210
 z53:=Tryz.sizeOf210
 v53:=Tryz.zeroValue210
 t55:=Tryz.underlying194
 a55:=Tryz.isAgg194
 z55:=Tryz.sizeOf194
 v55:=Tryz.zeroValue194
 t66:=Tryz.underlying219
 a66:=Tryz.isAgg219
 z66:=Tryz.sizeOf219
 v66:=Tryz.zeroValue219
 t70:=Tryz.underlying222
 a70:=Tryz.isAgg222
 z70:=Tryz.sizeOf222
 v70:=Tryz.zeroValue222
 t76:=Tryz.underlying224
 a76:=Tryz.isAgg224
 z76:=Tryz.sizeOf224
 v76:=Tryz.zeroValue224
 t77:=Tryz.underlying225
 a77:=Tryz.isAgg225
 z77:=Tryz.sizeOf225
 v77:=Tryz.zeroValue225}
noncomputable def om0:Opq:=⟨ax.v,ax.w,F,ax.one,fC Tryz.prog,λ_=>none⟩
theorem xd(G:Nat->List Val->Val)(P:Program):Qd G P ⟨ax.v,ax.w,G,ax.one,fC P,λ_=>none⟩:=⟨rfl,λ_=>rfl⟩
theorem yx:Om om0:=xd F Tryz.prog
theorem Fp:Lw Tryz.prog 92 [.int .i64,.int .i64] S9.spanV:=
 dC2 (E:=cq) dA yx ni (x:= .app 712 [aM,aO,aT,aU]) (h2:=Heap.empty) (by kernel_rfl) (λI ae a b ha hb=>by
  have a0:I.w 0=a.toL.getD 0 default:=ha 0 (by decide);have a1:I.w 1=a.toL.getD 1 default:=ha 1 (by decide);have b0:I.w 2=b.toL.getD 0 default:=hb 0 (by decide);have b1:I.w 3=b.toL.getD 1 default:=hb 1 (by decide);show(I.f 712 [I.w 0,I.w 1,I.w 2,I.w 3]).toI=_;rw[ce ae,a0,a1,b0,b1];rfl)
theorem mT:ct cq Om mW:=
 (KJ (E:=cq) dA (nv:=2) (by kernel_rfl) (df8 (E:=cq) qm (f:=91) rfl (g:=92) (sig:=[.int .i64,.int .i64]) (e:=131) (id:=715) (cf:=S9.spanV) Tryz.isAgg131 Tryz.sizeOf131 S9.swo_spanV (enters_of Tryz.func92 (by kernel_rfl) rfl) Fp (λI ae l=>by rw[ce ae];rfl) (by kernel_rfl)):ct cq Om ⟨91,2,Ei 92 131 [.int .i64,.int .i64] 715⟩)
theorem qI:ct cq Om fH:=
 (KJ (E:=cq) dA (nv:=2) (by kernel_rfl) (dh0 dA mT (g:=92) (e:=131) (sig:=[.int .i64,.int .i64]) (need:=fH.c.need) (id:=715) (by kernel_rfl) (by kernel_rfl) (λI ae hn=>S9.sortsb_ok (ce ae) hn) (by kernel_rfl)):ct cq Om ⟨91,2,Nj 92 131 [.int .i64,.int .i64] fH.c.need 715⟩)
theorem po:ct cq Om ii:=
 rn (T:=LR) eK (by kernel_rfl) (by kernel_rfl) (λI ae hn=>by
  have hn:(decide (((I.w 0).toL.length:Int)<=400)&&(I.f 431 [I.w 0]).toB)=true:=hn;obtain⟨h1,h2⟩:=W5 hn;rw[ce ae]at h2;exact(S7.t_cloneR (ce ae) (by have:=j6 h1;omega) h2).trans (by simp only[ii,Z6,bU,ce ae]))
theorem tr:ct cq Om jI:=
 rn (T:=WL) eK (by kernel_rfl) (by kernel_rfl) (λI ae hn=>by
  have hn:(I.f 420 [I.w 0,I.w 1,I.w 2,I.w 3,I.w 4]).toB=true:=hn;rw[ce ae]at hn;exact(S7.t_swapR (ce ae) hn).trans (by simp only[jI,Z6,bU,ce ae]))
theorem zD:ct cq Om lc:=
 rn (T:=IT) eK (by kernel_rfl) (by kernel_rfl) (λI ae hn=>by
  exact S7.t_cmpR.trans (by simp only[lc,Z6,bU,ce ae]))
theorem HE: ∀x∈L3,ct cq Om x:=by
 exact cV (cV (cV (cV (cV (cV (cV (cV (cV (cV (cV (cV (cV (λx hx=>(by cases hx)) zD) tr) po) qI) mT) xI) ni) qP) zC) tY) pu) nN) qh
theorem kC: ∀x∈H4,ct cq Om x:=eN eK HE
theorem we:ct cq Om lB:=
 rn (T:=d15) kC (by kernel_rfl) (by kernel_rfl) (λI ae hn=>by
  have hn:(I.f 422 [I.w 0,I.w 1,I.w 2,I.w 3,I.w 4]).toB=true:=hn;rw[ce ae]at hn;exact(S7.t_rotC (ce ae) hn).trans (by simp only[lB,Z6,bU,ce ae]))
theorem GH:ct cq Om qG:=
 rn (T:=S9.T_wOf) kC (by kernel_rfl) (by kernel_rfl) (λI ae hn=>by
  exact fn (S9.t_wOf (ce ae)) (by simp only[qG,Z6,bU,cA,ce ae]<;>rfl))
theorem wA:ct cq Om lw:=
 rn (T:=S9.T_join) kC (by kernel_rfl) (by kernel_rfl) (λI ae hn=>by
  have hn:decide (((I.w 0).toL.length:Int)<=1000)=true:=hn;have hn:=j6 hn;exact fn (S9.t_join (ce ae) (by omega)) (by simp only[lw,Z6,bU,cA,ce ae]<;>rfl))
theorem nH:ct cq Om fQ:=
 rn (T:=S9.T_sinsert) kC (by kernel_rfl) (by kernel_rfl) (λI ae hn=>by
  exact fn (S9.t_sinsert (ce ae) hn) (by simp only[fQ,Z6,bU,cA,ce ae]<;>rfl))
theorem Dj: ∀x∈L4,ct cq Om x:=by
 exact cV (cV (cV (cV (λx hx=>(by cases hx)) nH) wA) GH) we
theorem mY: ∀x∈H5,ct cq Om x:=eN kC Dj
theorem yA:ct cq Om lu:=
 rn (T:=d18) mY (by kernel_rfl) (by kernel_rfl) (λI ae hn=>by
  have hn:(I.f 424 [I.w 0,I.w 1,I.w 2,I.w 3]).toB=true:=hn;rw[ce ae]at hn;exact(S7.t_insC (ce ae) hn).trans (by simp only[lu,Z6,bU,ce ae]))
theorem yE:ct cq Om qQ:=
 Dz (E:=cq) (cs:=H5) dA ul fY mY (n:=1000000) (by kernel_rfl) (λI ae hn=>by
  have hn:(I.f 426 [I.w 0,I.w 1,I.w 2,I.w 3,I.w 4,.vi 1]).toB=true:=hn;rw[ce ae]at hn;exact(S7.sym_vac hn).elim)
theorem zM:ct cq Om mJ:=
 rn (T:=S9.T_aput) mY (by kernel_rfl) (by kernel_rfl) (λI ae hn=>by
  exact fn (S9.t_aput (ce ae)) (by simp only[mJ,Z6,bU,cA,ce ae]<;>rfl))
theorem DS: ∀x∈L5,ct cq Om x:=by
 exact cV (cV (cV (λx hx=>(by cases hx)) zM) yE) yA
theorem ve: ∀x∈H6,ct cq Om x:=eN mY DS
theorem wN:ct cq Om mz:=
 rn (T:=pY 1) ve (by kernel_rfl) (by kernel_rfl) (λI ae hn=>by
  have hn:(I.f 426 [I.w 0,I.w 1,I.w 2,I.w 3,I.w 4,.vi 2]).toB=true:=hn;rw[ce ae]at hn;exact(S7.t_sym (B:=1) (ce ae) hn).trans (by simp only[mz,Z6,bU,ce ae]))
theorem DQ: ∀x∈L6,ct cq Om x:=by
 exact cV (λx hx=>(by cases hx)) wN
theorem vD: ∀x∈H7,ct cq Om x:=eN ve DQ
theorem zZ:ct cq Om lV:=
 rn (T:=pY 2) vD (by kernel_rfl) (by kernel_rfl) (λI ae hn=>by
  have hn:(I.f 426 [I.w 0,I.w 1,I.w 2,I.w 3,I.w 4,.vi 4]).toB=true:=hn;rw[ce ae]at hn;exact(S7.t_sym (B:=2) (ce ae) hn).trans (by simp only[lV,Z6,bU,ce ae]))
theorem FZ: ∀x∈L7,ct cq Om x:=by
 exact cV (λx hx=>(by cases hx)) zZ
theorem uH: ∀x∈H8,ct cq Om x:=eN vD FZ
theorem Aa:ct cq Om mf:=
 rn (T:=pY 4) uH (by kernel_rfl) (by kernel_rfl) (λI ae hn=>by
  have hn:(I.f 426 [I.w 0,I.w 1,I.w 2,I.w 3,I.w 4,.vi 8]).toB=true:=hn;rw[ce ae]at hn;exact(S7.t_sym (B:=4) (ce ae) hn).trans (by simp only[mf,Z6,bU,ce ae]))
theorem FA: ∀x∈L8,ct cq Om x:=by
 exact cV (λx hx=>(by cases hx)) Aa
theorem vB: ∀x∈H9,ct cq Om x:=eN uH FA
theorem yH:ct cq Om mE:=
 rn (T:=pY 8) vB (by kernel_rfl) (by kernel_rfl) (λI ae hn=>by
  have hn:(I.f 426 [I.w 0,I.w 1,I.w 2,I.w 3,I.w 4,.vi 16]).toB=true:=hn;rw[ce ae]at hn;exact(S7.t_sym (B:=8) (ce ae) hn).trans (by simp only[mE,Z6,bU,ce ae]))
theorem Dx: ∀x∈L9,ct cq Om x:=by
 exact cV (λx hx=>(by cases hx)) yH
theorem pB: ∀x∈H10,ct cq Om x:=eN vB Dx
theorem yU:ct cq Om mC:=
 rn (T:=pY 16) pB (by kernel_rfl) (by kernel_rfl) (λI ae hn=>by
  have hn:(I.f 426 [I.w 0,I.w 1,I.w 2,I.w 3,I.w 4,.vi 32]).toB=true:=hn;rw[ce ae]at hn;exact(S7.t_sym (B:=16) (ce ae) hn).trans (by simp only[mC,Z6,bU,ce ae]))
theorem wV: ∀x∈L10,ct cq Om x:=by
 exact cV (λx hx=>(by cases hx)) yU
theorem qO: ∀x∈WG,ct cq Om x:=eN pB wV
theorem zN:ct cq Om lO:=
 rn (T:=pY 32) qO (by kernel_rfl) (by kernel_rfl) (λI ae hn=>by
  have hn:(I.f 426 [I.w 0,I.w 1,I.w 2,I.w 3,I.w 4,.vi 64]).toB=true:=hn;rw[ce ae]at hn;exact(S7.t_sym (B:=32) (ce ae) hn).trans (by simp only[lO,Z6,bU,ce ae]))
theorem xX: ∀x∈L11,ct cq Om x:=by
 exact cV (λx hx=>(by cases hx)) zN
theorem qy: ∀x∈H12,ct cq Om x:=eN qO xX
theorem zF:ct cq Om lK:=
 rn (T:=pY 64) qy (by kernel_rfl) (by kernel_rfl) (λI ae hn=>by
  have hn:(I.f 426 [I.w 0,I.w 1,I.w 2,I.w 3,I.w 4,.vi 128]).toB=true:=hn;rw[ce ae]at hn;exact(S7.t_sym (B:=64) (ce ae) hn).trans (by simp only[lK,Z6,bU,ce ae]))
theorem Ab: ∀x∈L12,ct cq Om x:=by
 exact cV (λx hx=>(by cases hx)) zF
theorem qe: ∀x∈Ys,ct cq Om x:=eN qy Ab
theorem xK:ct cq Om lL:=
 rn (T:=pY 128) qe (by kernel_rfl) (by kernel_rfl) (λI ae hn=>by
  have hn:(I.f 426 [I.w 0,I.w 1,I.w 2,I.w 3,I.w 4,.vi 256]).toB=true:=hn;rw[ce ae]at hn;exact(S7.t_sym (B:=128) (ce ae) hn).trans (by simp only[lL,Z6,bU,ce ae]))
theorem Al: ∀x∈Yd,ct cq Om x:=by
 exact cV (λx hx=>(by cases hx)) xK
theorem pP: ∀x∈H14,ct cq Om x:=eN qe Al
theorem xC:ct cq Om my:=
 rn (T:=pY 256) pP (by kernel_rfl) (by kernel_rfl) (λI ae hn=>by
  have hn:(I.f 426 [I.w 0,I.w 1,I.w 2,I.w 3,I.w 4,.vi 512]).toB=true:=hn;rw[ce ae]at hn;exact(S7.t_sym (B:=256) (ce ae) hn).trans (by simp only[my,Z6,bU,ce ae]))
theorem wl: ∀x∈L14,ct cq Om x:=by
 exact cV (λx hx=>(by cases hx)) xC
theorem pF: ∀x∈H15,ct cq Om x:=eN pP wl
theorem xe:ct cq Om lZ:=
 rn (T:=d28) pF (by kernel_rfl) (by kernel_rfl) (λI ae hn=>by
  have hn:(I.f 428 [I.w 0,I.w 1,I.w 2]).toB=true:=hn;rw[ce ae]at hn;exact(S7.t_stab (ce ae) hn).trans (by simp only[lZ,Z6,bU,ce ae]))
theorem xH: ∀x∈L15,ct cq Om x:=by
 exact cV (λx hx=>(by cases hx)) xe
theorem pd: ∀x∈H16,ct cq Om x:=eN pF xH
theorem tP:ct cq Om jB:=
 rn (T:=Wm) pd (by kernel_rfl) (by kernel_rfl) (λI ae hn=>by
  have hn:(decide (((I.w 0).toL.length:Int)<=400)&&(I.f 431 [I.w 0]).toB)=true:=hn;obtain⟨h1,h2⟩:=W5 hn;rw[ce ae]at h2;exact(S7.t_sstab (ce ae) (by have:=j6 h1;omega) h2).trans (by simp only[jB,Z6,bU,cA,ce ae]))
theorem zr: ∀x∈L16,ct cq Om x:=by
 exact cV (λx hx=>(by cases hx)) tP
theorem qW: ∀x∈ZX,ct cq Om x:=eN pd zr
theorem iT:ct cq Om eT:=
 rn (T:=by3) qW (by kernel_rfl) (by kernel_rfl) (λI ae hn=>by
  have hn:(decide (((I.w 0).toL.length:Int)<=400)&&(I.f 431 [I.w 0]).toB)=true:=hn;obtain⟨h1,h2⟩:=W5 hn;rw[ce ae]at h2;exact(S7.t_aggSort (ce ae) (by have:=j6 h1;omega) h2).trans (by simp only[eT,Z6,bU,ce ae]))
theorem mb:ct cq Om fp:=
 (KJ (E:=cq) dA (nv:=2) (by kernel_rfl) (df9 dA iT (e:=63) (sig:=[.str,.int .i64,.int .i64,.int .i64,.int .i64,.int .i64,.int .i64]) (id:=490) (by kernel_rfl) (λI ae hn=>dI5 (ce ae) hn) (by kernel_rfl)):ct cq Om ⟨eT.f,2,Bh 63 [.str,.int .i64,.int .i64,.int .i64,.int .i64,.int .i64,.int .i64] fp.c.need 490⟩)
theorem xw: ∀x∈XC,ct cq Om x:=by
 exact cV (cV (λx hx=>(by cases hx)) mb) iT
theorem jq: ∀x∈H18,ct cq Om x:=eN qW xw
theorem tj:ct cq Om jK:=
 rn (T:=S9.T_trows) jq (by kernel_rfl) (by kernel_rfl) (λI ae hn=>by
  exact fn (S9.t_trows (ce ae) (λv h=>QM h) hn) (by simp only[jK,Z6,bU,cA,ce ae]<;>rfl))
theorem yl:ct cq Om mg:=
 rn (T:=S9.T_tget) jq (by kernel_rfl) (by kernel_rfl) (λI ae hn=>by
  exact fn (S9.t_tget) (by simp only[mg,Z6,bU,cA,ce ae]<;>rfl))
theorem th:ct cq Om jH:=
 rn (T:=S9.T_tsess) jq (by kernel_rfl) (by kernel_rfl) (λI ae hn=>by
  exact fn (S9.t_tsess (ce ae) e11 hn) (by simp only[jH,Z6,bU,cA,ce ae]<;>rfl))
theorem yh: ∀x∈Xq,ct cq Om x:=by
 exact cV (cV (cV (λx hx=>(by cases hx)) th) yl) tj
theorem lD: ∀x∈H19,ct cq Om x:=eN jq yh
theorem pV:ct cq Om gU:=
 rn (T:=S9.T_joined) lD (by kernel_rfl) (by kernel_rfl) (λI ae hn=>by
  exact fn (S9.t_joined (ce ae) hn) (by simp only[gU,Z6,bU,cA,ce ae]<;>rfl))
theorem uk:ct cq Om jr:=
 rn (T:=S9.T_fired) lD (by kernel_rfl) (by kernel_rfl) (λI ae hn=>by
  have hn:((decide (((I.w 4).toL.length:Int)<=400)&&(I.f 431 [I.w 4]).toB)&&(I.f 491 [I.w 4]).toB)=true:=hn;obtain⟨hn,h3⟩:=W5 hn;obtain⟨h1,h2⟩:=W5 hn;rw[ce ae]at h2 h3;have h1:=j6 h1;exact fn (S9.c_fired (ce ae) (by omega) h2 h3) (by simp only[jr,Z6,bU,cA,ce ae]<;>rfl))
theorem wp: ∀x∈L19,ct cq Om x:=by
 exact cV (cV (λx hx=>(by cases hx)) uk) pV
theorem pE: ∀x∈H20,ct cq Om x:=eN lD wp
theorem wv:ct cq Om mA:=
 rn (T:=S9.T_sess) pE (by kernel_rfl) (by kernel_rfl) (λI ae hn=>by
  exact fn (S9.t_sess (ce ae) hn) (by simp only[mA,Z6,bU,cA,ce ae]<;>rfl))
theorem zO: ∀x∈L20,ct cq Om x:=by
 exact cV (λx hx=>(by cases hx)) wv
theorem pD: ∀x∈ZI,ct cq Om x:=eN pE zO
theorem Dk:ct cq Om pb:=
 rn (T:=S9.T_tryE) pD (by kernel_rfl) (by kernel_rfl) (λI ae hn=>by
  exact fn (S9.t_tryE (ce ae) S9.fe_x.x431 hn) (by simp only[pb,Z6,bU,cA,ce ae]<;>rfl))
theorem yk: ∀x∈L21,ct cq Om x:=by
 exact cV (λx hx=>(by cases hx)) Dk
theorem qz: ∀x∈H22,ct cq Om x:=eN pD yk
theorem FX:ct cq Om qD:=
 rn (T:=S9.T_put) qz (by kernel_rfl) (by kernel_rfl) (λI ae hn=>by
  exact fn (S9.put_t (ce ae) hn) (by simp only[qD,Z6,bU,cA,ce ae]<;>rfl))
theorem wc: ∀x∈XI,ct cq Om x:=by
 exact cV (λx hx=>(by cases hx)) FX
theorem Ak: ∀x∈Xh,ct cq Om x:=eN qz wc
theorem yD: ∀x∈L23,ct cq Om x:=by
 exactλx hx=>(by cases hx)
theorem Ah: ∀x∈XR,ct cq Om x:=eN Ak yD
theorem wR: ∀x∈XJ,ct cq Om x:=by
 exactλx hx=>(by cases hx)
theorem eA: ∀x∈H25,ct cq Om x:=eN Ah wR
theorem qH:ct cq Om gW:=
 rn (T:=S9.T_rRight) eA (by kernel_rfl) (by kernel_rfl) (λI ae hn=>by
  exact fn (S9.c_rRight) (by simp only[gW,Z6,bU,cA,ce ae]<;>rfl))
theorem FP:ct cq Om qU:=
 rn (T:=S9.T_rev) eA (by kernel_rfl) (by kernel_rfl) (λI ae hn=>by
  exact fn (S9.c_rev) (by simp only[qU,Z6,bU,cA,ce ae]<;>rfl))
theorem xc:ct cq Om ld:=
 rn (T:=S9.T_r3of) eA (by kernel_rfl) (by kernel_rfl) (λI ae hn=>by
  exact fn (S9.c_r3of) (by simp only[ld,Z6,bU,cA,ce ae]<;>rfl))
theorem qA:ct cq Om gX:=
 rn (T:=S9.T_r3plus) eA (by kernel_rfl) (by kernel_rfl) (λI ae hn=>by
  exact fn (S9.c_r3plus) (by simp only[gX,Z6,bU,cA,ce ae]<;>rfl))
theorem sQ:ct cq Om jp:=
 rn (T:=S9.T_sameV) eA (by kernel_rfl) (by kernel_rfl) (λI ae hn=>by
  have hn:decide (((I.w 0).toL.length:Int)<=1000000)=true:=hn;have hn:=j6 hn;exact fn (dp8 (ce ae) (by omega)) (by simp only[jp,Z6,bU,cA,ce ae]<;>rfl))
theorem Eu:ct cq Om pt:=
 rn (T:=S9.T_has) eA (by kernel_rfl) (by kernel_rfl) (λI ae hn=>by
  have hn:decide (((I.w 0).toL.length:Int)<=1000000)=true:=hn;have hn:=j6 hn;exact fn (S9.c_has (ce ae) (by omega)) (by simp only[pt,Z6,bU,cA,ce ae]<;>rfl))
theorem pn:ct cq Om hZ:=
 rn (T:=S9.T_rFired) eA (by kernel_rfl) (by kernel_rfl) (λI ae hn=>by
  have hn:(decide (((I.w 0).toL.length:Int)<=400)&&(I.f 431 [I.w 0]).toB)=true:=hn;obtain⟨h1,h2⟩:=W5 hn;rw[ce ae]at h2;have h1:=j6 h1;exact fn (S9.c_rFired (ce ae) (by omega)) (by simp only[hZ,Z6,bU,cA,ce ae]<;>rfl))
theorem sU:ct cq Om jg:=
 rn (T:=cE4) eA (by kernel_rfl) (by kernel_rfl) (λI ae hn=>by
  have hn:(decide (((I.w 0).toL.length:Int)<=400)&&(I.f 431 [I.w 0]).toB)=true:=hn;obtain⟨h1,h2⟩:=W5 hn;rw[ce ae]at h2;have h1:=j6 h1;exact fn (S7.t_sort5 (ce ae) (by omega) h2) (by simp only[jg,Z6,bU,cA,ce ae]<;>rfl))
theorem yb: ∀x∈L25,ct cq Om x:=by
 exact cV (cV (cV (cV (cV (cV (cV (cV (λx hx=>(by cases hx)) sU) pn) Eu) sQ) qA) xc) FP) qH
theorem mD: ∀x∈Yr,ct cq Om x:=eN eA yb
theorem tC:ct cq Om jy:=
 rn (T:=S9.T_r3fit) mD (by kernel_rfl) (by kernel_rfl) (λI ae hn=>by
  exact fn (S9.c_r3fit (ce ae)) (by simp only[jy,Z6,bU,cA,ce ae]<;>rfl))
theorem FW:ct cq Om pT:=
 rn (T:=S9.T_rOf) mD (by kernel_rfl) (by kernel_rfl) (λI ae hn=>by
  exact fn (S9.c_rOf (ce ae)) (by simp only[pT,Z6,bU,cA,ce ae]<;>rfl))
theorem yq: ∀x∈ZW,ct cq Om x:=by
 exact cV (cV (λx hx=>(by cases hx)) FW) tC
theorem lC: ∀x∈H27,ct cq Om x:=eN mD yq
theorem uh:ct cq Om jj:=
 rn (T:=S9.T_r3Sum) lC (by kernel_rfl) (by kernel_rfl) (λI ae hn=>by
  have hn:decide (((I.w 0).toL.length:Int)<=100)=true:=hn;have hn:=j6 hn;exact fn (S9.c_r3Sum (ce ae) (by omega)) (by simp only[jj,Z6,bU,cA,ce ae]<;>rfl))
theorem DM:ct cq Om qd:=
 rn (T:=S9.T_sOf) lC (by kernel_rfl) (by kernel_rfl) (λI ae hn=>by
  have hn:decide (((I.w 1).toL.length:Int)<=100)=true:=hn;have hn:=j6 hn;exact fn (S9.c_sOf (ce ae) (by omega)) (by simp only[qd,Z6,bU,cA,ce ae]<;>rfl))
theorem wD: ∀x∈L27,ct cq Om x:=by
 exact cV (cV (λx hx=>(by cases hx)) DM) uh
theorem ll: ∀x∈H28,ct cq Om x:=eN lC wD
theorem yj:ct cq Om lJ:=
 rn (T:=S9.T_rAll) ll (by kernel_rfl) (by kernel_rfl) (λI ae hn=>by
  have hn:decide (((I.w 0).toL.length:Int)<=100)=true:=hn;have hn:=j6 hn;exact fn (S9.c_rAll (ce ae) (by omega)) (by simp only[lJ,Z6,bU,cA,ce ae]<;>rfl))
theorem qn:ct cq Om ij:=
 rn (T:=S9.T_rSpans) ll (by kernel_rfl) (by kernel_rfl) (λI ae hn=>by
  have hn:decide (((I.w 4).toL.length:Int)<=100)=true:=hn;have hn:=j6 hn;exact fn (S9.c_rSpans (ce ae) (by omega)) (by simp only[ij,Z6,bU,cA,ce ae]<;>rfl))
theorem wB: ∀x∈Zn,ct cq Om x:=by
 exact cV (cV (λx hx=>(by cases hx)) qn) yj
theorem pw: ∀x∈H29,ct cq Om x:=eN ll wB
theorem tv:ct cq Om jk:=
 rn (T:=S9.T_rRows) pw (by kernel_rfl) (by kernel_rfl) (λI ae hn=>by
  have hn:(decide (((I.w 4).toL.length:Int)<=100)&&(I.f 840 [I.w 0,I.w 1,I.w 2,I.w 3,I.w 4]).toB)=true:=hn;have h2:=(W5 hn).2;rw[ce ae]at h2;exact fn (S9.c_rRows (ce ae) h2) (by simp only[jk,Z6,bU,cA,ce ae]<;>rfl))
theorem zJ: ∀x∈L29,ct cq Om x:=by
 exact cV (λx hx=>(by cases hx)) tv
theorem zR: ∀x∈Xo,ct cq Om x:=eN pw zJ
theorem xS: ∀x∈L30,ct cq Om x:=by
 exactλx hx=>(by cases hx)
theorem xW: ∀x∈YI,ct cq Om x:=eN zR xS
theorem xV: ∀x∈Vp,ct cq Om x:=by
 exactλx hx=>(by cases hx)
theorem jJ: ∀x∈H32,ct cq Om x:=eN xW xV
theorem EZ:ct cq Om qb:=
 rn (T:=S9.T_few) jJ (by kernel_rfl) (by kernel_rfl) (λI ae hn=>by
  exact fn (S9.t_few (ce ae)) (by simp only[qb,Z6,bU,cA,ce ae]<;>rfl))
theorem ui:ct cq Om ji:=
 rn (T:=S9.T_lrows) jJ (by kernel_rfl) (by kernel_rfl) (λI ae hn=>by
  have hn:(decide (((I.w 0).toL.length:Int)<=400)&&(I.f 431 [I.w 0]).toB)=true:=hn;obtain⟨h1,h2⟩:=W5 hn;rw[ce ae]at h2;have h1:=j6 h1;exact fn (S9.c_lrows (ce ae) (by omega) h2) (by simp only[ji,Z6,bU,cA,ce ae]<;>rfl))
theorem kg:ct cq Om eP:=
 rn (T:=S9.T_samePanes) jJ (by kernel_rfl) (by kernel_rfl) (λI ae hn=>by
  have hn:decide (((I.w 0).toL.length:Int)<=400)=true:=hn;have hn:=j6 hn;exact fn (S9.t_samePanes (λa=>ce ae 924 a) (by omega)) (by simp only[eP,Z6,bU,cA,ce ae]<;>rfl))
theorem Ad: ∀x∈L32,ct cq Om x:=by
 exact cV (cV (cV (λx hx=>(by cases hx)) kg) ui) EZ
theorem pH: ∀x∈H33,ct cq Om x:=eN jJ Ad
theorem wy:ct cq Om mh:=
 rn (T:=S9.T_rTry) pH (by kernel_rfl) (by kernel_rfl) (λI ae hn=>by
  have hn:(decide (((I.w 4).toL.length:Int)<=100)&&(I.f 906 [I.w 0,I.w 1,I.w 2,I.w 3,I.w 4,I.w 5,I.w 6,I.w 7,I.w 8]).toB)=true:=hn;have h2:=(W5 hn).2;rw[ce ae]at h2;exact fn (S9.c_rTry (ce ae) h2) (by simp only[mh,Z6,bU,cA,ce ae]<;>rfl))
theorem wH: ∀x∈XM,ct cq Om x:=by
 exact cV (λx hx=>(by cases hx)) wy
theorem md: ∀x∈PT,ct cq Om x:=eN pH wH
theorem TC:ct cq Om zI:=
 rn (T:=S9.T_is) md (by kernel_rfl) (by kernel_rfl) (λI ae hn=>by
  have hn:(decide (((I.w 9).toL.length:Int)<=100)&&(I.f 907 [I.w 0,I.w 1,I.w 2,I.w 3,I.w 4,I.w 5,I.w 6,I.w 7,I.w 8,I.w 9,I.w 10]).toB)=true:=hn;have h2:=(W5 hn).2;rw[ce ae]at h2;exact fn (S9.t_is (ce ae) h2) (by simp only[zI,Z6,bU,cA,ce ae]<;>rfl))
theorem He:ct cq Om wa:=
 Dz (E:=cq) (cs:=PT) dA ul fY md (n:=1000000) (by kernel_rfl) (λI ae hn=>absurd (show false=true from hn) (by decide))
theorem zf: ∀x∈L34,ct cq Om x:=by
 exact cV (cV (λx hx=>(by cases hx)) He) TC
theorem yP: ∀x∈H35,ct cq Om x:=eN md zf
theorem Dm:ct cq Om eu:=
 rn (T:=S9.T_puts) yP (by kernel_rfl) (by kernel_rfl) (λI ae hn=>by
  have hn:(I.f 908 [I.w 0,I.w 1,I.w 2,I.w 3,I.w 4,I.w 5,I.w 6,I.w 7,I.w 8]).toB=true:=hn;rw[ce ae]at hn;exact(S9.t_puts (ce ae) hn).trans (by simp only[eu,Z6,bU]))
end Go.Proofs.YtipefnncbnbliaaGreat.Ctr
