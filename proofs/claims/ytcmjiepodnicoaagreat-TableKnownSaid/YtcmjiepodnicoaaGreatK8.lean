import Derived.Test.YtcmjiepodnicoaaGreatRows
import Derived.Test.YtcmjiepodnicoaaGreatEQ1
import Derived.Test.YtcmjiepodnicoaaGreatE43
import Derived.ProofKit
set_option linter.unusedVariables false
set_option linter.unusedSimpArgs false
namespace Go.Proofs.YtcmjiepodnicoaaGreat.Ctr
open Go Go.Ev Go.Shelf
def funIn(t g:Nat)(a:Fr):Bool:=match a.slot t with
 | .func (.func f) _ _=>Nat.beq f g
 |_=>false
noncomputable def kP:Env:=⟨Tryz.prog,λf=>bif Nat.beq f 68 then some (.mapsClone)else bif Nat.beq f 121 then some (.overlaps 138 4)else none,λ_=>false,λ_=>false,λ_ _ _=> .bad,λ_ _=>none,λ_ _ _ _=>none⟩
abbrev dJ:List CT:=[.str,.int .i64,.int .i64,.int .i64,.int .i64,.int .i64,.int .i64]
abbrev gw:List CT:=[.int .i64,.int .i64]
abbrev nB:List CT:=[.str,.int .i64,.int .i64]
abbrev yE:List CT:=[.int .i64,.int .i64,.int .i64,.int .i64]
abbrev oU:List CT:=[.int .u8,.str,.int .i64,.int .i64]
abbrev sk:AV:= .agg [.oint .u8 aN,.oint .i64 aO,.oint .i64 aT,.oint .i64 aU]
abbrev Do:AV:= .agg [.oint .i64 bh,.oint .i64 bA,.oint .i64 bM,.oint .i64 bW]
abbrev GI:AV:= .agg [.oint .i64 aN,.oint .i64 aO,.oint .i64 aT,.oint .i64 aU]
abbrev Ef:AV:= .agg [.oint .u8 be,.ostr bd,.oint .i64 bf,.oint .i64 bi]
abbrev NS:AV:= .agg [.oint .u8 aN,.ostr aO,.oint .i64 aT,.oint .i64 aU]
abbrev kw:Blk:= .cells 83 0 [.oint .u8 aN,.oint .i64 aO,.oint .i64 aT,.oint .i64 aU,.map 1]
abbrev kh:Blk:= .marr false nB yE aS
noncomputable def Et(f:FuncId)(r:Nat)(a:Fr)(h:Heap):Option LSpec:=bif Nat.beq f 148&&Nat.beq r 1 then some (dy ⟨452,2000,[11,12,13,14,15,16,17,18,19,20,21,22,23,24,25,26,27,28,29,30,31,32,33,34,35,36,37],[],[10],[0],[0,1,2,3],[(.exit 0,[])],[],[],false,[]⟩ a h)else bif Nat.beq f 125&&Nat.beq r 2 then some (dy ⟨458,2000,[18,19,20,21,22,23,24,25,26,27,28,29,30,31,32,33,34,35,36,37,38,39,40,41,42,43,44,45,46,47,48,49],[],[10,11],[0],[0,2,4],[(.exit 0,[])],[],[],false,[]⟩ a h)else bif Nat.beq f 102&&Nat.beq r 1 then some (dy ⟨460,2000,[9,12,13,14,15,16,17,18,19,20,21,22,23,24,25,26,27,28,29,30,31,32,33,34,35,36,37,38,39,40,41,42,43,44,45,46,47,48,49,50,51,52],[],[8],[0],[0,1,2,3],[(.exit 0,[])],[],[],false,[]⟩ a h)else bif Nat.beq f 102&&Nat.beq r 4 then some (dy ⟨461,3000,[18,19,20,21,22,23,24,25,26,27,28,29,30,31,32,33,34,35,36,37,38,39,40,41,42,43,44,45,46,47,48,49,50,51,52],[],[9],[0],[0,1,2,3,8],[(.exit 2,[])],[],[],false,[]⟩ a h)else bif Nat.beq f 103&&Nat.beq r 3 then some (dy ⟨462,2000,[12,31,32,33,34,35,36,37,38,39,40,41,42,43,44,45,46,47,48,49,50,51,52,53],[],[10,11],[],[0,1,4],[(.exit 0,[])],[],[],false,[]⟩ a h)else bif Nat.beq f 103&&Nat.beq r 9 then some (dy ⟨463,3000,[55,56,57,58,59,60,61,62,63,64,65,66,67,68,69,70,71,72,73,74,75,76],[],[13],[0],[0,10],[(.exit 2,[])],[],[],false,[]⟩ a h)else bif Nat.beq f 103&&Nat.beq r 15 then some (dy ⟨464,2000,[16,83,84,85,86,87,88,89,90,91,92,93,94,95,96,97,98,99,100,101,102,103,104,105,106],[],[14,15],[],[0,2,4],[(.exit 4,[])],[],[],false,[]⟩ a h)else bif Nat.beq f 103&&Nat.beq r 21 then some (dy ⟨465,3000,[108,109,110,111,112,113,114,115,116,117,118,119,120,121,122,123,124,125,126,127,128],[],[17],[0],[0,14],[(.exit 6,[])],[],[],false,[]⟩ a h)else bif Nat.beq f 103&&Nat.beq r 33 then some (dy ⟨466,2000,[23,149,150,151,152,153,154,155,156,157,158,159,160,161,162,163,164,165,166,167,168,169,170,171,172,173,174],[],[20,21],[],[0,1,2,3,4,18,19,22],[(.exit 8,[])],[],[],false,[]⟩ a h)else bif Nat.beq f 79&&Nat.beq r 2 then some (dy ⟨467,2000,[11,12,13,14,15,16,17,18,19,20,21,22],[],[7,8],[0],[0,1,2,6],[(.exit 0,[])],[],[],false,[]⟩ a h)else bif Nat.beq f 79&&Nat.beq r 7 then some (dy ⟨468,3000,[7,8,9,28,29,30,31,32,33,34,35,36,37,38,39,40,41,42,43,44,45,46,47,48,49,50,51,52,53,54,55,56,57,58,59,60,61,62],[],[6],[0],[0,1,2],[(.exit 2,[])],[],[],false,[]⟩ a h)else bif Nat.beq f 79&&Nat.beq r 9 then some (dy ⟨469,4000,[33,34,35,36,37,38,39,40,41,42,43,44,45,46,47,48],[],[7,8],[0],[0,1,2,6],[(.exit 4,[])],[],[],false,[]⟩ a h)else bif Nat.beq f 49&&Nat.beq r 4 then some (dy ⟨107,2000,[5,14,15,16,17,18,19,20,21,22,23,24,25],[],[4,13],[],[0,1,12],[(.exit 0,[]),(.ret,[])],[],[],false,[]⟩ a h)else bif Nat.beq f 31&&Nat.beq r 5 then some (dy ⟨750,2000,[4,5,13,14,15,16,17,18,19,20,21,22,23],[(3,none,74,dJ)],[3],[],[12],[(.exit 0,[])],[],[],true,[]⟩ a h)else bif Nat.beq f 75&&Nat.beq r 4 then some (dy ⟨751,2000,[8,13,14,15,16,17,18,19],[],[12],[4,5],[4,5,6,10,11],[(.exit 0,[])],[],[],false,[]⟩ a h)else bif Nat.beq f 58&&Nat.beq r 4 then some (dy ⟨752,2000,[8,14,15,16,17,18,19,20,21,22,23,24,25,26,27,28,29,30,31,32,33,34,35,36,37,38,39,40,41,42,43,44,45],[(4,none,2,[.int .i64]),(5,none,2,[.int .i64])],[4,5,13],[6],[2,6,11,12],[(.exit 0,[])],[],[],false,[]⟩ a h)else bif Nat.beq f 33&&Nat.beq r 8 then some (dy ⟨753,2000,[43,44,45,46,47,48,49,50,51,52,53,54,55,56,57,58],[(7,none,86,gw)],[7,8],[],[2,5],[(.exit 1,[])],[],[],false,[]⟩ a h)else bif Nat.beq f 92&&Nat.beq r 2 then some (dy ⟨754,2000,[5,6,7,8,12,13,14,15,16,17,18,19,20,21,22,23,24,25,26,27,28,29,30,31,32,33,34,35,36,37,38,39,40,41,42,43,44,45,46,47,48,49,50,51,52],[],[4,11],[],[0,1,9,10],[(.exit 0,[]),(.ret,[])],[],[],false,[]⟩ a h)else bif Nat.beq f 73&&Nat.beq r 6 then some (dy ⟨755,2000,[12,36,37,38,39,40,41,42,43,44,45,46,47,48,49,50,51,52,53,54,55,56,57,58,59,60,61,62],[(6,none,139,gw),(8,none,139,gw)],[6,8,35],[7],[7,10,33,34],[(.exit 0,[])],[],[],false,[]⟩ a h)else bif Nat.beq f 94&&Nat.beq r 3 then some (dy ⟨756,2000,[11,15,16,17,18,19,20,21,22,23,24,25,26,27,28,29,30,31,32,33,34],[],[9,10],[],[0,2,4,8],[(.exit 0,[])],[],[],false,[]⟩ a h)else bif Nat.beq f 74&&Nat.beq r 2 then some (dy ⟨757,2000,[5,11,12,13,14,15,16,17,18,19,20,21,22,23,24,25,26],[(4,none,139,gw)],[4],[],[1,10],[(.exit 0,[])],[],[],true,[]⟩ a h)else bif Nat.beq f 57&&Nat.beq r 3 then some (dy ⟨758,2000,[11,32,33,34,35,36,37,38,39,40,41,42,43,44,45],[(4,none,34,nB)],[4,31],[],[3,5,7,29,30],[(.exit 0,[])],[],[],false,[]⟩ a h)else bif Nat.beq f 40&&Nat.beq r 4 then some (dy ⟨759,2000,[11,26,27,28,29,30,31,32,33,34,35,36,37,38,39,40,41,42,43,44,45],[(4,none,34,nB),(9,none,69,yE)],[4,9,25],[],[0,8,23,24],[(.exit 0,[])],[],[],false,[]⟩ a h)else bif Nat.beq f 18&&Nat.beq r 11 then some (dy ⟨760,2000,[8,9,44,45,46,47,48,49,50,51,52,53,54,55,56,57,58,59,60,61,62,63,64,65,66,67,68,69,70,71,72,73,74,75],[(5,none,74,dJ)],[5,6,43],[],[0,3,41,42],[(.exit 1,[])],[],[],false,[]⟩ a h)else bif Nat.beq f 28&&Nat.beq r 5 then some (dy ⟨761,2000,[9,25,26,27,28,29,30,31,32,33],[],[24],[1000],[0,6,22,23],[(.exit 0,[])],[],[],false,[]⟩ a h)else bif Nat.beq f 28&&Nat.beq r 10 then some (dy ⟨762,2000,[11,37,38,39,40,41,42,43,44,45,46,47,48],[],[36],[1000],[0,34,35],[(.exit 2,[])],[],[],false,[]⟩ a h)else bif Nat.beq f 71&&Nat.beq r 2 then some (dy ⟨763,2000,[5,9,10,11,12,13,14,15,16,17,18],[],[4,8],[],[0,1,7],[(.exit 0,[]),(.ret,[])],[],[],false,[]⟩ a h)else bif Nat.beq f 54&&Nat.beq r 5 then some (dy ⟨764,2000,[7,16,17,18,19,20,21,22,23,24,25,26,27,28,29,30,31,32,33,34,35],[],[5,6],[0],[0,1],[(.exit 0,[])],[],[],false,[]⟩ a h)else bif Nat.beq f 14&&Nat.beq r 2 then some (dy ⟨765,2000,[6,7,8,9,10,11,12,13,14,15,16,17,18,19,20,21,22],[],[4,5],[],[0,1],[(.exit 0,[]),(.ret,[])],[],[],false,[]⟩ a h)else bif Nat.beq f 7&&Nat.beq r 7 then some (dy ⟨766,2000,[12,13,14,15,16,17,18,19,20,21,44,45,46,47,48,49,50,51,52,53,54,55,56,57,58,59,60,61,62,63,64,65,66,67,68,69,70,71,72,73,74,75,76,77,78,79,80,81,82,83,84,85,86,87,88,89,90,91,92,93,94,95,96,97,98,99,100,101,102,103,104,105,106,107,108,109,110,111,112,113,114,115,116,117,118,119,120,121,122,123,124,125,126,127,128,129,130,131,132,133,134,135,136,137,138,139,140,141,142,143,144,145,146],[(9,none,24,oU)],[6,9,10,11],[1007],[1,2,3,7,8],[(.exit 0,[]),(.ret,[])],[(30007,nB,yE)],[],false,[]⟩ a h)else bif Nat.beq f 7&&Nat.beq r 19 then some (dy ⟨767,4000,[17,18,104,105,106,107,108,109,110,111,112,113,114,115,116,117,118,119,120,121,122,123,124,125,126,127,128,129,130],[],[6,16],[],[1,2,3,7,8,9,10,11,13,14],[(.exit 2,[]),(.ret,[])],[],[],false,[]⟩ a h)else bif Nat.beq f 7&&Nat.beq r 25 then some (dy ⟨768,4000,[20,21,131,132,133,134,135,136,137,138,139,140,141,142,143,144,145,146],[],[6,19],[],[1,2,3,7,8,9,10,11,13],[(.exit 4,[]),(.ret,[])],[],[],false,[]⟩ a h)else bif Nat.beq f 7&&Nat.beq r 33 then some (dy ⟨769,2000,[149,150,151,152,153,154,155,156,157,158,159,160,161,162,163,164,165,166,167,168,169,170,171,172,173,174,175,176,177],[],[6,22,24],[],[2,3,8,9,10,23],[(.exit 6,[]),(.ret,[])],[],[],false,[]⟩ a h)else bif Nat.beq f 7&&Nat.beq r 43 then some (dy ⟨770,2000,[192,193,194,195,196,197,198,199,200,201,202,203],[(26,none,24,oU)],[26,27],[],[3,9,23,25],[(.exit 8,[])],[],[],false,[]⟩ a h)else bif Nat.beq f 17&&Nat.beq r 3 then some (dy ⟨771,2000,[9,18,19,20,21,22,23,24,25,26,27],[],[4,5,7,17],[1006],[6,15,16],[(.exit 0,[]),(.ret,[])],[(30006,nB,yE)],[],false,[]⟩ a h)else bif Nat.beq f 67&&Nat.beq r 3 then some (dy ⟨480,2000,[7,8,9,10,11,12,13,14,15,16,17,18,19,20,21,22,23,24,25,26,27,28,29,30,31,32,33,34,35,36,37,38,39,40,41,42,43,44,45,46,47,48,49,50,51,52,53,54,55,56,57,58,59,60,61,62,63,64,65,66,67,68,69],[(5,none,96,dJ)],[5,6],[],[0,1],[(.exit 0,[])],[],[],false,[]⟩ a h)else bif Nat.beq f 67&&Nat.beq r 7 then some (dy ⟨481,3000,[8,23,24,25,26,27,28,29,30,31,32,33,34,35,36,37,38,39,40,41,42,43,44,45,46,47,48,49,50,51,52,53,54,55,56,57,58,59,60,61,62,63,64,65,66,67,68,69],[],[7],[5],[0,1,5,6],[(.exit 2,[])],[],[],false,[]⟩ a h)else bif Nat.beq f 82&&Nat.beq r 3 then some (dy ⟨850,2000,[9,10,11,12,13,14,15,16,17,18,19,20,21],[],[5],[4],[0,4],[(.exit 0,[])],[],[],false,[]⟩ a h)else bif Nat.beq f 66&&Nat.beq r 6 then some (dy ⟨851,2000,[17,18,19,20,21,22,23,24,25,26,27,28,29,30,31,32,33,34,35,36,37,38,39,40,41,42,43,44,45,46,47,48,49,50,51,52,53,54],[],[7],[2,4],[0,2,4,5],[(.exit 0,[])],[],[],false,[]⟩ a h)else bif Nat.beq f 25&&Nat.beq r 4 then some (dy ⟨852,2000,[11,12,13,14,15,16,17,18,19,20,21,22,23,24,25],[],[4,5],[],[0,1],[(.exit 0,[]),(.ret,[])],[],[],false,[]⟩ a h)else bif Nat.beq f 81&&Nat.beq r 8 then some (dy ⟨853,2000,[44,45,46,47,48,49,50,51,52,53,54,55,56,57,58,59,60,61,62,63,64,65,66,67],[(5,none,127,gw)],[5,7],[],[1,2],[(.exit 0,[])],[],[],false,[]⟩ a h)else bif Nat.beq f 106&&Nat.beq r 2 then some (dy ⟨854,2000,[7,8,9,10,11,12],[(0,none,151,gw)],[0,3],[],[],[(.exit 0,[])],[],[],false,[]⟩ a h)else bif Nat.beq f 106&&Nat.beq r 6 then some (dy ⟨855,2000,[6,13,14,15,16,17,18,19,20,21,22,23,24,25,26,27,28,29,30,31,32,33,34,35,36,37,38,39,40,41,42,43,44,45,46,47,48,49,50,51,52,53,54,55,56,57,58,59,60],[(4,none,151,gw)],[4,5],[],[0],[(.exit 2,[])],[],[],false,[]⟩ a h)else bif Nat.beq f 106&&Nat.beq r 10 then some (dy ⟨856,3000,[27,28,29,30,31,32,33,34,35,36,37,38,39,40,41,42,43,44,45,46,47,48,49,50,51,52,53,54,55,56,57,58,59,60],[],[6],[4],[0,4,5],[(.exit 4,[])],[],[],false,[]⟩ a h)else bif Nat.beq f 126&&Nat.beq r 2 then some (dy ⟨857,4000,[5,6,7,8,9,10,11,12,13,14,15,16,17,18,19,20,21,22,23,24,25,26,27,28,29,30,31,32,33,34,35,36,37,38,39,40,41,42,43,44,45,46,47,48,49,50,51,52,53,54,55,56,57,58,59,60,61,62,63,64,65,66,67,68,69,70,71,72,73,74,75,76,77],[],[3,4],[],[0],[(.exit 0,[]),(.ret,[])],[],[],false,[(2,151,gw)]⟩ a h)else bif Nat.beq f 126&&Nat.beq r 5 then some (dy ⟨858,5000,[6,7,16,17,18,19,20,21,22,23,24,25,26,27,28,29,30,31,32,33,34,35,36,37,38,39,40,41,42,43,44,45,46,47,48,49,50,51,52,53,54,55,56,57,58,59,60,61,62,63,64,65,66,67,68,69,70,71,72,73,74,75,76,77],[],[3,5],[],[0,4],[(.exit 2,[]),(.ret,[])],[],[],false,[(2,151,gw)]⟩ a h)else bif Nat.beq f 126&&Nat.beq r 10 then some (dy ⟨859,6000,[56,57,58,59,60,61,62,63,64,65,66,67,68,69,70,71,72,73,74,75,76],[(6,none,151,gw)],[6,7],[],[0,4,5],[(.exit 4,[])],[],[],false,[]⟩ a h)else bif Nat.beq f 80&&Nat.beq r 5 then some (dy ⟨860,2000,[11,12,13,14,15,16,17,18,19,20,21,22,23,24,25,26,27,28,29,30,31,32,33,34,35,36],[(6,none,151,gw)],[5,6,7],[],[0,1],[(.exit 0,[]),(.ret,[(4,.nils)])],[],[],false,[]⟩ a h)else bif Nat.beq f 64&&Nat.beq r 4 then some (dy ⟨861,2000,[14,15,16,17,18,19,20,21,22,23,24,25,26,27,28,29,30,31,32,33,34],[(8,none,2,[.int .i64])],[8,9],[],[1,2,3,7],[(.exit 0,[])],[],[],false,[]⟩ a h)else bif Nat.beq f 64&&Nat.beq r 11 then some (dy ⟨862,2000,[45,46,47,48,49,50,51,52,53,54,55,56,57,58,59,60,61,62,63,64],[(7,none,127,gw)],[7,12],[],[10],[(.exit 2,[])],[],[],false,[]⟩ a h)else bif Nat.beq f 64&&Nat.beq r 16 then some (dy ⟨863,2000,[66,67,68,69,70,71,72,73,74,75,76,77,78,79],[(7,none,127,gw)],[7,13],[],[3,8],[(.exit 4,[])],[],[],false,[]⟩ a h)else bif Nat.beq f 44&&Nat.beq r 2 then some (dy ⟨864,2000,[6,7,8,9,10,11,12,13,14,15,16,17,18],[],[4,5],[],[0,3],[(.exit 0,[]),(.ret,[])],[],[],false,[]⟩ a h)else bif Nat.beq f 43&&Nat.beq r 3 then some (dy ⟨865,2000,[8,9,10,11,12,13,14,15,16,17,18,19,20,21,22,23,24,25,26,27,28,29,30,31,32,33,34,35,36,37,38,39,40,41,42,43,44,45,46,47,48,49,50,51,52,53,54,55,56,57,58,59,60,61,62,63,64,65,66,67,68,69,70,71,72,73,74,75,76,77,78,79,80,81,82,83,84,85,86,87,88,89,90,91,92,93,94,95,96,97,98,99,100],[(6,none,96,dJ)],[5,6,7],[],[1,2],[(.exit 0,[]),(.ret,[(4,.nils)])],[],[],false,[]⟩ a h)else bif Nat.beq f 43&&Nat.beq r 7 then some (dy ⟨866,4000,[10,11,12,13,14,29,30,31,32,33,34,35,36,37,38,39,40,41,42,43,44,45,46,47,48,49,50,51,52,53,54,55,56,57,58,59,60,61,62,63,64,65,66,67,68,69,70,71,72,73,74,75,76,77,78,79,80,81,82,83,84,85,86,87,88,89,90,91,92,93,94,95,96,97,98,99,100],[(6,none,96,dJ)],[5,6,9],[],[1,2,7,8],[(.exit 2,[]),(.ret,[(4,.nils)])],[],[],false,[]⟩ a h)else bif Nat.beq f 43&&Nat.beq r 13 then some (dy ⟨867,6000,[54,55,56,57,58,59,60,61,62,63,64,65,66,67,68,69,70,71,72,73,74,75,76,77,78,79,80,81,82,83,84,85,86,87],[(11,none,2,[.int .i64])],[11,12],[],[1,2,6,7,8,9,10],[(.exit 4,[])],[],[],false,[]⟩ a h)else bif Nat.beq f 48&&Nat.beq r 3 then some (dy ⟨868,2000,[7,8,9,10,11,12,13,14,15,16,17,18,19,20,21,22,23,24,25,26,27],[(5,none,96,dJ)],[5,6],[],[0,1],[(.exit 0,[])],[],[],false,[]⟩ a h)else bif Nat.beq f 19&&Nat.beq r 9 then some (dy ⟨920,2000,[43,44,45,46,47,48,49,50,51,52,53,54,55,56,57,58,59,60,61,62,63,64],[(15,none,93,nB)],[15,17],[],[11,13,16],[(.exit 0,[])],[],[],false,[]⟩ a h)else bif Nat.beq f 19&&Nat.beq r 14 then some (dy ⟨921,2000,[19,20,65,66,67,68,69,70,71,72,73,74,75,76,77,78,79,80,81,82,83,84,85,86,87,88,89,90,91,92,93,94,95,96,97],[(16,none,96,dJ)],[16,18],[],[11,13,15],[(.exit 2,[])],[],[],false,[]⟩ a h)else bif Nat.beq f 19&&Nat.beq r 18 then some (dy ⟨922,4000,[71,72,73,74,75,76,77,78,79,80,81,82,83,84,85,86,87,88],[],[19,20],[],[11,13,15,16,18],[(.exit 4,[])],[],[],false,[]⟩ a h)else bif Nat.beq f 26&&Nat.beq r 3 then some (dy ⟨923,2000,[5,6,7,8,9,10,11,12,13,14,15,16,17,18,19,20,21,22,23,24,25,26,27,28,29,30,31,32,33,34,35],[(3,none,96,dJ)],[3,4],[],[0],[(.exit 0,[])],[],[],false,[]⟩ a h)else bif Nat.beq f 24&&Nat.beq r 4 then some (dy ⟨924,2000,[11,12,13,14,15,16,17,18,19,20,21,22,23,24,25,26],[],[4,5],[],[0,1],[(.exit 0,[]),(.ret,[])],[],[],false,[]⟩ a h)else bif Nat.beq f 27&&Nat.beq r 11 then some (dy ⟨925,4000,[15,16,57,58,59,60,61,62,63,64,65,66,67,68,69,70,71,72,73,74,75,76,77,78,79,80,81,82,83,84,85,86,87],[],[8,14],[12],[0,3,9,11,12,13],[(.exit 2,[]),(.ret,[])],[],[],false,[]⟩ a h)else bif Nat.beq f 27&&Nat.beq r 18 then some (dy ⟨926,4000,[88,89,90,91,92,93,94,95,96,97],[],[17],[13],[0,3,9,11,13],[(.exit 4,[])],[],[],false,[]⟩ a h)else bif Nat.beq f 6&&Nat.beq r 10 then some (dy ⟨927,2000,[16,17,18,19,20,21,22,23,24,68,69,70,71,72,73,74,75,76,77,78,79,80,81,82,83,84,85,86,87,88,89,90,91,92,93,94,95,96,97,98,99,100,101,102,103,104,105,106,107,108,109,110,111,112,113,114,115,116,117,118,119,120,121,122,123,124,125,126,127,128,129,130,131,132,133,134,135,136,137,138,139,140,141,142,143,144,145,146,147,148,149,150,151,152,153,154,155,156],[(13,none,58,oU)],[8,13,14,15],[1009],[1,2,4,7,9,10],[(.exit 0,[]),(.ret,[])],[(30009,nB,yE)],[],false,[]⟩ a h)else bif Nat.beq f 6&&Nat.beq r 24 then some (dy ⟨928,2000,[163,164,165,166,167,168,169,170,171,172,173,174,175,176,177,178,179],[],[27,28],[],[1,2,4,7,9,10,13,14,26],[(.exit 2,[])],[],[],false,[]⟩ a h)else bif Nat.beq f 3&&Nat.beq r 2 then some (dy ⟨970,2000,[2,3,4,5,8,9,10,11,12,13,14,15,16,17,18,19,20,21,22,23,24,25,26,27,28,29,30,31,32,33,34,35,36,37,38,39,40,41,42,43,44,45,46,47,48,49,50,51,52,53,54,55,56,57,58,59,60,61,62,63,64],[],[0,1],[],[],[(.exit 0,[]),(.ret,[])],[],[],false,[]⟩ a h)else bif Nat.beq f 3&&Nat.beq r 7 then some (dy ⟨971,3000,[13,14,15,16,17,18,19,20,21,22,23,24,25,26,27,28,29,30,31,32,33,34,35,36,37,38,39,40,41,42,43,44,45],[(2,none,24,oU)],[2,3,4],[],[1],[(.exit 2,[])],[],[],false,[]⟩ a h)else none
noncomputable def cC:Env:={kP with lspec:=Et}
noncomputable def mn:Env:={kP with caps:=λg=>Nat.beq g 96}
def fE:HC:=⟨11,0,⟨[],[],0,.cb true,.obool bh,[],[.cb true]⟩⟩
def fG:HC:=⟨10,5,⟨[NS,.oint .i64 aS],[],0,.cb true,.obool bh,[],[.cb true]⟩⟩
def L0:List HC:=[fE,fG]
def L1:List HC:=[]
def L2:List HC:=[]
def iJ:HC:=⟨16,4,⟨[sk],[],0,.cb true,.obool bh,[],[.app 700 [aN,aO,aT,aU]]⟩⟩
def cR:HC:=⟨39,4,⟨[NS],[],0,.cb true,.oint .i64 bh,[],[.app 701 [aN,aO,aT,aU]]⟩⟩
def iA:List AV:=[NS]
def iG:List AV:=[.agg [.int .u8 1,.ostr aO,.oint .i64 aT,.oint .i64 aU]]
def iw:List AV:=[.agg [.int .u8 2,.ostr aO,.oint .i64 aT,.oint .i64 aU]]
def iC:HC:=⟨75,1,⟨[.osl 0 aM (.op .llen [aN]) 1],[.arr 4294967295 [.int .i64] aN],1,.op (.cmp .leq) [.op .llen [aN],bT],.tup [.oint .i64 bh,.oint .i64 bA],[],[.app 702 [aN],.app 703 [aN]]⟩⟩
def jU:HC:=⟨32,2,⟨[.osl 0 aM (.op .llen [aN]) 7,.osl 1 aM (.op .llen [aO]) 7],[.arr 4294967295 dJ aN,.arr 4294967295 dJ aO],2,.op (.cmp .leq) [.op .llen [aN],bT],.obool bh,[],[.app 3 [aN,aO]]⟩⟩
def mz:HC:=⟨51,2,⟨[.oint .i64 aN,.oint .i64 aO],[],0,.op .and [.op .and [.op (.cmp .leq) [aZ,aO],.op (.cmp .leq) [aO,bY]],.op .and [.op (.cmp .leq) [.ci (-1099511627776),aN],.op (.cmp .leq) [aN,bO]]],.tup [.oint .i64 bh,.oint .i64 bA],[],[.app 709 [aN,aO],aM]⟩⟩
def iy:HC:=⟨92,2,⟨[.oint .i64 aN,.osl 0 aM (.op .llen [aO]) 2],[.arr 4294967295 gw aO],1,.op (.cmp .leq) [.op .llen [aO],bC],.obool bh,[],[.app 711 [aN,aO]]⟩⟩
def kr:HC:=⟨98,4,⟨[.agg [.oint .i64 aN,.oint .i64 aO],.agg [.oint .i64 aT,.oint .i64 aU]],[],0,.cb true,.oint .i64 bh,[],[.app 712 [aN,aO,aT,aU]]⟩⟩
def pS:HC:=⟨96,5,⟨[.ous 1 aO 2,.oint .i64 aT,.sl 0 0 1 1],[.cells 139 0 [.oint .i64 aU,.oint .i64 aS],.arr 139 gw aN],1,.app 713 [aN,aO,aT,aU,aS],.ous 2 (.op .llen [bh]) 2,[none,some (.arr 139 gw bh)],[.app 714 [aN,aO,aT,aU,aS]]⟩⟩
def nY:HC:=⟨97,2,⟨[.ous 0 aN 2,.func (.func 98) [] []],[.arr 139 gw aO],0,.op .and [.op (.cmp .eql) [aN,.op .llen [aO]],.op (.cmp .leq) [.op .llen [aO],bT]],.tup [],[some (.arr 139 gw bh)],[.app 715 [aO]]⟩⟩
def gp:HC:=⟨97,2,⟨[.ous 0 aN 2,.func (.func 98) [] []],[.bag 139 gw aO],0,.op .and [.op (.cmp .eql) [aN,.op .llen [aO]],.op .and [.op (.cmp .leq) [.op .llen [aO],bT],.app 716 [aO]]],.tup [],[some (.arr 139 gw bh)],[.app 715 [aO]]⟩⟩
def iS:HC:=⟨61,1,⟨[.osl 0 aM (.op .llen [aN]) 7],[.arr 4294967295 dJ aN],1,.op .and [.op (.cmp .leq) [.op .llen [aN],bC],.app 431 [aN]],.ous 1 (.op .llen [bh]) 7,[some (.arr 74 dJ bh)],[aN]⟩⟩
def kc:HC:=⟨148,5,⟨[.ous 0 aO 7,.oint .i64 aT,.oint .i64 aU,.oint .i64 aS,.func (.func 63) [.agg [.func (.func 59) [] []]] []],[.arr 74 dJ aN],0,.app 420 [aN,aO,aT,aU,aS],.tup [],[some (.arr 74 dJ bh)],[.app 421 [aN,aT,aU,aS]]⟩⟩
def mB:HC:=⟨63,14,⟨[.agg [.func (.func 59) [] []],.agg [.ostr aN,.oint .i64 aO,.oint .i64 aT,.oint .i64 aU,.oint .i64 aS,.oint .i64 be,.oint .i64 bd],.agg [.ostr bf,.oint .i64 bi,.oint .i64 bI,.oint .i64 bt,.oint .i64 (.va 11),.oint .i64 (.va 12),.oint .i64 (.va 13)]],[],0,.cb true,.oint .i64 bh,[],[.app 206 [aN,aO,aT,bf,bi,bI]]⟩⟩
def L3:List HC:=[iJ,cR,iC,jU,mz,iy,kr,pS,nY,gp,iS,kc,mB]
def mV:HC:=⟨125,5,⟨[.ous 0 aO 7,.oint .i64 aT,.oint .i64 aU,.oint .i64 aS,.func (.func 63) [.agg [.func (.func 59) [] []]] []],[.arr 74 dJ aN],0,.app 422 [aN,aO,aT,aU,aS],.tup [],[some (.arr 74 dJ bh)],[.app 423 [aN,aT,aU,aS]]⟩⟩
def qM:HC:=⟨33,5,⟨[sk,.oint .i64 aS],[],0,.cb true,.ous 0 (.op .llen [bh]) 2,[some (.arr 86 gw bh)],[.app 704 [aN,aO,aT,aU,aS]]⟩⟩
def mR:HC:=⟨58,1,⟨[.osl 0 aM (.op .llen [aN]) 4],[.arr 4294967295 yE aN],1,.op (.cmp .leq) [.op .llen [aN],.ci 1000],.tup [Do,.oint .i64 bV],[],[.op .lget [.app 705 [aN],aM,aM],.op .lget [.app 705 [aN],aM,aZ],.op .lget [.app 705 [aN],aM,bm],.op .lget [.app 705 [aN],aM,bx],.app 706 [aN]]⟩⟩
def gF:HC:=⟨73,3,⟨[.oint .i64 aN,.oint .i64 aO,.osl 0 aM (.op .llen [aT]) 2],[.arr 4294967295 gw aT],1,.op (.cmp .leq) [.op .llen [aT],bQ],.tup [.ous 1 (.op .llen [bW]) 2,.agg [.oint .i64 bh,.oint .i64 bA],.ous 2 (.op .llen [bV]) 2,.oint .i64 bM],[some (.arr 139 gw bW),some (.arr 139 gw bV)],[.op .lget [.app 718 [aN,aO,aT],aM,aM],.op .lget [.app 718 [aN,aO,aT],aM,aZ],.app 720 [aN,aO,aT],.app 717 [aN,aO,aT],.app 719 [aN,aO,aT]]⟩⟩
def L4:List HC:=[mV,qM,mR,gF]
def nh:HC:=⟨102,4,⟨[.ous 0 aO 7,.oint .i64 aT,.oint .i64 aU,.func (.func 63) [.agg [.func (.func 59) [] []]] []],[.arr 74 dJ aN],0,.app 424 [aN,aO,aT,aU],.tup [],[some (.arr 74 dJ bh)],[.app 425 [aN,aT,aU]]⟩⟩
def qS:HC:=⟨103,5,⟨[.ous 0 aO 7,.oint .i64 aT,.oint .i64 aU,.oint .i64 aS,.func (.func 63) [.agg [.func (.func 59) [] []]] []],[.arr 74 dJ aN],0,.app 426 [aN,aO,aT,aU,aS,aZ],.tup [],[some (.arr 74 dJ bh)],[.app 425 [aN,aT,aS]]⟩⟩
def nj:HC:=⟨41,5,⟨[GI,.oint .i64 aS],[],0,.cb true,.tup [Do,.oint .i64 bV],[],[.op .lget [.app 707 [aN,aO,aT,aU,aS],aM,aM],.op .lget [.app 707 [aN,aO,aT,aU,aS],aM,aZ],.op .lget [.app 707 [aN,aO,aT,aU,aS],aM,bm],.op .lget [.app 707 [aN,aO,aT,aU,aS],aM,bx],.app 708 [aN,aO,aT,aU,aS]]⟩⟩
def L5:List HC:=[nh,qS,nj]
def mH:HC:=⟨103,5,⟨[.ous 0 aO 7,.oint .i64 aT,.oint .i64 aU,.oint .i64 aS,.func (.func 63) [.agg [.func (.func 59) [] []]] []],[.arr 74 dJ aN],0,.app 426 [aN,aO,aT,aU,aS,bm],.tup [],[some (.arr 74 dJ bh)],[.app 425 [aN,aT,aS]]⟩⟩
def L6:List HC:=[mH]
def lY:HC:=⟨103,5,⟨[.ous 0 aO 7,.oint .i64 aT,.oint .i64 aU,.oint .i64 aS,.func (.func 63) [.agg [.func (.func 59) [] []]] []],[.arr 74 dJ aN],0,.app 426 [aN,aO,aT,aU,aS,.ci 4],.tup [],[some (.arr 74 dJ bh)],[.app 425 [aN,aT,aS]]⟩⟩
def L7:List HC:=[lY]
def nr:HC:=⟨103,5,⟨[.ous 0 aO 7,.oint .i64 aT,.oint .i64 aU,.oint .i64 aS,.func (.func 63) [.agg [.func (.func 59) [] []]] []],[.arr 74 dJ aN],0,.app 426 [aN,aO,aT,aU,aS,.ci 8],.tup [],[some (.arr 74 dJ bh)],[.app 425 [aN,aT,aS]]⟩⟩
def L8:List HC:=[nr]
def lX:HC:=⟨103,5,⟨[.ous 0 aO 7,.oint .i64 aT,.oint .i64 aU,.oint .i64 aS,.func (.func 63) [.agg [.func (.func 59) [] []]] []],[.arr 74 dJ aN],0,.app 426 [aN,aO,aT,aU,aS,.ci 16],.tup [],[some (.arr 74 dJ bh)],[.app 425 [aN,aT,aS]]⟩⟩
def L9:List HC:=[lX]
def mU:HC:=⟨103,5,⟨[.ous 0 aO 7,.oint .i64 aT,.oint .i64 aU,.oint .i64 aS,.func (.func 63) [.agg [.func (.func 59) [] []]] []],[.arr 74 dJ aN],0,.app 426 [aN,aO,aT,aU,aS,bL],.tup [],[some (.arr 74 dJ bh)],[.app 425 [aN,aT,aS]]⟩⟩
def Xw:List HC:=[mU]
def mr:HC:=⟨103,5,⟨[.ous 0 aO 7,.oint .i64 aT,.oint .i64 aU,.oint .i64 aS,.func (.func 63) [.agg [.func (.func 59) [] []]] []],[.arr 74 dJ aN],0,.app 426 [aN,aO,aT,aU,aS,.ci 64],.tup [],[some (.arr 74 dJ bh)],[.app 425 [aN,aT,aS]]⟩⟩
def L11:List HC:=[mr]
def mN:HC:=⟨103,5,⟨[.ous 0 aO 7,.oint .i64 aT,.oint .i64 aU,.oint .i64 aS,.func (.func 63) [.agg [.func (.func 59) [] []]] []],[.arr 74 dJ aN],0,.app 426 [aN,aO,aT,aU,aS,.ci 128],.tup [],[some (.arr 74 dJ bh)],[.app 425 [aN,aT,aS]]⟩⟩
def L12:List HC:=[mN]
def nf:HC:=⟨103,5,⟨[.ous 0 aO 7,.oint .i64 aT,.oint .i64 aU,.oint .i64 aS,.func (.func 63) [.agg [.func (.func 59) [] []]] []],[.arr 74 dJ aN],0,.app 426 [aN,aO,aT,aU,aS,.ci 256],.tup [],[some (.arr 74 dJ bh)],[.app 425 [aN,aT,aS]]⟩⟩
def ZO:List HC:=[nf]
def nm:HC:=⟨103,5,⟨[.ous 0 aO 7,.oint .i64 aT,.oint .i64 aU,.oint .i64 aS,.func (.func 63) [.agg [.func (.func 59) [] []]] []],[.arr 74 dJ aN],0,.app 426 [aN,aO,aT,aU,aS,.ci 512],.tup [],[some (.arr 74 dJ bh)],[.app 425 [aN,aT,aS]]⟩⟩
def L14:List HC:=[nm]
def mZ:HC:=⟨79,3,⟨[.ous 0 aO 7,.oint .i64 aT,.func (.func 63) [.agg [.func (.func 59) [] []]] []],[.arr 74 dJ aN],0,.app 428 [aN,aO,aT],.tup [],[some (.arr 74 dJ bh)],[.app 425 [aN,aM,aT]]⟩⟩
def L15:List HC:=[mZ]
def kl:HC:=⟨62,1,⟨[.ous 0 (.op .llen [aN]) 7,.func (.func 63) [.agg [.func (.func 59) [] []]] []],[.arr 74 dJ aN],0,.op .and [.op (.cmp .leq) [.op .llen [aN],bC],.app 431 [aN]],.tup [],[some (.arr 74 dJ bh)],[.app 425 [aN,aM,.op .llen [aN]]]⟩⟩
def L16:List HC:=[kl]
def fC:HC:=⟨42,1,⟨[.bool false,.osl 0 aM (.op .llen [aN]) 7],[.arr 4294967295 dJ aN],1,.op .and [.op (.cmp .leq) [.op .llen [aN],bC],.app 431 [aN]],.ous 1 (.op .llen [bh]) 7,[some (.arr 74 dJ bh)],[.app 490 [aN]]⟩⟩
def fW:HC:=⟨42,2,⟨[.bool false,.ous 0 aN 7],[.bag 74 dJ aO],1,.op .and [.op (.cmp .eql) [aN,.op .llen [aO]],.op .and [.op .and [.op (.cmp .leq) [.op .llen [aO],bC],.app 431 [aO]],.app 491 [aO]]],.ous 1 (.op .llen [bh]) 7,[some (.arr 74 dJ bh)],[.app 490 [aO]]⟩⟩
def Zp:List HC:=[fC,fW]
def ku:HC:=⟨31,5,⟨[.ptr 0 0],[kw,kh],2,.op .and [.op .and [.op (.cmp .leq) [.op .llen [aS],bC],.app 431 [aS]],.app 491 [aS]],.ous 2 (.op .llen [bh]) 7,[some (.arr 74 dJ bh)],[.app 490 [aS]]⟩⟩
def mY:HC:=⟨29,8,⟨[.ptr 0 0,.agg [.ostr be,.oint .i64 bd,.oint .i64 bf]],[kw,kh],2,.op (.cmp .leq) [.op .llen [aS],bT],.tup [Do,.obool bV],[],[.op .lget [.app 721 [aS,be,bd,bf],aM,aM],.op .lget [.app 721 [aS,be,bd,bf],aM,aZ],.op .lget [.app 721 [aS,be,bd,bf],aM,bm],.op .lget [.app 721 [aS,be,bd,bf],aM,bx],.app 722 [aS,be,bd,bf]]⟩⟩
def jY:HC:=⟨74,6,⟨[.ptr 0 0,.ostr be],[kw,kh],2,.op .and [.op (.cmp .leq) [.op .llen [aS],bC],.app 491 [aS]],.ous 2 (.op .llen [bh]) 2,[some (.arr 139 gw bh)],[.app 723 [aS,be]]⟩⟩
def L18:List HC:=[ku,mY,jY]
def iq:HC:=⟨57,9,⟨[.ptr 0 0,Ef],[kw,kh],2,.op .and [.op (.cmp .leq) [.op .llen [aS],bQ],.app 491 [aS]],.tup [.ous 2 (.op .llen [bW]) 3,.agg [.ostr bh,.oint .i64 bA,.oint .i64 bM]],[some (.arr 34 nB bW)],[.op .lget [.app 725 [aU,aS,bd,bf],aM,aM],.op .lget [.app 725 [aU,aS,bd,bf],aM,aZ],.op .lget [.app 725 [aU,aS,bd,bf],aM,bm],.app 724 [aU,aS,bd,bf]]⟩⟩
def jW:HC:=⟨37,6,⟨[.ptr 0 0,.oint .i64 be],[kw,kh],2,.op .and [.op .and [.op (.cmp .leq) [.op .llen [aS],bC],.app 431 [aS]],.app 491 [aS]],.ous 2 (.op .llen [bh]) 7,[some (.arr 74 dJ bh)],[.app 726 [aS,be]]⟩⟩
def L19:List HC:=[iq,jW]
def mg:HC:=⟨40,9,⟨[.ptr 0 0,Ef],[kw,kh],2,.op .and [.op (.cmp .leq) [.op .llen [aS],bQ],.app 491 [aS]],.tup [.ous 2 (.op .llen [bA]) 3,.ous 3 (.op .llen [bM]) 7,.oint .i64 bh],[some (.arr 34 nB bA),some (.arr 74 dJ bM)],[.app 729 [aU,aS,bd,bf,bi],.app 727 [aU,aS,bd,bf,bi],.app 728 [aU,aS,bd,bf,bi]]⟩⟩
def YK:List HC:=[mg]
def rO:HC:=⟨18,9,⟨[.ptr 0 0,Ef],[kw,kh],2,.op .and [.op .and [.op .and [.op (.cmp .leq) [.op .llen [aS],bC],.app 431 [aS]],.app 491 [aS]],.app 739 [aN,aS,bd]],.tup [.ous 2 (.op .llen [bA]) 3,.ous 3 (.op .llen [bM]) 7,.oint .i64 bh],[some (.arr 34 nB bA),some (.arr 74 dJ bM)],[.app 732 [aN,aO,aT,aU,aS,be,bd,bf,bi],.app 730 [aN,aO,aT,aU,aS,be,bd,bf,bi],.app 731 [aN,aO,aT,aU,aS,be,bd,bf,bi]]⟩⟩
def L21:List HC:=[rO]
def rT:HC:=⟨28,9,⟨[.ptr 0 0,Ef],[kw,kh],1,.op .and [.op .and [.op .and [.op (.cmp .leq) [.op .llen [aS],bC],.app 431 [aS]],.app 491 [aS]],.app 739 [aN,aS,bd]],.oint .i64 bh,[some (.marr false nB yE bA)],[.app 732 [aN,aO,aT,aU,aS,be,bd,bf,bi],.app 733 [aN,aO,aT,aU,aS,be,bd,bf,bi]]⟩⟩
def L22:List HC:=[rT]
def YC:List HC:=[]
def L24:List HC:=[]
def iI:HC:=⟨107,4,⟨[sk],[],0,.cb true,.obool bh,[],[.app 700 [aN,aO,aT,aU]]⟩⟩
def qB:HC:=⟨46,4,⟨[NS],[],0,.cb true,.oint .i64 bh,[],[.app 701 [aN,aO,aT,aU]]⟩⟩
def nu:HC:=⟨110,1,⟨[.oint .i64 aN],[],0,.cb true,Do,[],[.op .lget [.app 810 [aN],aM,aM],.op .lget [.app 810 [aN],aM,aZ],.op .lget [.app 810 [aN],aM,bm],.op .lget [.app 810 [aN],aM,bx]]⟩⟩
def iO:HC:=⟨109,8,⟨[GI,.agg [.oint .i64 aS,.oint .i64 be,.oint .i64 bd,.oint .i64 bf]],[],0,.cb true,Do,[],[.op .lget [.app 811 [aN,aO,aT,aU,aS,be,bd,bf],aM,aM],.op .lget [.app 811 [aN,aO,aT,aU,aS,be,bd,bf],aM,aZ],.op .lget [.app 811 [aN,aO,aT,aU,aS,be,bd,bf],aM,bm],.op .lget [.app 811 [aN,aO,aT,aU,aS,be,bd,bf],aM,bx]]⟩⟩
def ko:HC:=⟨25,2,⟨[.osl 0 aM (.op .llen [aN]) 7,.osl 1 aM (.op .llen [aO]) 7],[.arr 4294967295 dJ aN,.arr 4294967295 dJ aO],2,.op (.cmp .leq) [.op .llen [aN],bT],.obool bh,[],[.app 3 [aN,aO]]⟩⟩
def qk:HC:=⟨44,4,⟨[.osl 0 aM (.op .llen [aN]) 7,.agg [.ostr aO,.oint .i64 aT,.oint .i64 aU]],[.arr 4294967295 dJ aN],1,.op (.cmp .leq) [.op .llen [aN],bT],.obool bh,[],[.app 827 [aN,aO,aT,aU]]⟩⟩
def iR:HC:=⟨48,2,⟨[.osl 0 aM (.op .llen [aN]) 7,.oint .i64 aO],[.arr 4294967295 dJ aN],1,.op .and [.op (.cmp .leq) [.op .llen [aN],bC],.app 431 [aN]],.ous 1 (.op .llen [bh]) 7,[some (.arr 96 dJ bh)],[.app 832 [aN,aO]]⟩⟩
def ke:HC:=⟨67,1,⟨[.bool false,.osl 0 aM (.op .llen [aN]) 7],[.arr 4294967295 dJ aN],1,.op .and [.op (.cmp .leq) [.op .llen [aN],bC],.app 431 [aN]],.ous 1 (.op .llen [bh]) 7,[some (.arr 96 dJ bh)],[.app 490 [aN]]⟩⟩
def L25:List HC:=[iI,qB,nu,iO,ko,qk,iR,ke]
def jN:HC:=⟨111,4,⟨[GI],[],0,.cb true,.tup [.oint .i64 bh,.obool bA],[],[.app 812 [aN,aO,aT,aU],.app 813 [aN,aO,aT,aU]]⟩⟩
def qw:HC:=⟨81,5,⟨[sk,.oint .i64 aS],[],0,.cb true,.ous 0 (.op .llen [bh]) 2,[some (.arr 127 gw bh)],[.app 704 [aN,aO,aT,aU,aS]]⟩⟩
def XU:List HC:=[jN,qw]
def kv:HC:=⟨82,1,⟨[.osl 0 aM (.op .llen [aN]) 1],[.arr 4294967295 [.int .i64] aN],1,.op (.cmp .leq) [.op .llen [aN],bN],.tup [.oint .i64 bh,.oint .i64 bA],[],[.app 842 [aN],.app 843 [aN]]⟩⟩
def qP:HC:=⟨80,2,⟨[.oint .i64 aN,.osl 0 aM (.op .llen [aO]) 1],[.arr 4294967295 [.int .i64] aO],1,.op (.cmp .leq) [.op .llen [aO],bN],.tup [.ous 1 (.op .llen [bA]) 2,.oint .i64 bh],[some (.arr 151 gw bA)],[.app 825 [aN,aO],.app 824 [aN,aO]]⟩⟩
def L27:List HC:=[kv,qP]
def mT:HC:=⟨66,1,⟨[.osl 0 aM (.op .llen [aN]) 1],[.arr 4294967295 [.int .i64] aN],1,.op (.cmp .leq) [.op .llen [aN],bN],.tup [Do,.oint .i64 bV],[],[.op .lget [.app 820 [aN],aM,aM],.op .lget [.app 820 [aN],aM,aZ],.op .lget [.app 820 [aN],aM,bm],.op .lget [.app 820 [aN],aM,bx],.app 843 [aN]]⟩⟩
def iQ:HC:=⟨64,6,⟨[sk,.osl 0 aM (.op .llen [aS]) 4,.ostr be],[.arr 4294967295 oU aS],1,.op (.cmp .leq) [.op .llen [aS],bN],.ous 1 (.op .llen [bh]) 2,[some (.arr 127 gw bh)],[.app 826 [aN,aO,aT,aU,aS,be]]⟩⟩
def L28:List HC:=[mT,iQ]
def jQ:HC:=⟨43,5,⟨[sk,.osl 0 aM (.op .llen [aS]) 4],[.arr 4294967295 oU aS],1,.op .and [.op (.cmp .leq) [.op .llen [aS],bN],.app 840 [aN,aO,aT,aU,aS]],.tup [.ous 1 (.op .llen [bA]) 7,.obool bh],[some (.arr 96 dJ bA)],[.app 829 [aN,aO,aT,aU,aS],.app 828 [aN,aO,aT,aU,aS]]⟩⟩
def L29:List HC:=[jQ]
def Xu:List HC:=[]
def L31:List HC:=[]
def pY:HC:=⟨14,2,⟨[.osl 0 aM (.op .llen [aN]) 4,.oint .i64 aO],[.arr 4294967295 oU aN],1,.cb true,.obool bh,[],[.app 734 [aN,aO]]⟩⟩
def kd:HC:=⟨26,1,⟨[.osl 0 aM (.op .llen [aN]) 7],[.arr 4294967295 dJ aN],1,.op .and [.op (.cmp .leq) [.op .llen [aN],bC],.app 431 [aN]],.ous 1 (.op .llen [bh]) 7,[some (.arr 96 dJ bh)],[aN]⟩⟩
def fy:HC:=⟨24,2,⟨[.osl 0 aM (.op .llen [aN]) 3,.osl 1 aM (.op .llen [aO]) 3],[.arr 4294967295 nB aN,.arr 4294967295 nB aO],2,.op (.cmp .leq) [.op .llen [aN],bC],.obool bh,[],[.app 900 [aN,aO]]⟩⟩
def L32:List HC:=[pY,kd,fy]
def mh:HC:=⟨19,9,⟨[sk,.osl 0 aM (.op .llen [aS]) 4,Ef],[.arr 4294967295 oU aS],1,.op .and [.op (.cmp .leq) [.op .llen [aS],bN],.app 906 [aN,aO,aT,aU,aS,be,bd,bf,bi]],.tup [.ous 1 (.op .llen [bA]) 3,.ous 2 (.op .llen [bM]) 7,.oint .i64 bh],[some (.arr 93 nB bA),some (.arr 96 dJ bM)],[.app 905 [aN,aO,aT,aU,aS,be,bd,bf,bi],.app 903 [aN,aO,aT,aU,aS,be,bd,bf,bi],.app 904 [aN,aO,aT,aU,aS,be,bd,bf,bi]]⟩⟩
def L33:List HC:=[mh]
def xF:HC:=⟨27,11,⟨[.ptr 0 0,.agg [.oint .u8 be,.oint .i64 bd,.oint .i64 bf,.oint .i64 bi],.osl 2 aM (.op .llen [bI]) 4,.oint .i64 bt],[kw,kh,.arr 4294967295 oU bI],3,.op .and [.op (.cmp .leq) [.op .llen [bI],bN],.app 907 [aN,aO,aT,aU,aS,be,bd,bf,bi,bI,bt]],.obool bh,[],[.cb true]⟩⟩
def wA:HC:=⟨27,6,⟨[.nilp,sk,.osl 0 aM (.op .llen [aS]) 4,.oint .i64 be],[.arr 4294967295 oU aS],1,.cb false,.obool bh,[],[.cb true]⟩⟩
def L34:List HC:=[xF,wA]
def ni:HC:=⟨6,9,⟨[sk,.osl 0 aM (.op .llen [aS]) 4,.oint .i64 be,.agg [.ostr bd,.oint .i64 bf,.oint .i64 bi]],[.arr 4294967295 oU aS],1,.app 908 [aN,aO,aT,aU,aS,be,bd,bf,bi],.obool bh,[],[.cb true]⟩⟩
def L35:List HC:=[ni]
def ix:HC:=⟨34,4,⟨[GI],[],0,.cb true,.obool bh,[],[.app 735 [aN,aO,aT,aU]]⟩⟩
def iL:HC:=⟨35,4,⟨[GI],[],0,.cb true,.obool bh,[],[.app 736 [aN,aO,aT,aU]]⟩⟩
def mw:HC:=⟨36,2,⟨[.oint .i64 aN,.oint .i64 aO],[],0,.cb true,.oint .i64 bh,[],[.app 737 [aN,aO]]⟩⟩
def Zd:List HC:=[ix,iL,mw]
def kf:HC:=⟨7,6,⟨[sk,.osl 0 aM (.op .llen [aS]) 4,.oint .i64 be],[.arr 4294967295 oU aS],1,.app 738 [aN,aO,aT,aU,aS,be],.obool bh,[],[.cb true]⟩⟩
def L37:List HC:=[kf]
def eh:HC:=⟨3,0,⟨[],[],0,.cb true,.obool bh,[],[.cb true]⟩⟩
def L38:List HC:=[eh]
theorem GY:(Tryz.prog.funcs.toList.all λfn=> !(fn.name== "runtime.NumGoroutine"))=true:=by kernel_rfl
theorem Io: ∃fn:Func,Tryz.prog.funcs[68]? =some fn/\fn.body=none/\Extern.findNext fn=none/\Extern.find fn=some (Ext.mapsClone).model:=
 ⟨_,Tryz.func68,by kernel_rfl,by kernel_rfl,by kernel_rfl⟩
theorem xy: ∃fn:Func,Tryz.prog.funcs[121]? =some fn/\fn.body=none/\Extern.findNext fn=none/\Extern.find fn=some (Ext.overlaps 138 4).model:=
 ⟨_,Tryz.func121,by kernel_rfl,by kernel_rfl,by kernel_rfl⟩
theorem jX(I:Opq)(ae: ∀t,I.fix t=gv Tryz.prog t):kP.Ok I:=by
 refine⟨ae,λf fn h=> ?_,λf e h=> ?_,λ_ _ _ _ h=>(by cases h),λ_ _ _ h=>(by cases h),λ_ _ _ h=>(by cases h),λ_ _ _ _ _ h=>(by cases h)⟩
 .have h1:=k8.1 GY fn (by
   obtain⟨h2,rfl⟩:=S4.1 h;exact Array.mem_toList_iff.2 (Array.getElem_mem h2))
  simpa using h1
 .have h:(bif Nat.beq f 68 then some (.mapsClone)else bif Nat.beq f 121 then some (.overlaps 138 4)else none:Option Ext)=some e:=h;cases hf68:Nat.beq f 68 with
  |true=>
   rw[hf68]at h;obtain rfl:f=68:=by simpa using hf68
   cases h;exact Io
  |false=>
   rw[hf68]at h;simp only[cond_false]at h;cases hf121:Nat.beq f 121 with
   |true=>
    rw[hf121]at h;obtain rfl:f=121:=by simpa using hf121
    cases h;exact xy
   |false=>
    rw[hf121]at h;simp only[cond_false]at h;cases h
theorem yo(I:Opq)(ae: ∀t,I.fix t=gv Tryz.prog t):cC.Ok I:=
 let h:=jX I ae
 ⟨h.fix,h.name,h.ext,h.bin,h.un,h.conv,h.blt⟩
theorem ug(I:Opq)(ae: ∀t,I.fix t=gv Tryz.prog t):mn.Ok I:=
 let h:=jX I ae
 ⟨h.fix,h.name,h.ext,h.bin,h.un,h.conv,h.blt⟩
theorem ga:Tryz.prog.follows .mixedOrders=true:=by kernel_rfl
noncomputable def H0:List HC:=[]
noncomputable def H1:List HC:=L0++H0
noncomputable def H2:List HC:=L1++H1
noncomputable def H3:List HC:=L2++H2
noncomputable def H4:List HC:=L3++H3
noncomputable def H5:List HC:=L4++H4
noncomputable def H6:List HC:=L5++H5
noncomputable def H7:List HC:=L6++H6
noncomputable def H8:List HC:=L7++H7
noncomputable def H9:List HC:=L8++H8
noncomputable def ZW:List HC:=L9++H9
noncomputable def H11:List HC:=Xw++ZW
noncomputable def Yc:List HC:=L11++H11
noncomputable def H13:List HC:=L12++Yc
noncomputable def H14:List HC:=ZO++H13
noncomputable def YF:List HC:=L14++H14
noncomputable def H16:List HC:=L15++YF
noncomputable def ZM:List HC:=L16++H16
noncomputable def Wx:List HC:=Zp++ZM
noncomputable def Zs:List HC:=L18++Wx
noncomputable def H20:List HC:=L19++Zs
noncomputable def Ww:List HC:=YK++H20
noncomputable def H22:List HC:=L21++Ww
noncomputable def WH:List HC:=L22++H22
noncomputable def H24:List HC:=YC++WH
noncomputable def H25:List HC:=L24++H24
noncomputable def H26:List HC:=L25++H25
noncomputable def H27:List HC:=XU++H26
noncomputable def YM:List HC:=L27++H27
noncomputable def WX:List HC:=L28++YM
noncomputable def H30:List HC:=L29++WX
noncomputable def H31:List HC:=Xu++H30
noncomputable def H32:List HC:=L31++H31
noncomputable def H33:List HC:=L32++H32
noncomputable def Tj:List HC:=L33++H33
noncomputable def H35:List HC:=L34++Tj
noncomputable def H36:List HC:=L35++H35
noncomputable def H37:List HC:=Zd++H36
noncomputable def H38:List HC:=L37++H37
def fF:VT:= .both (.both (.both (.both (.ret 0 [.cb true]) (.ret 0 [.cb true])) (.both (.ret 0 [.cb true]) (.ret 0 [.cb true]))) (.both (.both (.ret 0 [.cb true]) (.ret 0 [.cb true])) (.both (.ret 0 [.cb true]) (.ret 0 [.cb true])))) (.both (.both (.both (.ret 0 [.cb true]) (.ret 0 [.cb true])) (.both (.ret 0 [.cb true]) (.ret 0 [.cb true]))) (.both (.both (.ret 0 [.cb true]) (.ret 0 [.cb true])) (.both (.ret 0 [.cb true]) (.ret 0 [.cb true]))))
theorem ua:FC.run kP 1000000 fE.f fE.c fE.c.args=fF:=by kernel_rfl
theorem uZ:FC.run kP 1000000 fG.f fG.c fG.c.args=fF:=by kernel_rfl
theorem nw:FC.run (cC.hooks H3) 1000000 cR.f cR.c iA=S9.T_evRight0:=by kernel_rfl
theorem mf:FC.run (cC.hooks H3) 1000000 cR.f cR.c iG=S9.T_evRight1:=by kernel_rfl
theorem nc:FC.run (cC.hooks H3) 1000000 cR.f cR.c iw=S9.T_evRight2:=by kernel_rfl
def Om(I:Opq):Prop:=OB F Tryz.prog I
theorem dK(I:Opq)(v0:Nat)(l:List Val)(h:Om I):Om (I.upd v0 l):=h
theorem cr{I:Opq}(h:Om I): ∀i a,I.f i a=F i a:=λi a=>by rw[h.1]
theorem tW(I:Opq)(h:Om I):cC.Ok I:=yo I h.2
theorem vZ(I:Opq)(h:Om I):kP.Ok I:=jX I h.2
theorem FH(I:Opq)(h:Om I):mn.Ok I:=ug I h.2
theorem kX{O:cq}{I:Opq}{us:List Value}{k:IntKind}{n:Nat}{i:Int}{r:List AV}(h:(I.w n).toI=i)(hv:ct O I [.agg (.oint k (.va n)::r)] us):ct O I [.agg (.int k i::r)] us:=by
 obtain⟨v,vr,e,⟨xs,e2,u,ur,e3,p1,p2⟩,q⟩:=hv;refine⟨v,vr,e,⟨xs,e2,u,ur,e3,?_,p2⟩,q⟩;show u= .int k i;rw[<-h];exact p1
theorem rn{cs:List HC}{x:HC}{T:VT}(hc: ∀x∈cs,cD cC Om x)(ho:tr x.c x.nv=true)(r:FC.run (cC.hooks cs) 1000000 x.f x.c x.c.args=T)(m: ∀I,Om I->dB I x.c.need=true->Z0 T I=some (0,ck I x.c.outs)):cD cC Om x:=Cg (E:=cC) (cs:=cs) dK tW ga hc (n:=1000000) ho (SZ r m)
theorem fn{T:VT}{I:Opq}{l q:List Val}(h:Z0 T I=some (0,l))(e:l=q):Z0 T I=some (0,q):=e▸h
theorem HF: ∀x∈H0,cD cC Om x:=λx hx=>by cases hx
theorem uK:cD cC Om fE:=
 Cg (E:=kP) (cs:=[]) dK vZ ga (λx hx=>by cases hx) (n:=1000000) (by kernel_rfl) (SZ (T:=fF) ua λI ae hn=>by
  exact(S9.allT_ok (t:=fF) (by kernel_rfl)).trans (by simp only[fE,ck,bZ]))
theorem tR:cD cC Om fG:=
 Cg (E:=kP) (cs:=[]) dK vZ ga (λx hx=>by cases hx) (n:=1000000) (by kernel_rfl) (SZ (T:=fF) uZ λI ae hn=>by
  exact(S9.allT_ok (t:=fF) (by kernel_rfl)).trans (by simp only[fG,ck,bZ]))
theorem Ib: ∀x∈L0,cD cC Om x:=by
 exact dp (dp (λx hx=>(by cases hx)) tR) uK
theorem EB: ∀x∈H1,cD cC Om x:=ff HF Ib
theorem ES: ∀x∈L1,cD cC Om x:=by
 exactλx hx=>(by cases hx)
theorem FA: ∀x∈H2,cD cC Om x:=ff EB ES
theorem EW: ∀x∈L2,cD cC Om x:=by
 exactλx hx=>(by cases hx)
theorem fx: ∀x∈H3,cD cC Om x:=ff FA EW
theorem pV:cD cC Om iJ:=
 rn (T:=S9.T_wRight) fx (by kernel_rfl) (by kernel_rfl) (λI ae hn=>by
  exact fn (S9.t_wRight) (by simp only[iJ,ck,bZ,cK,cr ae]<;>rfl))
theorem om:cD cC Om cR:=
 Cg (E:=cC) (cs:=H3) dK tW ga fx (n:=1000000) (by kernel_rfl) (λI ae hn=>by
  by_cases hk:(I.w 0).toI=1\/(I.w 0).toI=2
  .rcases hk with e|e
   .exact⟨iG,λO us h=>kX e h,by rw[mf];exact fn (S9.t_evRight1 (X:=S9.FQ F0) e) (by simp only[cR,ck,bZ,cK,cr ae]<;>rfl)⟩
   .exact⟨iw,λO us h=>kX e h,by rw[nc];exact fn (S9.t_evRight2 (X:=S9.FQ F0) e) (by simp only[cR,ck,bZ,cK,cr ae]<;>rfl)⟩
  .exact⟨iA,λO us h=>h,by rw[nw];exact fn (S9.t_evRight0 (X:=S9.FQ F0) (by omega)) (by simp only[cR,ck,bZ,cK,cr ae]<;>rfl)⟩)
theorem rN:cD cC Om iC:=
 rn (T:=S9.T_numSum) fx (by kernel_rfl) (by kernel_rfl) (λI ae hn=>by
  have hn:decide (((I.w 0).toL.length:Int)<=1000000)=true:=hn;have hn:=j5 hn;exact fn (S9.t_numSum (cr ae) (by omega)) (by simp only[iC,ck,bZ,cK,cr ae]<;>rfl))
theorem ve:cD cC Om jU:=
 rn (T:=RM) fx (by kernel_rfl) (by kernel_rfl) (λI ae hn=>by
  have hn:decide (((I.w 0).toL.length:Int)<=1000000)=true:=hn;have hn:=j5 hn;exact fn (dk6 (cr ae) (by omega)) (by simp only[jU,ck,bZ,cK,cr ae]<;>rfl))
theorem xQ:cD cC Om mz:=
 rn (T:=S9.T_down) fx (by kernel_rfl) (by kernel_rfl) (λI ae hn=>by
  have hn:((decide (1<=(I.w 1).toI)&&decide ((I.w 1).toI<=1048576))&&(decide (-1099511627776<=(I.w 0).toI)&&decide ((I.w 0).toI<=1099511627776)))=true:=hn;obtain⟨h1,h2⟩:=Z1 hn;obtain⟨h3,h4⟩:=Z1 h1;obtain⟨h5,h6⟩:=Z1 h2;exact fn (S9.t_down (j5 h3) (j5 h4) (j5 h5) (j5 h6)) (by simp only[mz,ck,bZ,cK,cr ae]<;>rfl))
theorem qN:cD cC Om iy:=
 rn (T:=S9.T_sRight) fx (by kernel_rfl) (by kernel_rfl) (λI ae hn=>by
  exact fn (S9.t_sRight (cr ae) hn) (by simp only[iy,ck,bZ,cK,cr ae]<;>rfl))
theorem nI:cD cC Om kr:=
 rn (T:=S9.T_spanP) fx (by kernel_rfl) (by kernel_rfl) (λI ae hn=>by
  exact fn (S9.t_spanP) (by simp only[kr,ck,bZ,cK,cr ae]<;>rfl))
noncomputable def dV(n:Nat):Bool:=(List.range (n+1)).all λj=>Gj mn 1000000 96 139 (kT 139 (.app 713 [aN,aO,aT,aU,aS]) (.app 714 [aN,aO,aT,aU,aS])) [.us 1 0 n 2,.int .i64 (j:Int),.sl 0 0 1 1] n j
theorem gW{P:Nat->Prop}{n:Nat}(h: ∀i,i<n->P i)(hn:P n): ∀i,i<n+1->P i:=λi hi=>by
 by_cases c:i<n
 .exact h i c
 .obtain rfl:i=n:=by omega
  exact hn
theorem Ae:Gj mn 1000000 96 139 (kT 139 (.app 713 [aN,aO,aT,aU,aS]) (.app 714 [aN,aO,aT,aU,aS])) [.nils,.int .i64 0,.sl 0 0 1 1] 0 0=true:=by kernel_rfl
theorem GL:dV 0=true:=by kernel_rfl
theorem Gb:dV 1=true:=by kernel_rfl
theorem Hr:dV 2=true:=by kernel_rfl
theorem Ik:dV 3=true:=by kernel_rfl
theorem Ir:dV 4=true:=by kernel_rfl
theorem HM:dV 5=true:=by kernel_rfl
theorem HY:dV 6=true:=by kernel_rfl
theorem Iv:dV 7=true:=by kernel_rfl
theorem GZ:dV 8=true:=by kernel_rfl
theorem HH:dV 9=true:=by kernel_rfl
theorem Ah:dV 10=true:=by kernel_rfl
theorem yW:dV 11=true:=by kernel_rfl
theorem Bd:dV 12=true:=by kernel_rfl
theorem zV:dV 13=true:=by kernel_rfl
theorem Bl:dV 14=true:=by kernel_rfl
theorem xz:dV 15=true:=by kernel_rfl
theorem xL:dV 16=true:=by kernel_rfl
theorem Aj:dV 17=true:=by kernel_rfl
theorem zB:dV 18=true:=by kernel_rfl
theorem AH:dV 19=true:=by kernel_rfl
theorem yj:dV 20=true:=by kernel_rfl
theorem xH:dV 21=true:=by kernel_rfl
theorem zU:dV 22=true:=by kernel_rfl
theorem xj:dV 23=true:=by kernel_rfl
theorem Az:dV 24=true:=by kernel_rfl
theorem qu:cU9 mn 1000000 96 139 (kT 139 (.app 713 [aN,aO,aT,aU,aS]) (.app 714 [aN,aO,aT,aU,aS])) 24=true:=
 Bool.and_eq_true_iff.2 ⟨Ae,k8.2 λn hn=>(gW (gW (gW (gW (gW (gW (gW (gW (gW (gW (gW (gW (gW (gW (gW (gW (gW (gW (gW (gW (gW (gW (gW (gW (gW (λi hi=>absurd hi (G8 i)) GL) Gb) Hr) Ik) Ir) HM) HY) Iv) GZ) HH) Ah) yW) Bd) zV) Bl) xz) xL) Aj) zB) AH) yj) xH) zU) xj) Az: ∀i,i<24+1->dV i=true) n (r9.1 hn)⟩
theorem yl:cD cC Om pS:=
 (JR (E:=cC) dK (nv:=5) (by kernel_rfl) (db7 (E:=cC) (Ec:=mn) (N:=1000000) (M:=24) (f:=96) (e:=139) rfl (λI ae=>((Pk (E:=mn) dK FH (λI ae=>bF5 λ_ _ _=>rfl) ga 1000000 I ae).1 _ (e9 _)).1) (by decide) (λI ae=>(ae.2 139).trans (by kernel_rfl)) qu (λI ae hn=>S9.sins_ok (cr ae) hn)):cD cC Om ⟨96,5,(kT 139 (.app 713 [aN,aO,aT,aU,aS]) (.app 714 [aN,aO,aT,aU,aS]))⟩)
def uc:Go.Shelf.Ren:=⟨λ|6=>97|15=>124|14=>123|28=>146|29=>147|20=>138|21=>139|22=>140|23=>141|24=>142|25=>143|26=>144|27=>145|46=>156|47=>157|48=>158|49=>159|50=>160|57=>161|n=>n,λ|22=>138|24=>139|25=>160|3=>3|39=>186|0=>0|53=>214|55=>198|4=>4|46=>208|45=>207|50=>158|5=>5|9=>9|66=>223|70=>226|76=>228|77=>229|n=>n,λ|n=>n⟩
theorem ql:Go.Proofs.SlLaysF0.n6 Tryz.prog uc:={
 mixed:=by kernel_rfl
 f6:=⟨Tryz.f97.name,by decide,Tryz.func97.trans (congrArg some (by kernel_rfl))⟩
 f14:=⟨Tryz.f123.name,by decide,Tryz.func123.trans (congrArg some (by kernel_rfl))⟩
 f15:=Tryz.func124.trans (congrArg some (by kernel_rfl))
 f20:=⟨Tryz.f138.name,by decide,Tryz.func138.trans (congrArg some (by kernel_rfl))⟩
 f21:=⟨Tryz.f139.name,by decide,Tryz.func139.trans (congrArg some (by kernel_rfl))⟩
 f22:=⟨Tryz.f140.name,by decide,Tryz.func140.trans (congrArg some (by kernel_rfl))⟩
 f23:=⟨Tryz.f141.name,by decide,Tryz.func141.trans (congrArg some (by kernel_rfl))⟩
 f24:=⟨Tryz.f142.name,by decide,Tryz.func142.trans (congrArg some (by kernel_rfl))⟩
 f25:=⟨Tryz.f143.name,by decide,Tryz.func143.trans (congrArg some (by kernel_rfl))⟩
 f26:=⟨Tryz.f144.name,by decide,Tryz.func144.trans (congrArg some (by kernel_rfl))⟩
 f27:=⟨Tryz.f145.name,by decide,Tryz.func145.trans (congrArg some (by kernel_rfl))⟩
 f28:=Tryz.func146.trans (congrArg some (by kernel_rfl))
 f29:=Tryz.func147.trans (congrArg some (by kernel_rfl))
 f46:=⟨Tryz.f156.name,by decide,Tryz.func156.trans (congrArg some (by kernel_rfl))⟩
 f47:=Tryz.func157.trans (congrArg some (by kernel_rfl))
 f48:=Tryz.func158.trans (congrArg some (by kernel_rfl))
 f49:=⟨Tryz.f159.name,by decide,Tryz.func159.trans (congrArg some (by kernel_rfl))⟩
 f50:=⟨Tryz.f160.name,by decide,Tryz.func160.trans (congrArg some (by kernel_rfl))⟩
 f57:=⟨Tryz.f161.name,by decide,Tryz.func161.trans (congrArg some (by kernel_rfl))⟩
 t0:=Tryz.underlying0
 a0:=Tryz.isAgg0
 z0:=Tryz.sizeOf0
 v0:=Tryz.zeroValue0
 t3:=Tryz.underlying3
 a3:=Tryz.isAgg3
 z3:=Tryz.sizeOf3
 v3:=Tryz.zeroValue3
 t4:=Tryz.underlying4
 a4:=Tryz.isAgg4
 z4:=Tryz.sizeOf4
 v4:=Tryz.zeroValue4
 t5:=Tryz.underlying5
 a5:=Tryz.isAgg5
 z5:=Tryz.sizeOf5
 v5:=Tryz.zeroValue5
 t9:=Tryz.underlying9
 a9:=Tryz.isAgg9
 z9:=Tryz.sizeOf9
 v9:=Tryz.zeroValue9
 t22:=Tryz.underlying138
 a22:=Tryz.isAgg138
 z22:=Tryz.sizeOf138
 v22:=Tryz.zeroValue138
 t25:=Tryz.underlying160
 a25:=Tryz.isAgg160
 z25:=Tryz.sizeOf160
 v25:=Tryz.zeroValue160
 t39:=Tryz.underlying186
 a39:=Tryz.isAgg186
 z39:=Tryz.sizeOf186
 v39:=Tryz.zeroValue186
 t45:=Tryz.underlying207
 a45:=Tryz.isAgg207
 z45:=Tryz.sizeOf207
 v45:=Tryz.zeroValue207
 t46:=Tryz.underlying208
 a46:=Tryz.isAgg208
 z46:=Tryz.sizeOf208
 v46:=Tryz.zeroValue208
 t50:=Tryz.underlying158
 a50:=Tryz.isAgg158
 z50:=Tryz.sizeOf158
 v50:=Tryz.zeroValue158
 t53:=Tryz.underlying214
 a53:=Tryz.isAgg214
 z53:=Tryz.sizeOf214
 v53:=Tryz.zeroValue214
 t55:=Tryz.underlying198
 a55:=Tryz.isAgg198
 z55:=Tryz.sizeOf198
 v55:=Tryz.zeroValue198
 t66:=Tryz.underlying223
 a66:=Tryz.isAgg223
 z66:=Tryz.sizeOf223
 v66:=Tryz.zeroValue223
 t70:=Tryz.underlying226
 a70:=Tryz.isAgg226
 z70:=Tryz.sizeOf226
 v70:=Tryz.zeroValue226
 t76:=Tryz.underlying228
 a76:=Tryz.isAgg228
 z76:=Tryz.sizeOf228
 v76:=Tryz.zeroValue228
 t77:=Tryz.underlying229
 a77:=Tryz.isAgg229
 z77:=Tryz.sizeOf229
 v77:=Tryz.zeroValue229}
noncomputable def om0:Opq:=⟨ax.v,ax.w,F,ax.one,gv Tryz.prog,λ_=>none⟩
theorem xE(G:Nat->List Val->Val)(P:Program):OB G P ⟨ax.v,ax.w,G,ax.one,gv P,λ_=>none⟩:=⟨rfl,λ_=>rfl⟩
theorem AD:Om om0:=xE F Tryz.prog
theorem EO:Na Tryz.prog 98 [.int .i64,.int .i64] S9.spanV:=
 dx8 (E:=cC) dK AD nI (x:= .app 712 [aN,aO,aT,aU]) (h2:=Heap.empty) (by kernel_rfl) (λI ae a b ha hb=>by
  have a0:I.w 0=a.toL.getD 0 default:=ha 0 (by decide);have a1:I.w 1=a.toL.getD 1 default:=ha 1 (by decide);have b0:I.w 2=b.toL.getD 0 default:=hb 0 (by decide);have b1:I.w 3=b.toL.getD 1 default:=hb 1 (by decide);show(I.f 712 [I.w 0,I.w 1,I.w 2,I.w 3]).toI=_;rw[cr ae,a0,a1,b0,b1];rfl)
theorem nS:cD cC Om nY:=
 (JR (E:=cC) dK (nv:=2) (by kernel_rfl) (db0 (E:=cC) ql (f:=97) rfl (g:=98) (sig:=[.int .i64,.int .i64]) (e:=139) (id:=715) (cf:=S9.spanV) Tryz.isAgg139 Tryz.sizeOf139 S9.swo_spanV (enters_of Tryz.func98 (by kernel_rfl) rfl) EO (λI ae l=>by rw[cr ae];rfl) (by kernel_rfl)):cD cC Om ⟨97,2,Ft 98 139 [.int .i64,.int .i64] 715⟩)
theorem rK:cD cC Om gp:=
 (JR (E:=cC) dK (nv:=2) (by kernel_rfl) (db2 dK nS (g:=98) (e:=139) (sig:=[.int .i64,.int .i64]) (need:=gp.c.need) (id:=715) (by kernel_rfl) (by kernel_rfl) (λI ae hn=>S9.sortsb_ok (cr ae) hn) (by kernel_rfl)):cD cC Om ⟨97,2,NG 98 139 [.int .i64,.int .i64] gp.c.need 715⟩)
theorem qJ:cD cC Om iS:=
 rn (T:=LY) fx (by kernel_rfl) (by kernel_rfl) (λI ae hn=>by
  have hn:(decide (((I.w 0).toL.length:Int)<=400)&&(I.f 431 [I.w 0]).toB)=true:=hn;obtain⟨h1,h2⟩:=Z1 hn;rw[cr ae]at h2;exact(S7.t_cloneR (cr ae) (by have:=j5 h1;omega) h2).trans (by simp only[iS,ck,bZ,cr ae]))
theorem tJ:cD cC Om kc:=
 rn (T:=cq5) fx (by kernel_rfl) (by kernel_rfl) (λI ae hn=>by
  have hn:(I.f 420 [I.w 0,I.w 1,I.w 2,I.w 3,I.w 4]).toB=true:=hn;rw[cr ae]at hn;exact(S7.t_swapR (cr ae) hn).trans (by simp only[kc,ck,bZ,cr ae]))
theorem At:cD cC Om mB:=
 rn (T:=Kn) fx (by kernel_rfl) (by kernel_rfl) (λI ae hn=>by
  exact S7.t_cmpR.trans (by simp only[mB,ck,bZ,cr ae]))
theorem Fo: ∀x∈L3,cD cC Om x:=by
 exact dp (dp (dp (dp (dp (dp (dp (dp (dp (dp (dp (dp (dp (λx hx=>(by cases hx)) At) tJ) qJ) rK) nS) yl) nI) qN) xQ) ve) rN) om) pV
theorem lf: ∀x∈H4,cD cC Om x:=ff fx Fo
theorem yM:cD cC Om mV:=
 rn (T:=cV2) lf (by kernel_rfl) (by kernel_rfl) (λI ae hn=>by
  have hn:(I.f 422 [I.w 0,I.w 1,I.w 2,I.w 3,I.w 4]).toB=true:=hn;rw[cr ae]at hn;exact(S7.t_rotC (cr ae) hn).trans (by simp only[mV,ck,bZ,cr ae]))
theorem EZ:cD cC Om qM:=
 rn (T:=S9.T_wOf) lf (by kernel_rfl) (by kernel_rfl) (λI ae hn=>by
  exact fn (S9.t_wOf (cr ae)) (by simp only[qM,ck,bZ,cK,cr ae]<;>rfl))
theorem Ao:cD cC Om mR:=
 rn (T:=S9.T_join) lf (by kernel_rfl) (by kernel_rfl) (λI ae hn=>by
  have hn:decide (((I.w 0).toL.length:Int)<=1000)=true:=hn;have hn:=j5 hn;exact fn (S9.t_join (cr ae) (by omega)) (by simp only[mR,ck,bZ,cK,cr ae]<;>rfl))
theorem ow:cD cC Om gF:=
 rn (T:=S9.T_sinsert) lf (by kernel_rfl) (by kernel_rfl) (λI ae hn=>by
  exact fn (S9.t_sinsert (cr ae) hn) (by simp only[gF,ck,bZ,cK,cr ae]<;>rfl))
theorem Fh: ∀x∈L4,cD cC Om x:=by
 exact dp (dp (dp (dp (λx hx=>(by cases hx)) ow) Ao) EZ) yM
theorem nM: ∀x∈H5,cD cC Om x:=ff lf Fh
theorem AA:cD cC Om nh:=
 rn (T:=Xv) nM (by kernel_rfl) (by kernel_rfl) (λI ae hn=>by
  have hn:(I.f 424 [I.w 0,I.w 1,I.w 2,I.w 3]).toB=true:=hn;rw[cr ae]at hn;exact(S7.t_insC (cr ae) hn).trans (by simp only[nh,ck,bZ,cr ae]))
theorem AT:cD cC Om qS:=
 Cg (E:=cC) (cs:=H5) dK tW ga nM (n:=1000000) (by kernel_rfl) (λI ae hn=>by
  have hn:(I.f 426 [I.w 0,I.w 1,I.w 2,I.w 3,I.w 4,.vi 1]).toB=true:=hn;rw[cr ae]at hn;exact(S7.sym_vac hn).elim)
theorem Ad:cD cC Om nj:=
 rn (T:=S9.T_aput) nM (by kernel_rfl) (by kernel_rfl) (λI ae hn=>by
  exact fn (S9.t_aput (cr ae)) (by simp only[nj,ck,bZ,cK,cr ae]<;>rfl))
theorem FD: ∀x∈L5,cD cC Om x:=by
 exact dp (dp (dp (λx hx=>(by cases hx)) Ad) AT) AA
theorem wM: ∀x∈H6,cD cC Om x:=ff nM FD
theorem yL:cD cC Om mH:=
 rn (T:=rM 1) wM (by kernel_rfl) (by kernel_rfl) (λI ae hn=>by
  have hn:(I.f 426 [I.w 0,I.w 1,I.w 2,I.w 3,I.w 4,.vi 2]).toB=true:=hn;rw[cr ae]at hn;exact(S7.t_sym (B:=1) (cr ae) hn).trans (by simp only[mH,ck,bZ,cr ae]))
theorem HW: ∀x∈L6,cD cC Om x:=by
 exact dp (λx hx=>(by cases hx)) yL
theorem wl: ∀x∈H7,cD cC Om x:=ff wM HW
theorem yD:cD cC Om lY:=
 rn (T:=rM 2) wl (by kernel_rfl) (by kernel_rfl) (λI ae hn=>by
  have hn:(I.f 426 [I.w 0,I.w 1,I.w 2,I.w 3,I.w 4,.vi 4]).toB=true:=hn;rw[cr ae]at hn;exact(S7.t_sym (B:=2) (cr ae) hn).trans (by simp only[lY,ck,bZ,cr ae]))
theorem GB: ∀x∈L7,cD cC Om x:=by
 exact dp (λx hx=>(by cases hx)) yD
theorem vB: ∀x∈H8,cD cC Om x:=ff wl GB
theorem Bf:cD cC Om nr:=
 rn (T:=rM 4) vB (by kernel_rfl) (by kernel_rfl) (λI ae hn=>by
  have hn:(I.f 426 [I.w 0,I.w 1,I.w 2,I.w 3,I.w 4,.vi 8]).toB=true:=hn;rw[cr ae]at hn;exact(S7.t_sym (B:=4) (cr ae) hn).trans (by simp only[nr,ck,bZ,cr ae]))
theorem Fa: ∀x∈L8,cD cC Om x:=by
 exact dp (λx hx=>(by cases hx)) Bf
theorem wv: ∀x∈H9,cD cC Om x:=ff vB Fa
theorem AW:cD cC Om lX:=
 rn (T:=rM 8) wv (by kernel_rfl) (by kernel_rfl) (λI ae hn=>by
  have hn:(I.f 426 [I.w 0,I.w 1,I.w 2,I.w 3,I.w 4,.vi 16]).toB=true:=hn;rw[cr ae]at hn;exact(S7.t_sym (B:=8) (cr ae) hn).trans (by simp only[lX,ck,bZ,cr ae]))
theorem Fs: ∀x∈L9,cD cC Om x:=by
 exact dp (λx hx=>(by cases hx)) AW
theorem qI: ∀x∈ZW,cD cC Om x:=ff wv Fs
theorem AJ:cD cC Om mU:=
 rn (T:=rM 16) qI (by kernel_rfl) (by kernel_rfl) (λI ae hn=>by
  have hn:(I.f 426 [I.w 0,I.w 1,I.w 2,I.w 3,I.w 4,.vi 32]).toB=true:=hn;rw[cr ae]at hn;exact(S7.t_sym (B:=16) (cr ae) hn).trans (by simp only[mU,ck,bZ,cr ae]))
theorem Ba: ∀x∈Xw,cD cC Om x:=by
 exact dp (λx hx=>(by cases hx)) AJ
theorem qd: ∀x∈H11,cD cC Om x:=ff qI Ba
theorem xI:cD cC Om mr:=
 rn (T:=rM 32) qd (by kernel_rfl) (by kernel_rfl) (λI ae hn=>by
  have hn:(I.f 426 [I.w 0,I.w 1,I.w 2,I.w 3,I.w 4,.vi 64]).toB=true:=hn;rw[cr ae]at hn;exact(S7.t_sym (B:=32) (cr ae) hn).trans (by simp only[mr,ck,bZ,cr ae]))
theorem zC: ∀x∈L11,cD cC Om x:=by
 exact dp (λx hx=>(by cases hx)) xI
theorem qz: ∀x∈Yc,cD cC Om x:=ff qd zC
theorem zR:cD cC Om mN:=
 rn (T:=rM 64) qz (by kernel_rfl) (by kernel_rfl) (λI ae hn=>by
  have hn:(I.f 426 [I.w 0,I.w 1,I.w 2,I.w 3,I.w 4,.vi 128]).toB=true:=hn;rw[cr ae]at hn;exact(S7.t_sym (B:=64) (cr ae) hn).trans (by simp only[mN,ck,bZ,cr ae]))
theorem Bt: ∀x∈L12,cD cC Om x:=by
 exact dp (λx hx=>(by cases hx)) zR
theorem qo: ∀x∈H13,cD cC Om x:=ff qz Bt
theorem Av:cD cC Om nf:=
 rn (T:=rM 128) qo (by kernel_rfl) (by kernel_rfl) (λI ae hn=>by
  have hn:(I.f 426 [I.w 0,I.w 1,I.w 2,I.w 3,I.w 4,.vi 256]).toB=true:=hn;rw[cr ae]at hn;exact(S7.t_sym (B:=128) (cr ae) hn).trans (by simp only[nf,ck,bZ,cr ae]))
theorem yQ: ∀x∈ZO,cD cC Om x:=by
 exact dp (λx hx=>(by cases hx)) Av
theorem re: ∀x∈H14,cD cC Om x:=ff qo yQ
theorem xJ:cD cC Om nm:=
 rn (T:=rM 256) re (by kernel_rfl) (by kernel_rfl) (λI ae hn=>by
  have hn:(I.f 426 [I.w 0,I.w 1,I.w 2,I.w 3,I.w 4,.vi 512]).toB=true:=hn;rw[cr ae]at hn;exact(S7.t_sym (B:=256) (cr ae) hn).trans (by simp only[nm,ck,bZ,cr ae]))
theorem Ap: ∀x∈L14,cD cC Om x:=by
 exact dp (λx hx=>(by cases hx)) xJ
theorem qQ: ∀x∈YF,cD cC Om x:=ff re Ap
theorem AQ:cD cC Om mZ:=
 rn (T:=cW2) qQ (by kernel_rfl) (by kernel_rfl) (λI ae hn=>by
  have hn:(I.f 428 [I.w 0,I.w 1,I.w 2]).toB=true:=hn;rw[cr ae]at hn;exact(S7.t_stab (cr ae) hn).trans (by simp only[mZ,ck,bZ,cr ae]))
theorem BA: ∀x∈L15,cD cC Om x:=by
 exact dp (λx hx=>(by cases hx)) AQ
theorem pL: ∀x∈H16,cD cC Om x:=ff qQ BA
theorem uD:cD cC Om kl:=
 rn (T:=YT) pL (by kernel_rfl) (by kernel_rfl) (λI ae hn=>by
  have hn:(decide (((I.w 0).toL.length:Int)<=400)&&(I.f 431 [I.w 0]).toB)=true:=hn;obtain⟨h1,h2⟩:=Z1 hn;rw[cr ae]at h2;exact(S7.t_sstab (cr ae) (by have:=j5 h1;omega) h2).trans (by simp only[kl,ck,bZ,cK,cr ae]))
theorem xh: ∀x∈L16,cD cC Om x:=by
 exact dp (λx hx=>(by cases hx)) uD
theorem qR: ∀x∈ZM,cD cC Om x:=ff pL xh
theorem jz:cD cC Om fC:=
 rn (T:=Wv) qR (by kernel_rfl) (by kernel_rfl) (λI ae hn=>by
  have hn:(decide (((I.w 0).toL.length:Int)<=400)&&(I.f 431 [I.w 0]).toB)=true:=hn;obtain⟨h1,h2⟩:=Z1 hn;rw[cr ae]at h2;exact(S7.t_aggSort (cr ae) (by have:=j5 h1;omega) h2).trans (by simp only[fC,ck,bZ,cr ae]))
theorem mv:cD cC Om fW:=
 (JR (E:=cC) dK (nv:=2) (by kernel_rfl) (db1 dK jz (e:=74) (sig:=[.str,.int .i64,.int .i64,.int .i64,.int .i64,.int .i64,.int .i64]) (id:=490) (by kernel_rfl) (λI ae hn=>dE5 (cr ae) hn) (by kernel_rfl)):cD cC Om ⟨fC.f,2,CR 74 [.str,.int .i64,.int .i64,.int .i64,.int .i64,.int .i64,.int .i64] fW.c.need 490⟩)
theorem yw: ∀x∈Zp,cD cC Om x:=by
 exact dp (dp (λx hx=>(by cases hx)) mv) jz
theorem km: ∀x∈Wx,cD cC Om x:=ff qR yw
theorem tC:cD cC Om ku:=
 rn (T:=S9.T_trows) km (by kernel_rfl) (by kernel_rfl) (λI ae hn=>by
  exact fn (S9.t_trows (cr ae) (λv h=>PN h) hn) (by simp only[ku,ck,bZ,cK,cr ae]<;>rfl))
theorem zF:cD cC Om mY:=
 rn (T:=S9.T_tget) km (by kernel_rfl) (by kernel_rfl) (λI ae hn=>by
  exact fn (S9.t_tget) (by simp only[mY,ck,bZ,cK,cr ae]<;>rfl))
theorem uA:cD cC Om jY:=
 rn (T:=S9.T_tsess) km (by kernel_rfl) (by kernel_rfl) (λI ae hn=>by
  exact fn (S9.t_tsess (cr ae) dY5 hn) (by simp only[jY,ck,bZ,cK,cr ae]<;>rfl))
theorem yS: ∀x∈L18,cD cC Om x:=by
 exact dp (dp (dp (λx hx=>(by cases hx)) uA) zF) tC
theorem mW: ∀x∈Zs,cD cC Om x:=ff km yS
theorem qm:cD cC Om iq:=
 rn (T:=S9.T_joined) mW (by kernel_rfl) (by kernel_rfl) (λI ae hn=>by
  exact fn (S9.t_joined (cr ae) hn) (by simp only[iq,ck,bZ,cK,cr ae]<;>rfl))
theorem tP:cD cC Om jW:=
 rn (T:=S9.T_fired) mW (by kernel_rfl) (by kernel_rfl) (λI ae hn=>by
  have hn:((decide (((I.w 4).toL.length:Int)<=400)&&(I.f 431 [I.w 4]).toB)&&(I.f 491 [I.w 4]).toB)=true:=hn;obtain⟨hn,h3⟩:=Z1 hn;obtain⟨h1,h2⟩:=Z1 hn;rw[cr ae]at h2 h3;have h1:=j5 h1;exact fn (S9.c_fired (cr ae) (by omega) h2 h3) (by simp only[jW,ck,bZ,cK,cr ae]<;>rfl))
theorem yd: ∀x∈L19,cD cC Om x:=by
 exact dp (dp (λx hx=>(by cases hx)) tP) qm
theorem pX: ∀x∈H20,cD cC Om x:=ff mW yd
theorem Aa:cD cC Om mg:=
 rn (T:=S9.T_sess) pX (by kernel_rfl) (by kernel_rfl) (λI ae hn=>by
  exact fn (S9.t_sess (cr ae) hn) (by simp only[mg,ck,bZ,cK,cr ae]<;>rfl))
theorem Bo: ∀x∈YK,cD cC Om x:=by
 exact dp (λx hx=>(by cases hx)) Aa
theorem rH: ∀x∈Ww,cD cC Om x:=ff pX Bo
theorem Hk:cD cC Om rO:=
 rn (T:=S9.T_tryE) rH (by kernel_rfl) (by kernel_rfl) (λI ae hn=>by
  exact fn (S9.t_tryE (cr ae) S9.fe_x.x431 hn) (by simp only[rO,ck,bZ,cK,cr ae]<;>rfl))
theorem yG: ∀x∈L21,cD cC Om x:=by
 exact dp (λx hx=>(by cases hx)) Hk
theorem rI: ∀x∈H22,cD cC Om x:=ff rH yG
theorem Ha:cD cC Om rT:=
 rn (T:=S9.T_put) rI (by kernel_rfl) (by kernel_rfl) (λI ae hn=>by
  exact fn (S9.put_t (cr ae) hn) (by simp only[rT,ck,bZ,cK,cr ae]<;>rfl))
theorem Bn: ∀x∈L22,cD cC Om x:=by
 exact dp (λx hx=>(by cases hx)) Ha
theorem zQ: ∀x∈WH,cD cC Om x:=ff rI Bn
theorem Ay: ∀x∈YC,cD cC Om x:=by
 exactλx hx=>(by cases hx)
theorem xd: ∀x∈H24,cD cC Om x:=ff zQ Ay
theorem zW: ∀x∈L24,cD cC Om x:=by
 exactλx hx=>(by cases hx)
theorem eW: ∀x∈H25,cD cC Om x:=ff xd zW
theorem pZ:cD cC Om iI:=
 rn (T:=S9.T_rRight) eW (by kernel_rfl) (by kernel_rfl) (λI ae hn=>by
  exact fn (S9.c_rRight) (by simp only[iI,ck,bZ,cK,cr ae]<;>rfl))
theorem GU:cD cC Om qB:=
 rn (T:=S9.T_rev) eW (by kernel_rfl) (by kernel_rfl) (λI ae hn=>by
  exact fn (S9.c_rev) (by simp only[qB,ck,bZ,cK,cr ae]<;>rfl))
theorem yO:cD cC Om nu:=
 rn (T:=S9.T_r3of) eW (by kernel_rfl) (by kernel_rfl) (λI ae hn=>by
  exact fn (S9.c_r3of) (by simp only[nu,ck,bZ,cK,cr ae]<;>rfl))
theorem qf:cD cC Om iO:=
 rn (T:=S9.T_r3plus) eW (by kernel_rfl) (by kernel_rfl) (λI ae hn=>by
  exact fn (S9.c_r3plus) (by simp only[iO,ck,bZ,cK,cr ae]<;>rfl))
theorem uo:cD cC Om ko:=
 rn (T:=S9.T_sameV) eW (by kernel_rfl) (by kernel_rfl) (λI ae hn=>by
  have hn:decide (((I.w 0).toL.length:Int)<=1000000)=true:=hn;have hn:=j5 hn;exact fn (dl0 (cr ae) (by omega)) (by simp only[ko,ck,bZ,cK,cr ae]<;>rfl))
theorem Fp:cD cC Om qk:=
 rn (T:=S9.T_has) eW (by kernel_rfl) (by kernel_rfl) (λI ae hn=>by
  have hn:decide (((I.w 0).toL.length:Int)<=1000000)=true:=hn;have hn:=j5 hn;exact fn (S9.c_has (cr ae) (by omega)) (by simp only[qk,ck,bZ,cK,cr ae]<;>rfl))
theorem rJ:cD cC Om iR:=
 rn (T:=S9.T_rFired) eW (by kernel_rfl) (by kernel_rfl) (λI ae hn=>by
  have hn:(decide (((I.w 0).toL.length:Int)<=400)&&(I.f 431 [I.w 0]).toB)=true:=hn;obtain⟨h1,h2⟩:=Z1 hn;rw[cr ae]at h2;have h1:=j5 h1;exact fn (S9.c_rFired (cr ae) (by omega)) (by simp only[iR,ck,bZ,cK,cr ae]<;>rfl))
theorem uW:cD cC Om ke:=
 rn (T:=cz7) eW (by kernel_rfl) (by kernel_rfl) (λI ae hn=>by
  have hn:(decide (((I.w 0).toL.length:Int)<=400)&&(I.f 431 [I.w 0]).toB)=true:=hn;obtain⟨h1,h2⟩:=Z1 hn;rw[cr ae]at h2;have h1:=j5 h1;exact fn (S7.t_sort5 (cr ae) (by omega) h2) (by simp only[ke,ck,bZ,cK,cr ae]<;>rfl))
theorem yp: ∀x∈L25,cD cC Om x:=by
 exact dp (dp (dp (dp (dp (dp (dp (dp (λx hx=>(by cases hx)) uW) rJ) Fp) uo) qf) yO) GU) pZ
theorem mI: ∀x∈H26,cD cC Om x:=ff eW yp
theorem uv:cD cC Om jN:=
 rn (T:=S9.T_r3fit) mI (by kernel_rfl) (by kernel_rfl) (λI ae hn=>by
  exact fn (S9.c_r3fit (cr ae)) (by simp only[jN,ck,bZ,cK,cr ae]<;>rfl))
theorem GR:cD cC Om qw:=
 rn (T:=S9.T_rOf) mI (by kernel_rfl) (by kernel_rfl) (λI ae hn=>by
  exact fn (S9.c_rOf (cr ae)) (by simp only[qw,ck,bZ,cK,cr ae]<;>rfl))
theorem AP: ∀x∈XU,cD cC Om x:=by
 exact dp (dp (λx hx=>(by cases hx)) GR) uv
theorem mJ: ∀x∈H27,cD cC Om x:=ff mI AP
theorem tF:cD cC Om kv:=
 rn (T:=S9.T_r3Sum) mJ (by kernel_rfl) (by kernel_rfl) (λI ae hn=>by
  have hn:decide (((I.w 0).toL.length:Int)<=100)=true:=hn;have hn:=j5 hn;exact fn (S9.c_r3Sum (cr ae) (by omega)) (by simp only[kv,ck,bZ,cK,cr ae]<;>rfl))
theorem Ie:cD cC Om qP:=
 rn (T:=S9.T_sOf) mJ (by kernel_rfl) (by kernel_rfl) (λI ae hn=>by
  have hn:decide (((I.w 1).toL.length:Int)<=100)=true:=hn;have hn:=j5 hn;exact fn (S9.c_sOf (cr ae) (by omega)) (by simp only[qP,ck,bZ,cK,cr ae]<;>rfl))
theorem zM: ∀x∈L27,cD cC Om x:=by
 exact dp (dp (λx hx=>(by cases hx)) Ie) tF
theorem mF: ∀x∈YM,cD cC Om x:=ff mJ zM
theorem Ab:cD cC Om mT:=
 rn (T:=S9.T_rAll) mF (by kernel_rfl) (by kernel_rfl) (λI ae hn=>by
  have hn:decide (((I.w 0).toL.length:Int)<=100)=true:=hn;have hn:=j5 hn;exact fn (S9.c_rAll (cr ae) (by omega)) (by simp only[mT,ck,bZ,cK,cr ae]<;>rfl))
theorem qr:cD cC Om iQ:=
 rn (T:=S9.T_rSpans) mF (by kernel_rfl) (by kernel_rfl) (λI ae hn=>by
  have hn:decide (((I.w 4).toL.length:Int)<=100)=true:=hn;have hn:=j5 hn;exact fn (S9.c_rSpans (cr ae) (by omega)) (by simp only[iQ,ck,bZ,cK,cr ae]<;>rfl))
theorem Am: ∀x∈L28,cD cC Om x:=by
 exact dp (dp (λx hx=>(by cases hx)) qr) Ab
theorem qg: ∀x∈WX,cD cC Om x:=ff mF Am
theorem tY:cD cC Om jQ:=
 rn (T:=S9.T_rRows) qg (by kernel_rfl) (by kernel_rfl) (λI ae hn=>by
  have hn:(decide (((I.w 4).toL.length:Int)<=100)&&(I.f 840 [I.w 0,I.w 1,I.w 2,I.w 3,I.w 4]).toB)=true:=hn;have h2:=(Z1 hn).2;rw[cr ae]at h2;exact fn (S9.c_rRows (cr ae) h2) (by simp only[jQ,ck,bZ,cK,cr ae]<;>rfl))
theorem Ak: ∀x∈L29,cD cC Om x:=by
 exact dp (λx hx=>(by cases hx)) tY
theorem ya: ∀x∈H30,cD cC Om x:=ff qg Ak
theorem ym: ∀x∈Xu,cD cC Om x:=by
 exactλx hx=>(by cases hx)
theorem yK: ∀x∈H31,cD cC Om x:=ff ya ym
theorem zj: ∀x∈L31,cD cC Om x:=by
 exactλx hx=>(by cases hx)
theorem jO: ∀x∈H32,cD cC Om x:=ff yK zj
theorem EN:cD cC Om pY:=
 rn (T:=S9.T_few) jO (by kernel_rfl) (by kernel_rfl) (λI ae hn=>by
  exact fn (S9.t_few (cr ae)) (by simp only[pY,ck,bZ,cK,cr ae]<;>rfl))
theorem tI:cD cC Om kd:=
 rn (T:=S9.T_lrows) jO (by kernel_rfl) (by kernel_rfl) (λI ae hn=>by
  have hn:(decide (((I.w 0).toL.length:Int)<=400)&&(I.f 431 [I.w 0]).toB)=true:=hn;obtain⟨h1,h2⟩:=Z1 hn;rw[cr ae]at h2;have h1:=j5 h1;exact fn (S9.c_lrows (cr ae) (by omega) h2) (by simp only[kd,ck,bZ,cK,cr ae]<;>rfl))
theorem li:cD cC Om fy:=
 rn (T:=S9.T_samePanes) jO (by kernel_rfl) (by kernel_rfl) (λI ae hn=>by
  have hn:decide (((I.w 0).toL.length:Int)<=400)=true:=hn;have hn:=j5 hn;exact fn (S9.t_samePanes (λa=>cr ae 924 a) (by omega)) (by simp only[fy,ck,bZ,cK,cr ae]<;>rfl))
theorem zG: ∀x∈L32,cD cC Om x:=by
 exact dp (dp (dp (λx hx=>(by cases hx)) li) tI) EN
theorem qA: ∀x∈H33,cD cC Om x:=ff jO zG
theorem xm:cD cC Om mh:=
 rn (T:=S9.T_rTry) qA (by kernel_rfl) (by kernel_rfl) (λI ae hn=>by
  have hn:(decide (((I.w 4).toL.length:Int)<=100)&&(I.f 906 [I.w 0,I.w 1,I.w 2,I.w 3,I.w 4,I.w 5,I.w 6,I.w 7,I.w 8]).toB)=true:=hn;have h2:=(Z1 hn).2;rw[cr ae]at h2;exact fn (S9.c_rTry (cr ae) h2) (by simp only[mh,ck,bZ,cK,cr ae]<;>rfl))
theorem Bw: ∀x∈L33,cD cC Om x:=by
 exact dp (λx hx=>(by cases hx)) xm
theorem mK: ∀x∈Tj,cD cC Om x:=ff qA Bw
theorem TN:cD cC Om xF:=
 rn (T:=S9.T_is) mK (by kernel_rfl) (by kernel_rfl) (λI ae hn=>by
  have hn:(decide (((I.w 9).toL.length:Int)<=100)&&(I.f 907 [I.w 0,I.w 1,I.w 2,I.w 3,I.w 4,I.w 5,I.w 6,I.w 7,I.w 8,I.w 9,I.w 10]).toB)=true:=hn;have h2:=(Z1 hn).2;rw[cr ae]at h2;exact fn (S9.t_is (cr ae) h2) (by simp only[xF,ck,bZ,cK,cr ae]<;>rfl))
theorem EY:cD cC Om wA:=
 Cg (E:=cC) (cs:=Tj) dK tW ga mK (n:=1000000) (by kernel_rfl) (λI ae hn=>absurd (show false=true from hn) (by decide))
theorem zY: ∀x∈L34,cD cC Om x:=by
 exact dp (dp (λx hx=>(by cases hx)) EY) TN
theorem qF: ∀x∈H35,cD cC Om x:=ff mK zY
theorem AG:cD cC Om ni:=
 rn (T:=S9.T_puts) qF (by kernel_rfl) (by kernel_rfl) (λI ae hn=>by
  have hn:(I.f 908 [I.w 0,I.w 1,I.w 2,I.w 3,I.w 4,I.w 5,I.w 6,I.w 7,I.w 8]).toB=true:=hn;rw[cr ae]at hn;exact(S9.t_puts (cr ae) hn).trans (by simp only[ni,ck,bZ]))
theorem zI: ∀x∈L35,cD cC Om x:=by
 exact dp (λx hx=>(by cases hx)) AG
theorem jP: ∀x∈H36,cD cC Om x:=ff qF zI
theorem pW:cD cC Om ix:=
 rn (T:=S9.T_aRight) jP (by kernel_rfl) (by kernel_rfl) (λI ae hn=>by
  exact fn (S9.t_aRight) (by simp only[ix,ck,bZ,cK,cr ae]<;>rfl))
theorem rZ:cD cC Om iL:=
 rn (T:=S9.T_aBlank) jP (by kernel_rfl) (by kernel_rfl) (λI ae hn=>by
  exact fn (S9.t_aBlank) (by simp only[iL,ck,bZ,cK,cr ae]<;>rfl))
theorem yi:cD cC Om mw:=
 rn (T:=S9.T_pick) jP (by kernel_rfl) (by kernel_rfl) (λI ae hn=>by
  exact fn (S9.t_pick) (by simp only[mw,ck,bZ,cK,cr ae]<;>rfl))
theorem zf: ∀x∈Zd,cD cC Om x:=by
 exact dp (dp (dp (λx hx=>(by cases hx)) yi) rZ) pW
theorem rg: ∀x∈H37,cD cC Om x:=ff jP zf
theorem vg:cD cC Om kf:=
 rn (T:=S9.T_order) rg (by kernel_rfl) (by kernel_rfl) (λI ae hn=>by
  exact(S9.t_order (cr ae) S9.fe_x hn).trans (by simp only[kf,ck,bZ]))
theorem Bj: ∀x∈L37,cD cC Om x:=by
 exact dp (λx hx=>(by cases hx)) vg
theorem AU: ∀x∈H38,cD cC Om x:=ff rg Bj
theorem GJ:cD cC Om eh:=
 rn (T:=S9.T_known) AU (by kernel_rfl) (by kernel_rfl) (λI ae hn=>by
  exact(S9.t_known (λa=>cr ae 908 a) (λa=>cr ae 738 a) (λa=>cr ae 970 a) (λa=>cr ae 971 a)).trans (by simp only[eh,ck,bZ]))
end Go.Proofs.YtcmjiepodnicoaaGreat.Ctr
