import Derived.Test.YtliadehnohhngaaGreatRows
import Derived.Test.YtliadehnohhngaaGreatEU8
import Derived.Test.YtliadehnohhngaaGreatE43
import Derived.ProofKit
set_option linter.all false
namespace Go.Proofs.YtliadehnohhngaaGreat.Ctr
open Go Go.Ev Go.Shelf
def funIn(t g:Nat)(a:Fr):Bool:=match a.slot t with
 | .func (.func f) _ _=>Nat.beq f g
 |_=>false
noncomputable def ph:Env:=⟨Tryz.prog,λf=>bif Nat.beq f 122 then some (.mapsClone)else bif Nat.beq f 205 then some (.overlaps 276 4)else none,λ_=>false,λ_=>false,λ_ _ _=> .X,λ_ _=>none,λ_ _ _ _=>none⟩
abbrev cZ:zd:=[.str,.int .i64,.int .i64,.int .i64,.int .i64,.int .i64,.int .i64]
abbrev gk:zd:=[.int .i64,.int .i64]
abbrev uz:zd:=[.str,.int .i64,.int .i64]
abbrev kI:zd:=[.int .u8,.str,.int .i64,.int .i64]
abbrev kV:zd:=[.str,.int .i64,.int .i64,.bool,.int .i64,.int .i64,.int .i64,.int .i64]
abbrev zQ:zd:=[.int .i64,.int .i64,.int .i64,.int .i64]
abbrev cT6:zd:=[.bool,.int .u8,.str,.int .i64,.int .i64,.int .i64]
abbrev Fc:AV:= .agg [.Z .u8 aN,.Z .i64 aO,.Z .i64 aS,.Z .i64 aV]
abbrev Db:AV:= .agg [.Z .i64 be,.Z .i64 bu,.Z .i64 bN,.Z .i64 bW]
abbrev Pa:AV:= .agg [.Z .i64 aN,.Z .i64 aO]
abbrev vN:AV:= .agg [.Z .u8 bg,.K bd,.Z .i64 bf,.Z .i64 bh]
abbrev Bm:AV:= .agg [.Z .u8 aN,.K aO,.Z .i64 aS,.Z .i64 aV]
abbrev Cn:AV:= .agg [.Z .i64 be,.Z .i64 bu]
abbrev AP:AV:= .agg [.Z .i64 aN,.Z .i64 aO,.Z .i64 aS,.Z .i64 aV]
abbrev yx:AV:= .agg [.Z .u8 aN,.Z .i64 aO,.Z .i64 aS,.Z .i64 aV,.Z .i64 aT,.Z .i64 bg]
abbrev IG:AV:= .agg [.K aO,.Z .i64 aS,.Z .i64 aV]
abbrev mJ:Blk:= .cells 116 0 [.Z .u8 aN,.Z .i64 aO,.Z .i64 aS,.Z .i64 aV,.map 1]
abbrev to:Blk:= .cells 116 0 [.Z .u8 aV,.Z .i64 aT,.Z .i64 bg,.Z .i64 bd,.map 2]
abbrev nT:Blk:= .marr false uz zQ aT
abbrev qA:Blk:= .marr false uz zQ bf
noncomputable def Kj(f:FuncId)(r:Nat)(a:Fr)(h:Heap):Option LSpec:=bif Nat.beq f 192&&Nat.beq r 1 then some (db ⟨452,2000,[11,12,13,14,15,16,17,18,19,20,21,22,23,24,25,26,27,28,29,30,31,32,33,34,35,36,37],[],[10],[0],[0,1,2,3],[(.exit 0,[])],[],[],false,[]⟩ a h)else bif Nat.beq f 181&&Nat.beq r 2 then some (db ⟨458,2000,[18,19,20,21,22,23,24,25,26,27,28,29,30,31,32,33,34,35,36,37,38,39,40,41,42,43,44,45,46,47,48,49],[],[10,11],[0],[0,2,4],[(.exit 0,[])],[],[],false,[]⟩ a h)else bif Nat.beq f 165&&Nat.beq r 1 then some (db ⟨460,2000,[9,12,13,14,15,16,17,18,19,20,21,22,23,24,25,26,27,28,29,30,31,32,33,34,35,36,37,38,39,40,41,42,43,44,45,46,47,48,49,50,51,52],[],[8],[0],[0,1,2,3],[(.exit 0,[])],[],[],false,[]⟩ a h)else bif Nat.beq f 165&&Nat.beq r 4 then some (db ⟨461,3000,[18,19,20,21,22,23,24,25,26,27,28,29,30,31,32,33,34,35,36,37,38,39,40,41,42,43,44,45,46,47,48,49,50,51,52],[],[9],[0],[0,1,2,3,8],[(.exit 2,[])],[],[],false,[]⟩ a h)else bif Nat.beq f 166&&Nat.beq r 3 then some (db ⟨462,2000,[12,31,32,33,34,35,36,37,38,39,40,41,42,43,44,45,46,47,48,49,50,51,52,53],[],[10,11],[],[0,1,4],[(.exit 0,[])],[],[],false,[]⟩ a h)else bif Nat.beq f 166&&Nat.beq r 9 then some (db ⟨463,3000,[55,56,57,58,59,60,61,62,63,64,65,66,67,68,69,70,71,72,73,74,75,76],[],[13],[0],[0,10],[(.exit 2,[])],[],[],false,[]⟩ a h)else bif Nat.beq f 166&&Nat.beq r 15 then some (db ⟨464,2000,[16,83,84,85,86,87,88,89,90,91,92,93,94,95,96,97,98,99,100,101,102,103,104,105,106],[],[14,15],[],[0,2,4],[(.exit 4,[])],[],[],false,[]⟩ a h)else bif Nat.beq f 166&&Nat.beq r 21 then some (db ⟨465,3000,[108,109,110,111,112,113,114,115,116,117,118,119,120,121,122,123,124,125,126,127,128],[],[17],[0],[0,14],[(.exit 6,[])],[],[],false,[]⟩ a h)else bif Nat.beq f 166&&Nat.beq r 33 then some (db ⟨466,2000,[23,149,150,151,152,153,154,155,156,157,158,159,160,161,162,163,164,165,166,167,168,169,170,171,172,173,174],[],[20,21],[],[0,1,2,3,4,18,19,22],[(.exit 8,[])],[],[],false,[]⟩ a h)else bif Nat.beq f 144&&Nat.beq r 2 then some (db ⟨467,2000,[11,12,13,14,15,16,17,18,19,20,21,22],[],[7,8],[0],[0,1,2,6],[(.exit 0,[])],[],[],false,[]⟩ a h)else bif Nat.beq f 144&&Nat.beq r 7 then some (db ⟨468,3000,[7,8,9,28,29,30,31,32,33,34,35,36,37,38,39,40,41,42,43,44,45,46,47,48,49,50,51,52,53,54,55,56,57,58,59,60,61,62],[],[6],[0],[0,1,2],[(.exit 2,[])],[],[],false,[]⟩ a h)else bif Nat.beq f 144&&Nat.beq r 9 then some (db ⟨469,4000,[33,34,35,36,37,38,39,40,41,42,43,44,45,46,47,48],[],[7,8],[0],[0,1,2,6],[(.exit 4,[])],[],[],false,[]⟩ a h)else bif Nat.beq f 69&&Nat.beq r 5 then some (db ⟨750,2000,[4,5,13,14,15,16,17,18,19,20,21,22,23],[(3,none,135,cZ)],[3],[],[12],[(.exit 0,[])],[],[],true,[]⟩ a h)else bif Nat.beq f 189&&Nat.beq r 4 then some (db ⟨751,2000,[8,13,14,15,16,17,18,19],[],[12],[4,5],[4,5,6,10,11],[(.exit 0,[])],[],[],false,[]⟩ a h)else bif Nat.beq f 175&&Nat.beq r 4 then some (db ⟨752,2000,[8,14,15,16,17,18,19,20,21,22,23,24,25,26,27,28,29,30,31,32,33,34,35,36,37,38,39,40,41,42,43,44,45],[(4,none,2,[.int .i64]),(5,none,2,[.int .i64])],[4,5,13],[6],[2,6,11,12],[(.exit 0,[])],[],[],false,[]⟩ a h)else bif Nat.beq f 155&&Nat.beq r 8 then some (db ⟨753,2000,[43,44,45,46,47,48,49,50,51,52,53,54,55,56,57,58],[(7,none,239,gk)],[7,8],[],[2,5],[(.exit 1,[])],[],[],false,[]⟩ a h)else bif Nat.beq f 194&&Nat.beq r 2 then some (db ⟨754,2000,[5,6,7,8,12,13,14,15,16,17,18,19,20,21,22,23,24,25,26,27,28,29,30,31,32,33,34,35,36,37,38,39,40,41,42,43,44,45,46,47,48,49,50,51,52],[],[4,11],[],[0,1,9,10],[(.exit 0,[]),(.ret,[])],[],[],false,[]⟩ a h)else bif Nat.beq f 187&&Nat.beq r 6 then some (db ⟨755,2000,[12,36,37,38,39,40,41,42,43,44,45,46,47,48,49,50,51,52,53,54,55,56,57,58,59,60,61,62],[(6,none,277,gk),(8,none,277,gk)],[6,8,35],[7],[7,10,33,34],[(.exit 0,[])],[],[],false,[]⟩ a h)else bif Nat.beq f 196&&Nat.beq r 3 then some (db ⟨756,2000,[11,15,16,17,18,19,20,21,22,23,24,25,26,27,28,29,30,31,32,33,34],[],[9,10],[],[0,2,4,8],[(.exit 0,[])],[],[],false,[]⟩ a h)else bif Nat.beq f 188&&Nat.beq r 2 then some (db ⟨757,2000,[5,11,12,13,14,15,16,17,18,19,20,21,22,23,24,25,26],[(4,none,277,gk)],[4],[],[1,10],[(.exit 0,[])],[],[],true,[]⟩ a h)else bif Nat.beq f 174&&Nat.beq r 3 then some (db ⟨758,2000,[11,32,33,34,35,36,37,38,39,40,41,42,43,44,45],[(4,none,66,uz)],[4,31],[],[3,5,7,29,30],[(.exit 0,[])],[],[],false,[]⟩ a h)else bif Nat.beq f 154&&Nat.beq r 4 then some (db ⟨759,2000,[11,26,27,28,29,30,31,32,33,34,35,36,37,38,39,40,41,42,43,44,45],[(4,none,66,uz),(9,none,68,zQ)],[4,9,25],[],[0,8,23,24],[(.exit 0,[])],[],[],false,[]⟩ a h)else bif Nat.beq f 123&&Nat.beq r 11 then some (db ⟨760,2000,[8,9,44,45,46,47,48,49,50,51,52,53,54,55,56,57,58,59,60,61,62,63,64,65,66,67,68,69,70,71,72,73,74,75],[(5,none,135,cZ)],[5,6,43],[],[0,3,41,42],[(.exit 1,[])],[],[],false,[]⟩ a h)else bif Nat.beq f 97&&Nat.beq r 5 then some (db ⟨761,2000,[9,25,26,27,28,29,30,31,32,33],[],[24],[1000],[0,6,22,23],[(.exit 0,[])],[],[],false,[]⟩ a h)else bif Nat.beq f 97&&Nat.beq r 10 then some (db ⟨762,2000,[11,37,38,39,40,41,42,43,44,45,46,47,48],[],[36],[1000],[0,34,35],[(.exit 2,[])],[],[],false,[]⟩ a h)else bif Nat.beq f 88&&Nat.beq r 2 then some (db ⟨763,2000,[5,9,10,11,12,13,14,15,16,17,18],[],[4,8],[],[0,1,7],[(.exit 0,[]),(.ret,[])],[],[],false,[]⟩ a h)else bif Nat.beq f 68&&Nat.beq r 5 then some (db ⟨764,2000,[7,16,17,18,19,20,21,22,23,24,25,26,27,28,29,30,31,32,33,34,35],[],[5,6],[0],[0,1],[(.exit 0,[])],[],[],false,[]⟩ a h)else bif Nat.beq f 81&&Nat.beq r 3 then some (db ⟨480,2000,[7,8,9,10,11,12,13,14,15,16,17,18,19,20,21,22,23,24,25,26,27,28,29,30,31,32,33,34,35,36,37,38,39,40,41,42,43,44,45,46,47,48,49,50,51,52,53,54,55,56,57,58,59,60,61,62,63,64,65,66,67,68,69],[(5,none,133,cZ)],[5,6],[],[0,1],[(.exit 0,[])],[],[],false,[]⟩ a h)else bif Nat.beq f 81&&Nat.beq r 7 then some (db ⟨481,3000,[8,23,24,25,26,27,28,29,30,31,32,33,34,35,36,37,38,39,40,41,42,43,44,45,46,47,48,49,50,51,52,53,54,55,56,57,58,59,60,61,62,63,64,65,66,67,68,69],[],[7],[5],[0,1,5,6],[(.exit 2,[])],[],[],false,[]⟩ a h)else bif Nat.beq f 101&&Nat.beq r 3 then some (db ⟨850,2000,[9,10,11,12,13,14,15,16,17,18,19,20,21],[],[5],[4],[0,4],[(.exit 0,[])],[],[],false,[]⟩ a h)else bif Nat.beq f 80&&Nat.beq r 6 then some (db ⟨851,2000,[17,18,19,20,21,22,23,24,25,26,27,28,29,30,31,32,33,34,35,36,37,38,39,40,41,42,43,44,45,46,47,48,49,50,51,52,53,54],[],[7],[2,4],[0,2,4,5],[(.exit 0,[])],[],[],false,[]⟩ a h)else bif Nat.beq f 43&&Nat.beq r 4 then some (db ⟨852,2000,[11,12,13,14,15,16,17,18,19,20,21,22,23,24,25],[],[4,5],[],[0,1],[(.exit 0,[]),(.ret,[])],[],[],false,[]⟩ a h)else bif Nat.beq f 100&&Nat.beq r 8 then some (db ⟨853,2000,[44,45,46,47,48,49,50,51,52,53,54,55,56,57,58,59,60,61,62,63,64,65,66,67],[(5,none,158,gk)],[5,7],[],[1,2],[(.exit 0,[])],[],[],false,[]⟩ a h)else bif Nat.beq f 126&&Nat.beq r 2 then some (db ⟨854,2000,[7,8,9,10,11,12],[(0,none,180,gk)],[0,3],[],[],[(.exit 0,[])],[],[],false,[]⟩ a h)else bif Nat.beq f 126&&Nat.beq r 6 then some (db ⟨855,2000,[6,13,14,15,16,17,18,19,20,21,22,23,24,25,26,27,28,29,30,31,32,33,34,35,36,37,38,39,40,41,42,43,44,45,46,47,48,49,50,51,52,53,54,55,56,57,58,59,60],[(4,none,180,gk)],[4,5],[],[0],[(.exit 2,[])],[],[],false,[]⟩ a h)else bif Nat.beq f 126&&Nat.beq r 10 then some (db ⟨856,3000,[27,28,29,30,31,32,33,34,35,36,37,38,39,40,41,42,43,44,45,46,47,48,49,50,51,52,53,54,55,56,57,58,59,60],[],[6],[4],[0,4,5],[(.exit 4,[])],[],[],false,[]⟩ a h)else bif Nat.beq f 157&&Nat.beq r 2 then some (db ⟨857,4000,[5,6,7,8,9,10,11,12,13,14,15,16,17,18,19,20,21,22,23,24,25,26,27,28,29,30,31,32,33,34,35,36,37,38,39,40,41,42,43,44,45,46,47,48,49,50,51,52,53,54,55,56,57,58,59,60,61,62,63,64,65,66,67,68,69,70,71,72,73,74,75,76,77],[],[3,4],[],[0],[(.exit 0,[]),(.ret,[])],[],[],false,[(2,180,gk)]⟩ a h)else bif Nat.beq f 157&&Nat.beq r 5 then some (db ⟨858,5000,[6,7,16,17,18,19,20,21,22,23,24,25,26,27,28,29,30,31,32,33,34,35,36,37,38,39,40,41,42,43,44,45,46,47,48,49,50,51,52,53,54,55,56,57,58,59,60,61,62,63,64,65,66,67,68,69,70,71,72,73,74,75,76,77],[],[3,5],[],[0,4],[(.exit 2,[]),(.ret,[])],[],[],false,[(2,180,gk)]⟩ a h)else bif Nat.beq f 157&&Nat.beq r 10 then some (db ⟨859,6000,[56,57,58,59,60,61,62,63,64,65,66,67,68,69,70,71,72,73,74,75,76],[(6,none,180,gk)],[6,7],[],[0,4,5],[(.exit 4,[])],[],[],false,[]⟩ a h)else bif Nat.beq f 99&&Nat.beq r 5 then some (db ⟨860,2000,[11,12,13,14,15,16,17,18,19,20,21,22,23,24,25,26,27,28,29,30,31,32,33,34,35,36],[(6,none,180,gk)],[5,6,7],[],[0,1],[(.exit 0,[]),(.ret,[(4,.N)])],[],[],false,[]⟩ a h)else bif Nat.beq f 77&&Nat.beq r 4 then some (db ⟨861,2000,[14,15,16,17,18,19,20,21,22,23,24,25,26,27,28,29,30,31,32,33,34],[(8,none,2,[.int .i64])],[8,9],[],[1,2,3,7],[(.exit 0,[])],[],[],false,[]⟩ a h)else bif Nat.beq f 77&&Nat.beq r 11 then some (db ⟨862,2000,[45,46,47,48,49,50,51,52,53,54,55,56,57,58,59,60,61,62,63,64],[(7,none,158,gk)],[7,12],[],[10],[(.exit 2,[])],[],[],false,[]⟩ a h)else bif Nat.beq f 77&&Nat.beq r 16 then some (db ⟨863,2000,[66,67,68,69,70,71,72,73,74,75,76,77,78,79],[(7,none,158,gk)],[7,13],[],[3,8],[(.exit 4,[])],[],[],false,[]⟩ a h)else bif Nat.beq f 78&&Nat.beq r 2 then some (db ⟨864,2000,[6,7,8,9,10,11,12,13,14,15,16,17,18],[],[4,5],[],[0,3],[(.exit 0,[]),(.ret,[])],[],[],false,[]⟩ a h)else bif Nat.beq f 61&&Nat.beq r 3 then some (db ⟨865,2000,[8,9,10,11,12,13,14,15,16,17,18,19,20,21,22,23,24,25,26,27,28,29,30,31,32,33,34,35,36,37,38,39,40,41,42,43,44,45,46,47,48,49,50,51,52,53,54,55,56,57,58,59,60,61,62,63,64,65,66,67,68,69,70,71,72,73,74,75,76,77,78,79,80,81,82,83,84,85,86,87,88,89,90,91,92,93,94,95,96,97,98,99,100],[(6,none,133,cZ)],[5,6,7],[],[1,2],[(.exit 0,[]),(.ret,[(4,.N)])],[],[],false,[]⟩ a h)else bif Nat.beq f 61&&Nat.beq r 7 then some (db ⟨866,4000,[10,11,12,13,14,29,30,31,32,33,34,35,36,37,38,39,40,41,42,43,44,45,46,47,48,49,50,51,52,53,54,55,56,57,58,59,60,61,62,63,64,65,66,67,68,69,70,71,72,73,74,75,76,77,78,79,80,81,82,83,84,85,86,87,88,89,90,91,92,93,94,95,96,97,98,99,100],[(6,none,133,cZ)],[5,6,9],[],[1,2,7,8],[(.exit 2,[]),(.ret,[(4,.N)])],[],[],false,[]⟩ a h)else bif Nat.beq f 61&&Nat.beq r 13 then some (db ⟨867,6000,[54,55,56,57,58,59,60,61,62,63,64,65,66,67,68,69,70,71,72,73,74,75,76,77,78,79,80,81,82,83,84,85,86,87],[(11,none,2,[.int .i64])],[11,12],[],[1,2,6,7,8,9,10],[(.exit 4,[])],[],[],false,[]⟩ a h)else bif Nat.beq f 82&&Nat.beq r 3 then some (db ⟨868,2000,[7,8,9,10,11,12,13,14,15,16,17,18,19,20,21,22,23,24,25,26,27],[(5,none,133,cZ)],[5,6],[],[0,1],[(.exit 0,[])],[],[],false,[]⟩ a h)else bif Nat.beq f 62&&Nat.beq r 3 then some (db ⟨870,2000,[5,6,7,8,9,10,11,12,13,14,15,16,17,18,19,20,21,22,23],[(3,none,58,kI)],[3,4],[],[0],[(.exit 0,[])],[],[],false,[]⟩ a h)else bif Nat.beq f 40&&Nat.beq r 2 then some (db ⟨871,2000,[7,8,9,10,11,12,13,14,15,16,17,18,19,20,21],[],[2,3],[],[0],[(.exit 0,[]),(.ret,[])],[],[],false,[]⟩ a h)else bif Nat.beq f 44&&Nat.beq r 3 then some (db ⟨874,2000,[5,6,7,8,9,10,11,12,13,14,15,16,17,18,19,20,21,22,23,24,25,26],[(3,none,133,cZ)],[3,4],[],[0],[(.exit 0,[])],[],[],false,[]⟩ a h)else bif Nat.beq f 13&&Nat.beq r 3 then some (db ⟨130,2000,[5,6,7,8,9,10,11,12,13,14,15,16,17,18,19,20,21,22,23,24,25,26,27,28,29,30,31],[(3,none,95,kV)],[3,4],[],[0],[(.exit 0,[])],[],[],false,[]⟩ a h)else bif Nat.beq f 12&&Nat.beq r 4 then some (db ⟨131,2000,[11,12,13,14,15,16,17,18,19,20,21,22,23,24,25],[],[4,5],[],[0,1],[(.exit 0,[]),(.ret,[])],[],[],false,[]⟩ a h)else bif Nat.beq f 90&&Nat.beq r 2 then some (db ⟨133,2000,[4,5,6,7,8,9,10,11,12,13,14,15,16,17,18,19,20,21,22,23,24,25,26,27,28,29,30,31,32,33],[],[2,3],[],[0],[(.exit 0,[]),(.ret,[])],[],[],false,[]⟩ a h)else bif Nat.beq f 90&&Nat.beq r 7 then some (db ⟨134,3000,[18,19,20,21,22,23,24,25,26,27,28,29,30,31,32,33],[],[2,4],[],[0,3],[(.exit 2,[]),(.ret,[])],[],[],false,[]⟩ a h)else bif Nat.beq f 91&&Nat.beq r 2 then some (db ⟨135,2000,[7,8,9,10,11,12,13,14,15,16,17,18,19,20,21,22,23,24],[],[5,6],[4],[0,3,4],[(.exit 0,[]),(.ret,[])],[],[],false,[]⟩ a h)else bif Nat.beq f 92&&Nat.beq r 3 then some (db ⟨136,2000,[5,6,7,8,9,10,11,12,13,14,15,16,17,18,19,20,21,22,23,24,25,26,27,28,29,30,31,32,33,34,35,36,37,38,39,40,41,42,43,44,45,46,47,48,49,50,51,52,53],[(3,none,95,kV)],[3,4],[],[0],[(.exit 0,[])],[],[],false,[]⟩ a h)else bif Nat.beq f 92&&Nat.beq r 7 then some (db ⟨137,3000,[20,21,22,23,24,25,26,27,28,29,30,31,32,33,34,35,36,37,38,39,40,41,42,43,44,45,46,47,48,49,50,51,52,53],[],[5],[3],[0,3,4],[(.exit 2,[])],[],[],false,[]⟩ a h)else bif Nat.beq f 65&&Nat.beq r 3 then some (db ⟨140,2000,[6,7,8,13,14,15,16,17,18,19,20,21,22,23,24,25,26,27,28,29,30,31,32,33,34,35,36,37,38,39,40],[],[12],[4],[4,10,11],[(.exit 0,[]),(.ret,[])],[(4,uz,zQ)],[],false,[]⟩ a h)else bif Nat.beq f 48&&Nat.beq r 7 then some (db ⟨141,2000,[12,13,14,38,39,40,41,42,43,44,45,46,47,48,49,50,51,52,53,54,55,56],[(10,none,71,kV)],[10,37],[],[1,6,8,35,36],[(.exit 0,[])],[],[],false,[]⟩ a h)else bif Nat.beq f 48&&Nat.beq r 14 then some (db ⟨142,2000,[16,17,18,60,61,62,63,64,65,66,67,68,69,70,71,72,73,74,75,76,77,78,79,80,81,82,83,84,85,86],[(10,none,71,kV)],[10,59],[],[6,57,58],[(.exit 2,[])],[],[],false,[]⟩ a h)else bif Nat.beq f 71&&Nat.beq r 5 then some (db ⟨143,2000,[8,9,21,22,23,24,25,26,27,28,29,30,31,32,33,34,35,36,37,38,39,40,41,42,43,44,45,46,47],[(6,none,95,kV)],[6,7],[],[0,1],[(.exit 0,[])],[],[],false,[]⟩ a h)else bif Nat.beq f 71&&Nat.beq r 11 then some (db ⟨144,2000,[11,12,48,49,50,51,52,53,54,55,56,57,58,59,60,61,62,63,64,65,66,67,68,69,70,71,72,73,74,75,76,77,78,79,80,81,82,83,84,85,86,87,88],[(6,none,95,kV)],[6,10],[],[0,1],[(.exit 2,[])],[],[],false,[]⟩ a h)else bif Nat.beq f 46&&Nat.beq r 1 then some (db ⟨456,2000,[3,4,5,6,7,8,9,10,11,12,13],[],[2],[0],[0],[(.exit 0,[])],[],[],false,[]⟩ a h)else bif Nat.beq f 4&&Nat.beq r 2 then some (db ⟨960,2000,[6,7,8,9,10,11,12,13,14,15,16,17,18,19,20,21,22,23,24,25,26,27,28,29,30,31,32,33,34,35,36,37,38,39],[],[4,5],[],[0,1],[(.exit 0,[]),(.ret,[])],[],[],false,[]⟩ a h)else bif Nat.beq f 17&&Nat.beq r 6 then some (db ⟨961,1500,[12,13,14,15,16,54,55,56,57,58,59,60,61,62,63,64,65,66,67,68,69,70,71,72,73,74,75,76,77,78,79,80,81,82,83,84,85,86,87,88,89,90,91,92,93,94,95,96,97,98,99,100,101,102,103,104,105,106,107,108,109,110,111,112,113,114,115,116,117,118],[],[6,11],[],[0,4],[(.exit 0,[]),(.ret,[])],[],[],false,[]⟩ a h)else bif Nat.beq f 17&&Nat.beq r 12 then some (db ⟨962,5000,[86,87,88,89,90,91,92,93,94,95,96,97,98,99,100,101,102,103,104,105,106],[],[6,15],[14],[0,4,11,12,13,14],[(.exit 2,[]),(.ret,[])],[],[],false,[]⟩ a h)else bif Nat.beq f 17&&Nat.beq r 19 then some (db ⟨963,5000,[109,110,111,112,113,114,115,116,117,118],[],[16],[13],[0,4,11,13],[(.exit 4,[])],[],[],false,[]⟩ a h)else bif Nat.beq f 3&&Nat.beq r 10 then some (db ⟨965,1500,[11,12,13,14,15,16,17,55,56,57,58,59,60,61,62,63,64,65,66,67,68,69,70,71,72,73,74,75,76,77,78,79,80,81,82,83,84,85,86,87,88,89,90,91,92,93,94,95,96,97,98,99,100,101,102,103,104,105,106,107,108,109,110,111,112,113,114,115,116,117,118,119,120,121,122,123,124,125,126,127,128,129,130,131,132,133,134,135,136,137,138,139,140,141,142,143,144,145,146,147,148,149],[(7,some (2),0,[]),(7,some (1004),0,[]),(7,some (4),135,cZ),(7,some (5),44,kI),(7,some (6),3,[.int .i64]),(9,some (6),58,kI),(9,some (7),3,[.int .i64])],[6,10],[10007,10407,10507,10607,10609,10709],[1,2,7,9],[(.exit 0,[]),(.ret,[])],[(40007,uz,zQ)],[],false,[]⟩ a h)else none
noncomputable def cx:Env:={ph with lspec:=Kj}
noncomputable def nk:Env:={ph with caps:=λg=>Nat.beq g 198}
def ff:HC:=⟨5,0,⟨[],[],0,.cb true,.H be,[],[.cb true]⟩⟩
def L0:Ac:=[ff]
def L1:Ac:=[]
def L2:Ac:=[]
def iX:HC:=⟨29,4,⟨[Fc],[],0,.cb true,.H be,[],[.Q 700 [aN,aO,aS,aV]]⟩⟩
def cT:HC:=⟨56,4,⟨[Bm],[],0,.cb true,.Z .i64 be,[],[.Q 701 [aN,aO,aS,aV]]⟩⟩
def iI:Fz:=[Bm]
def iJ:Fz:=[.agg [.int .u8 1,.K aO,.Z .i64 aS,.Z .i64 aV]]
def iS:Fz:=[.agg [.int .u8 2,.K aO,.Z .i64 aS,.Z .i64 aV]]
def iN:HC:=⟨189,1,⟨[.S 0 aM (.O .Y [aN]) 1],[.A 4294967295 [.int .i64] aN],1,.O (.cmp .leq) [.O .Y [aN],bK],.V [.Z .i64 be,.Z .i64 bu],[],[.Q 702 [aN],.Q 703 [aN]]⟩⟩
def mG:HC:=⟨177,2,⟨[.Z .i64 aN,.Z .i64 aO],[],0,.O .and [.O .and [.O (.cmp .leq) [aZ,aO],.O (.cmp .leq) [aO,bX]],.O .and [.O (.cmp .leq) [.C (-1099511627776),aN],.O (.cmp .leq) [aN,bY]]],.V [.Z .i64 be,.Z .i64 bu],[],[.Q 709 [aN,aO],aM]⟩⟩
def iE:HC:=⟨194,2,⟨[.Z .i64 aN,.S 0 aM (.O .Y [aO]) 2],[.A 4294967295 gk aO],1,.O (.cmp .leq) [.O .Y [aO],bB],.H be,[],[.Q 711 [aN,aO]]⟩⟩
def ke:HC:=⟨200,4,⟨[Pa,.agg [.Z .i64 aS,.Z .i64 aV]],[],0,.cb true,.Z .i64 be,[],[.Q 712 [aN,aO,aS,aV]]⟩⟩
def rZ:HC:=⟨198,5,⟨[.U 1 aO 2,.Z .i64 aS,.sl 0 0 1 1],[.cells 277 0 [.Z .i64 aV,.Z .i64 aT],.A 277 gk aN],1,.Q 713 [aN,aO,aS,aV,aT],.U 2 (.O .Y [be]) 2,[none,some (.A 277 gk be)],[.Q 714 [aN,aO,aS,aV,aT]]⟩⟩
def oj:HC:=⟨199,2,⟨[.U 0 aN 2,.func (.func 200) [] []],[.A 277 gk aO],0,.O .and [.O (.cmp .eql) [aN,.O .Y [aO]],.O (.cmp .leq) [.O .Y [aO],bK]],.V [],[some (.A 277 gk be)],[.Q 715 [aO]]⟩⟩
def gc:HC:=⟨199,2,⟨[.U 0 aN 2,.func (.func 200) [] []],[.bag 277 gk aO],0,.O .and [.O (.cmp .eql) [aN,.O .Y [aO]],.O .and [.O (.cmp .leq) [.O .Y [aO],bK],.Q 716 [aO]]],.V [],[some (.A 277 gk be)],[.Q 715 [aO]]⟩⟩
def iL:HC:=⟨111,1,⟨[.S 0 aM (.O .Y [aN]) 7],[.A 4294967295 cZ aN],1,.O .and [.O (.cmp .leq) [.O .Y [aN],bB],.Q 431 [aN]],.U 1 (.O .Y [be]) 7,[some (.A 135 cZ be)],[aN]⟩⟩
def kP:HC:=⟨192,5,⟨[.U 0 aO 7,.Z .i64 aS,.Z .i64 aV,.Z .i64 aT,.func (.func 113) [.agg [.func (.func 87) [] []]] []],[.A 135 cZ aN],0,.Q 420 [aN,aO,aS,aV,aT],.V [],[some (.A 135 cZ be)],[.Q 421 [aN,aS,aV,aT]]⟩⟩
def mU:HC:=⟨113,14,⟨[.agg [.func (.func 87) [] []],.agg [.K aN,.Z .i64 aO,.Z .i64 aS,.Z .i64 aV,.Z .i64 aT,.Z .i64 bg,.Z .i64 bd],.agg [.K bf,.Z .i64 bh,.Z .i64 bp,.Z .i64 bt,.Z .i64 bC,.Z .i64 bJ,.Z .i64 bQ]],[],0,.cb true,.Z .i64 be,[],[.Q 206 [aN,aO,aS,bf,bh,bp]]⟩⟩
def L3:Ac:=[iX,cT,iN,mG,iE,ke,rZ,oj,gc,iL,kP,mU]
def nr:HC:=⟨181,5,⟨[.U 0 aO 7,.Z .i64 aS,.Z .i64 aV,.Z .i64 aT,.func (.func 113) [.agg [.func (.func 87) [] []]] []],[.A 135 cZ aN],0,.Q 422 [aN,aO,aS,aV,aT],.V [],[some (.A 135 cZ be)],[.Q 423 [aN,aS,aV,aT]]⟩⟩
def sD:HC:=⟨155,5,⟨[Fc,.Z .i64 aT],[],0,.cb true,.U 0 (.O .Y [be]) 2,[some (.A 239 gk be)],[.Q 704 [aN,aO,aS,aV,aT]]⟩⟩
def mH:HC:=⟨175,1,⟨[.S 0 aM (.O .Y [aN]) 4],[.A 4294967295 zQ aN],1,.O (.cmp .leq) [.O .Y [aN],.C 1000],.V [Db,.Z .i64 bT],[],[.O .G [.Q 705 [aN],aM,aM],.O .G [.Q 705 [aN],aM,aZ],.O .G [.Q 705 [aN],aM,bm],.O .G [.Q 705 [aN],aM,.C 3],.Q 706 [aN]]⟩⟩
def gw:HC:=⟨187,3,⟨[.Z .i64 aN,.Z .i64 aO,.S 0 aM (.O .Y [aS]) 2],[.A 4294967295 gk aS],1,.O (.cmp .leq) [.O .Y [aS],.C 24],.V [.U 1 (.O .Y [bW]) 2,Cn,.U 2 (.O .Y [bT]) 2,.Z .i64 bN],[some (.A 277 gk bW),some (.A 277 gk bT)],[.O .G [.Q 718 [aN,aO,aS],aM,aM],.O .G [.Q 718 [aN,aO,aS],aM,aZ],.Q 720 [aN,aO,aS],.Q 717 [aN,aO,aS],.Q 719 [aN,aO,aS]]⟩⟩
def L4:Ac:=[nr,sD,mH,gw]
def nC:HC:=⟨165,4,⟨[.U 0 aO 7,.Z .i64 aS,.Z .i64 aV,.func (.func 113) [.agg [.func (.func 87) [] []]] []],[.A 135 cZ aN],0,.Q 424 [aN,aO,aS,aV],.V [],[some (.A 135 cZ be)],[.Q 425 [aN,aS,aV]]⟩⟩
def sG:HC:=⟨166,5,⟨[.U 0 aO 7,.Z .i64 aS,.Z .i64 aV,.Z .i64 aT,.func (.func 113) [.agg [.func (.func 87) [] []]] []],[.A 135 cZ aN],0,.Q 426 [aN,aO,aS,aV,aT,aZ],.V [],[some (.A 135 cZ be)],[.Q 425 [aN,aS,aT]]⟩⟩
def mw:HC:=⟨156,5,⟨[AP,.Z .i64 aT],[],0,.cb true,.V [Db,.Z .i64 bT],[],[.O .G [.Q 707 [aN,aO,aS,aV,aT],aM,aM],.O .G [.Q 707 [aN,aO,aS,aV,aT],aM,aZ],.O .G [.Q 707 [aN,aO,aS,aV,aT],aM,bm],.O .G [.Q 707 [aN,aO,aS,aV,aT],aM,.C 3],.Q 708 [aN,aO,aS,aV,aT]]⟩⟩
def L5:Ac:=[nC,sG,mw]
def nI:HC:=⟨166,5,⟨[.U 0 aO 7,.Z .i64 aS,.Z .i64 aV,.Z .i64 aT,.func (.func 113) [.agg [.func (.func 87) [] []]] []],[.A 135 cZ aN],0,.Q 426 [aN,aO,aS,aV,aT,bm],.V [],[some (.A 135 cZ be)],[.Q 425 [aN,aS,aT]]⟩⟩
def L6:Ac:=[nI]
def nQ:HC:=⟨166,5,⟨[.U 0 aO 7,.Z .i64 aS,.Z .i64 aV,.Z .i64 aT,.func (.func 113) [.agg [.func (.func 87) [] []]] []],[.A 135 cZ aN],0,.Q 426 [aN,aO,aS,aV,aT,.C 4],.V [],[some (.A 135 cZ be)],[.Q 425 [aN,aS,aT]]⟩⟩
def L7:Ac:=[nQ]
def nN:HC:=⟨166,5,⟨[.U 0 aO 7,.Z .i64 aS,.Z .i64 aV,.Z .i64 aT,.func (.func 113) [.agg [.func (.func 87) [] []]] []],[.A 135 cZ aN],0,.Q 426 [aN,aO,aS,aV,aT,.C 8],.V [],[some (.A 135 cZ be)],[.Q 425 [aN,aS,aT]]⟩⟩
def L8:Ac:=[nN]
def mT:HC:=⟨166,5,⟨[.U 0 aO 7,.Z .i64 aS,.Z .i64 aV,.Z .i64 aT,.func (.func 113) [.agg [.func (.func 87) [] []]] []],[.A 135 cZ aN],0,.Q 426 [aN,aO,aS,aV,aT,.C 16],.V [],[some (.A 135 cZ be)],[.Q 425 [aN,aS,aT]]⟩⟩
def L9:Ac:=[mT]
def mY:HC:=⟨166,5,⟨[.U 0 aO 7,.Z .i64 aS,.Z .i64 aV,.Z .i64 aT,.func (.func 113) [.agg [.func (.func 87) [] []]] []],[.A 135 cZ aN],0,.Q 426 [aN,aO,aS,aV,aT,bM],.V [],[some (.A 135 cZ be)],[.Q 425 [aN,aS,aT]]⟩⟩
def L10:Ac:=[mY]
def mW:HC:=⟨166,5,⟨[.U 0 aO 7,.Z .i64 aS,.Z .i64 aV,.Z .i64 aT,.func (.func 113) [.agg [.func (.func 87) [] []]] []],[.A 135 cZ aN],0,.Q 426 [aN,aO,aS,aV,aT,.C 64],.V [],[some (.A 135 cZ be)],[.Q 425 [aN,aS,aT]]⟩⟩
def L11:Ac:=[mW]
def nO:HC:=⟨166,5,⟨[.U 0 aO 7,.Z .i64 aS,.Z .i64 aV,.Z .i64 aT,.func (.func 113) [.agg [.func (.func 87) [] []]] []],[.A 135 cZ aN],0,.Q 426 [aN,aO,aS,aV,aT,.C 128],.V [],[some (.A 135 cZ be)],[.Q 425 [aN,aS,aT]]⟩⟩
def L12:Ac:=[nO]
def mI:HC:=⟨166,5,⟨[.U 0 aO 7,.Z .i64 aS,.Z .i64 aV,.Z .i64 aT,.func (.func 113) [.agg [.func (.func 87) [] []]] []],[.A 135 cZ aN],0,.Q 426 [aN,aO,aS,aV,aT,.C 256],.V [],[some (.A 135 cZ be)],[.Q 425 [aN,aS,aT]]⟩⟩
def L13:Ac:=[mI]
def ng:HC:=⟨166,5,⟨[.U 0 aO 7,.Z .i64 aS,.Z .i64 aV,.Z .i64 aT,.func (.func 113) [.agg [.func (.func 87) [] []]] []],[.A 135 cZ aN],0,.Q 426 [aN,aO,aS,aV,aT,.C 512],.V [],[some (.A 135 cZ be)],[.Q 425 [aN,aS,aT]]⟩⟩
def L14:Ac:=[ng]
def my:HC:=⟨144,3,⟨[.U 0 aO 7,.Z .i64 aS,.func (.func 113) [.agg [.func (.func 87) [] []]] []],[.A 135 cZ aN],0,.Q 428 [aN,aO,aS],.V [],[some (.A 135 cZ be)],[.Q 425 [aN,aM,aS]]⟩⟩
def L15:Ac:=[my]
def kz:HC:=⟨112,1,⟨[.U 0 (.O .Y [aN]) 7,.func (.func 113) [.agg [.func (.func 87) [] []]] []],[.A 135 cZ aN],0,.O .and [.O (.cmp .leq) [.O .Y [aN],bB],.Q 431 [aN]],.V [],[some (.A 135 cZ be)],[.Q 425 [aN,aM,.O .Y [aN]]]⟩⟩
def L16:Ac:=[kz]
def fm:HC:=⟨89,1,⟨[.bool false,.S 0 aM (.O .Y [aN]) 7],[.A 4294967295 cZ aN],1,.O .and [.O (.cmp .leq) [.O .Y [aN],bB],.Q 431 [aN]],.U 1 (.O .Y [be]) 7,[some (.A 135 cZ be)],[.Q 490 [aN]]⟩⟩
def fH:HC:=⟨89,2,⟨[.bool false,.U 0 aN 7],[.bag 135 cZ aO],1,.O .and [.O (.cmp .eql) [aN,.O .Y [aO]],.O .and [.O .and [.O (.cmp .leq) [.O .Y [aO],bB],.Q 431 [aO]],.Q 491 [aO]]],.U 1 (.O .Y [be]) 7,[some (.A 135 cZ be)],[.Q 490 [aO]]⟩⟩
def L17:Ac:=[fm,fH]
def ku:HC:=⟨69,5,⟨[.ptr 0 0],[mJ,nT],2,.O .and [.O .and [.O (.cmp .leq) [.O .Y [aT],bB],.Q 431 [aT]],.Q 491 [aT]],.U 2 (.O .Y [be]) 7,[some (.A 135 cZ be)],[.Q 490 [aT]]⟩⟩
def kM:HC:=⟨188,6,⟨[.ptr 0 0,.K bg],[mJ,nT],2,.O .and [.O (.cmp .leq) [.O .Y [aT],bB],.Q 491 [aT]],.U 2 (.O .Y [be]) 2,[some (.A 277 gk be)],[.Q 723 [aT,bg]]⟩⟩
def L18:Ac:=[ku,kM]
def iG:HC:=⟨174,9,⟨[.ptr 0 0,vN],[mJ,nT],2,.O .and [.O (.cmp .leq) [.O .Y [aT],.C 24],.Q 491 [aT]],.V [.U 2 (.O .Y [bW]) 3,.agg [.K be,.Z .i64 bu,.Z .i64 bN]],[some (.A 66 uz bW)],[.O .G [.Q 725 [aV,aT,bd,bf],aM,aM],.O .G [.Q 725 [aV,aT,bd,bf],aM,aZ],.O .G [.Q 725 [aV,aT,bd,bf],aM,bm],.Q 724 [aV,aT,bd,bf]]⟩⟩
def kd:HC:=⟨54,6,⟨[.ptr 0 0,.Z .i64 bg],[mJ,nT],2,.O .and [.O .and [.O (.cmp .leq) [.O .Y [aT],bB],.Q 431 [aT]],.Q 491 [aT]],.U 2 (.O .Y [be]) 7,[some (.A 135 cZ be)],[.Q 726 [aT,bg]]⟩⟩
def L19:Ac:=[iG,kd]
def mK:HC:=⟨154,9,⟨[.ptr 0 0,vN],[mJ,nT],2,.O .and [.O (.cmp .leq) [.O .Y [aT],.C 24],.Q 491 [aT]],.V [.U 2 (.O .Y [bu]) 3,.U 3 (.O .Y [bN]) 7,.Z .i64 be],[some (.A 66 uz bu),some (.A 135 cZ bN)],[.Q 729 [aV,aT,bd,bf,bh],.Q 727 [aV,aT,bd,bf,bh],.Q 728 [aV,aT,bd,bf,bh]]⟩⟩
def L20:Ac:=[mK]
def qD:HC:=⟨123,9,⟨[.ptr 0 0,vN],[mJ,nT],2,.O .and [.O .and [.O .and [.O (.cmp .leq) [.O .Y [aT],bB],.Q 431 [aT]],.Q 491 [aT]],.Q 739 [aN,aT,bd]],.V [.U 2 (.O .Y [bu]) 3,.U 3 (.O .Y [bN]) 7,.Z .i64 be],[some (.A 66 uz bu),some (.A 135 cZ bN)],[.Q 732 [aN,aO,aS,aV,aT,bg,bd,bf,bh],.Q 730 [aN,aO,aS,aV,aT,bg,bd,bf,bh],.Q 731 [aN,aO,aS,aV,aT,bg,bd,bf,bh]]⟩⟩
def L21:Ac:=[qD]
def qO:HC:=⟨97,9,⟨[.ptr 0 0,vN],[mJ,nT],1,.O .and [.O .and [.O .and [.O (.cmp .leq) [.O .Y [aT],bB],.Q 431 [aT]],.Q 491 [aT]],.Q 739 [aN,aT,bd]],.Z .i64 be,[some (.marr false uz zQ bu)],[.Q 732 [aN,aO,aS,aV,aT,bg,bd,bf,bh],.Q 733 [aN,aO,aS,aV,aT,bg,bd,bf,bh]]⟩⟩
def L22:Ac:=[qO]
def L23:Ac:=[]
def L24:Ac:=[]
def iB:HC:=⟨27,4,⟨[Fc],[],0,.cb true,.H be,[],[.Q 700 [aN,aO,aS,aV]]⟩⟩
def qH:HC:=⟨59,4,⟨[Bm],[],0,.cb true,.Z .i64 be,[],[.Q 701 [aN,aO,aS,aV]]⟩⟩
def nD:HC:=⟨129,1,⟨[.Z .i64 aN],[],0,.cb true,Db,[],[.O .G [.Q 810 [aN],aM,aM],.O .G [.Q 810 [aN],aM,aZ],.O .G [.Q 810 [aN],aM,bm],.O .G [.Q 810 [aN],aM,.C 3]]⟩⟩
def iM:HC:=⟨128,8,⟨[AP,.agg [.Z .i64 aT,.Z .i64 bg,.Z .i64 bd,.Z .i64 bf]],[],0,.cb true,Db,[],[.O .G [.Q 811 [aN,aO,aS,aV,aT,bg,bd,bf],aM,aM],.O .G [.Q 811 [aN,aO,aS,aV,aT,bg,bd,bf],aM,aZ],.O .G [.Q 811 [aN,aO,aS,aV,aT,bg,bd,bf],aM,bm],.O .G [.Q 811 [aN,aO,aS,aV,aT,bg,bd,bf],aM,.C 3]]⟩⟩
def kv:HC:=⟨43,2,⟨[.S 0 aM (.O .Y [aN]) 7,.S 1 aM (.O .Y [aO]) 7],[.A 4294967295 cZ aN,.A 4294967295 cZ aO],2,.O (.cmp .leq) [.O .Y [aN],bK],.H be,[],[.Q 3 [aN,aO]]⟩⟩
def rT:HC:=⟨78,4,⟨[.S 0 aM (.O .Y [aN]) 7,IG],[.A 4294967295 cZ aN],1,.O (.cmp .leq) [.O .Y [aN],bK],.H be,[],[.Q 827 [aN,aO,aS,aV]]⟩⟩
def iU:HC:=⟨82,2,⟨[.S 0 aM (.O .Y [aN]) 7,.Z .i64 aO],[.A 4294967295 cZ aN],1,.O .and [.O (.cmp .leq) [.O .Y [aN],bB],.Q 431 [aN]],.U 1 (.O .Y [be]) 7,[some (.A 133 cZ be)],[.Q 832 [aN,aO]]⟩⟩
def gI:HC:=⟨62,1,⟨[.S 0 aM (.O .Y [aN]) 4],[.A 4294967295 kI aN],1,.O (.cmp .leq) [.O .Y [aN],bR],.U 1 (.O .Y [be]) 4,[some (.A 58 kI be)],[.Q 830 [aN]]⟩⟩
def kc:HC:=⟨40,1,⟨[.S 0 aM (.O .Y [aN]) 4],[.A 4294967295 kI aN],1,.O (.cmp .leq) [.O .Y [aN],bR],.Z .i64 be,[],[.Q 831 [aN]]⟩⟩
def kH:HC:=⟨44,1,⟨[.S 0 aM (.O .Y [aN]) 7],[.A 4294967295 cZ aN],1,.O .and [.O (.cmp .leq) [.O .Y [aN],bB],.Q 431 [aN]],.U 1 (.O .Y [be]) 7,[some (.A 133 cZ be)],[aN]⟩⟩
def kE:HC:=⟨81,1,⟨[.bool false,.S 0 aM (.O .Y [aN]) 7],[.A 4294967295 cZ aN],1,.O .and [.O (.cmp .leq) [.O .Y [aN],bB],.Q 431 [aN]],.U 1 (.O .Y [be]) 7,[some (.A 133 cZ be)],[.Q 490 [aN]]⟩⟩
def L25:Ac:=[iB,qH,nD,iM,kv,rT,iU,gI,kc,kH,kE]
def kG:HC:=⟨130,4,⟨[AP],[],0,.cb true,.V [.Z .i64 be,.H bu],[],[.Q 812 [aN,aO,aS,aV],.Q 813 [aN,aO,aS,aV]]⟩⟩
def qP:HC:=⟨100,5,⟨[Fc,.Z .i64 aT],[],0,.cb true,.U 0 (.O .Y [be]) 2,[some (.A 158 gk be)],[.Q 704 [aN,aO,aS,aV,aT]]⟩⟩
def L26:Ac:=[kG,qP]
def kC:HC:=⟨101,1,⟨[.S 0 aM (.O .Y [aN]) 1],[.A 4294967295 [.int .i64] aN],1,.O (.cmp .leq) [.O .Y [aN],bR],.V [.Z .i64 be,.Z .i64 bu],[],[.Q 842 [aN],.Q 843 [aN]]⟩⟩
def qY:HC:=⟨99,2,⟨[.Z .i64 aN,.S 0 aM (.O .Y [aO]) 1],[.A 4294967295 [.int .i64] aO],1,.O (.cmp .leq) [.O .Y [aO],bR],.V [.U 1 (.O .Y [bu]) 2,.Z .i64 be],[some (.A 180 gk bu)],[.Q 825 [aN,aO],.Q 824 [aN,aO]]⟩⟩
def L27:Ac:=[kC,qY]
def oi:HC:=⟨80,1,⟨[.S 0 aM (.O .Y [aN]) 1],[.A 4294967295 [.int .i64] aN],1,.O (.cmp .leq) [.O .Y [aN],bR],.V [Db,.Z .i64 bT],[],[.O .G [.Q 820 [aN],aM,aM],.O .G [.Q 820 [aN],aM,aZ],.O .G [.Q 820 [aN],aM,bm],.O .G [.Q 820 [aN],aM,.C 3],.Q 843 [aN]]⟩⟩
def iF:HC:=⟨77,6,⟨[Fc,.S 0 aM (.O .Y [aT]) 4,.K bg],[.A 4294967295 kI aT],1,.O (.cmp .leq) [.O .Y [aT],bR],.U 1 (.O .Y [be]) 2,[some (.A 158 gk be)],[.Q 826 [aN,aO,aS,aV,aT,bg]]⟩⟩
def L28:Ac:=[oi,iF]
def kD:HC:=⟨61,5,⟨[Fc,.S 0 aM (.O .Y [aT]) 4],[.A 4294967295 kI aT],1,.O .and [.O (.cmp .leq) [.O .Y [aT],bR],.Q 840 [aN,aO,aS,aV,aT]],.V [.U 1 (.O .Y [bu]) 7,.H be],[some (.A 133 cZ bu)],[.Q 829 [aN,aO,aS,aV,aT],.Q 828 [aN,aO,aS,aV,aT]]⟩⟩
def L29:Ac:=[kD]
def L30:Ac:=[]
def L31:Ac:=[]
def im:HC:=⟨12,2,⟨[.S 0 aM (.O .Y [aN]) 8,.S 1 aM (.O .Y [aO]) 8],[.A 4294967295 kV aN,.A 4294967295 kV aO],2,.O (.cmp .leq) [.O .Y [aN],bK],.H be,[],[.Q 201 [aN,aO]]⟩⟩
def fN:HC:=⟨13,1,⟨[.S 0 aM (.O .Y [aN]) 8],[.A 4294967295 kV aN],1,.O .and [.O (.cmp .leq) [.O .Y [aN],.C 1000],.Q 433 [aN]],.U 1 (.O .Y [be]) 8,[some (.A 95 kV be)],[aN]⟩⟩
def gf:HC:=⟨90,1,⟨[.S 0 aM (.O .Y [aN]) 7],[.A 4294967295 cZ aN],1,.O (.cmp .leq) [.O .Y [aN],bK],.H be,[],[.Q 202 [aN]]⟩⟩
def kw:HC:=⟨91,4,⟨[.S 0 aM (.O .Y [aN]) 7,IG],[.A 4294967295 cZ aN],1,.O (.cmp .leq) [.O .Y [aN],bK],.V [Db,.H bT],[],[.O .G [.Q 203 [aN,aO,aS,aV],aM,aM],.O .G [.Q 203 [aN,aO,aS,aV],aM,aZ],.O .G [.Q 203 [aN,aO,aS,aV],aM,bm],.O .G [.Q 203 [aN,aO,aS,aV],aM,.C 3],.Q 204 [aN,aO,aS,aV]]⟩⟩
def oe:HC:=⟨115,6,⟨[.agg [.K aN,.Z .i64 aO,.Z .i64 aS],.agg [.K aV,.Z .i64 aT,.Z .i64 bg],.bool false],[],0,.cb true,.H be,[],[.Q 205 [aN,aO,aS,aV,aT,bg]]⟩⟩
def nA:HC:=⟨86,16,⟨[.agg [.K aN,.Z .i64 aO,.Z .i64 aS,.H aV,.Z .i64 aT,.Z .i64 bg,.Z .i64 bd,.Z .i64 bf],.agg [.K bh,.Z .i64 bp,.Z .i64 bt,.H bC,.Z .i64 bJ,.Z .i64 bQ,.Z .i64 bU,.Z .i64 bV]],[],0,.cb true,.Z .i64 be,[],[.Q 206 [aN,aO,aS,bh,bp,bt]]⟩⟩
def ZP:Ac:=[im,fN,gf,kw,oe,nA]
def fk:HC:=⟨92,1,⟨[.S 0 aM (.O .Y [aN]) 8],[.A 4294967295 kV aN],1,.O (.cmp .leq) [.O .Y [aN],.C 1000],.U 1 (.O .Y [be]) 8,[some (.A 95 kV be)],[.Q 207 [aN]]⟩⟩
def rL:HC:=⟨85,2,⟨[.U 0 aN 8,.func (.func 86) [] []],[.A 71 kV aO],0,.O .and [.O (.cmp .eql) [aN,.O .Y [aO]],.O (.cmp .leq) [.O .Y [aO],bK]],.V [],[some (.A 71 kV be)],[.Q 211 [aO]]⟩⟩
def L33:Ac:=[fk,rL]
def kg:HC:=⟨48,2,⟨[.S 0 aM (.O .Y [aN]) 7,.S 1 aM (.O .Y [aO]) 7],[.A 4294967295 cZ aN,.A 4294967295 cZ aO],2,.O .and [.O (.cmp .leq) [.O .Y [aN],bB],.O (.cmp .leq) [.O .Y [aO],bB]],.V [.U 2 (.O .Y [bu]) 8,.Z .i64 be],[some (.A 71 kV bu)],[.Q 209 [aN,aO],.Q 208 [aN,aO]]⟩⟩
def iz:HC:=⟨71,2,⟨[.S 0 aM (.O .Y [aN]) 7,.S 1 aM (.O .Y [aO]) 7],[.A 4294967295 cZ aN,.A 4294967295 cZ aO],2,.O .and [.O (.cmp .leq) [.O .Y [aN],bB],.O (.cmp .leq) [.O .Y [aO],bB]],.V [.U 2 (.O .Y [bu]) 8,.Z .i64 be],[some (.A 95 kV bu)],[.Q 209 [aN,aO],.Q 208 [aN,aO]]⟩⟩
def L34:Ac:=[kg,iz]
def ni:HC:=⟨96,3,⟨[Pa,.Z .i64 aS],[],0,.cb true,.H be,[],[.Q 945 [aN,aO,aS]]⟩⟩
def ky:HC:=⟨60,3,⟨[Pa,.Z .i64 aS],[],0,.cb true,.H be,[],[.Q 945 [aN,aO,aS]]⟩⟩
def iK:HC:=⟨9,6,⟨[yx],[],0,.cb true,.H be,[],[.Q 944 [aN,aO,aS,aV,aT,bg]]⟩⟩
def gz:HC:=⟨7,6,⟨[yx],[],0,.cb true,.H be,[],[.Q 944 [aN,aO,aS,aV,aT,bg]]⟩⟩
def nX:HC:=⟨25,1,⟨[.Z .i64 aN],[],0,.cb true,.V [Cn,.Z .i64 bN],[],[.Q 941 [aN],.Q 942 [aN],.Q 943 [aN]]⟩⟩
def qz:HC:=⟨95,3,⟨[Pa,.Z .i64 aS],[],0,.cb true,.V [Cn,.Z .i64 bN],[],[.Q 946 [aN,aO,aS],aO,.Q 947 [aN,aO,aS]]⟩⟩
def jZ:HC:=⟨42,11,⟨[.ptr 0 0],[.cells 86 0 [.Z .i64 aN,.Z .i64 aO,.ptr 1 0,.Z .i64 aS,.S 3 aM (.O .Y [bh]) 7,.S 4 aM (.O .Y [bp]) 4,.S 5 aM (.O .Y [bt]) 1],to,qA,.A 4294967295 cZ bh,.A 4294967295 kI bp,.A 4294967295 [.int .i64] bt],6,.O .and [.O (.cmp .leq) [.O .Y [bp],bK],.Q 948 [bp]],.U 6 (.O .Y [be]) 4,[some (.A 44 kI be)],[bp]⟩⟩
def tc:HC:=⟨4,2,⟨[.S 0 aM (.O .Y [aN]) 6,.Z .i64 aO],[.A 4294967295 cT6 aN],1,.cb true,.H be,[],[.Q 950 [aN,aO]]⟩⟩
def L35:Ac:=[ni,ky,iK,gz,nX,qz,jZ,tc]
def qu:HC:=⟨37,12,⟨[.ptr 0 0,.Z .u64 bC],[.cells 86 0 [.Z .i64 aN,.Z .i64 aO,.ptr 1 0,.Z .i64 aS,.S 3 aM (.O .Y [bh]) 7,.S 4 aM (.O .Y [bp]) 4,.S 5 aM (.O .Y [bt]) 1],to,qA,.A 4294967295 cZ bh,.A 4294967295 kI bp,.A 4294967295 [.int .i64] bt],6,.Q 937 [bt,bC],.V [.Z .i64 be,.H bu],[],[.Q 938 [bt,bC],.Q 939 [bt,bC]]⟩⟩
def nf:HC:=⟨38,9,⟨[.agg [.Z .u8 aN,.Z .i64 aO,.Z .i64 aS,.Z .i64 aV,.Z .i64 aT,.Z .i64 bg,.S 0 aM (.O .Y [bd]) 4,.S 1 aM (.O .Y [bf]) 1],.Z .u64 bh],[.A 4294967295 kI bd,.A 4294967295 [.int .i64] bf],2,.Q 937 [bf,bh],.V [.Z .i64 be,.H bu],[],[.Q 938 [bf,bh],.Q 939 [bf,bh]]⟩⟩
def L36:Ac:=[qu,nf]
def nS:HC:=⟨24,11,⟨[.ptr 0 0],[.cells 86 0 [.Z .i64 aN,.Z .i64 aO,.ptr 1 0,.Z .i64 aS,.S 3 aM (.O .Y [bh]) 7,.S 4 aM (.O .Y [bp]) 4,.S 5 aM (.O .Y [bt]) 1],to,qA,.A 4294967295 cZ bh,.A 4294967295 kI bp,.A 4294967295 [.int .i64] bt],6,.Q 953 [aN,aO,aS,aV,aT,bg,bd,bf,bh,bp,bt],.U 6 (.O .Y [be]) 8,[some (.A 71 kV be)],[.Q 951 [aN,aO,aS,aV,aT,bg,bd,bf,bh,bp,bt]]⟩⟩
def L37:Ac:=[nS]
def nK:HC:=⟨14,16,⟨[.ptr 0 0,.agg [.Z .u8 bC,.K bJ,.Z .i64 bQ,.Z .i64 bU],.Z .i64 bV],[.cells 86 0 [.Z .i64 aN,.Z .i64 aO,.ptr 1 0,.Z .i64 aS,.S 3 aM (.O .Y [bh]) 7,.S 4 aM (.O .Y [bp]) 4,.S 5 aM (.O .Y [bt]) 1],to,qA,.A 4294967295 cZ bh,.A 4294967295 kI bp,.A 4294967295 [.int .i64] bt],6,.Q 955 [aN,aO,aS,aV,aT,bg,bd,bf,bh,bp,bt,bC,bJ,bQ,bU,bV],.Z .i64 be,[],[.Q 954 [aN,aO,aS,aV,aT,bg,bd,bf,bh,bp,bt,bC,bJ,bQ,bU,bV]]⟩⟩
def L38:Ac:=[nK]
def nY:HC:=⟨55,9,⟨[.agg [.Z .u8 aN,.Z .i64 aO,.Z .i64 aS,.Z .i64 aV,.Z .i64 aT,.Z .i64 bg,.S 0 aM (.O .Y [bd]) 4,.S 1 aM (.O .Y [bf]) 1],.S 2 aM (.O .Y [bh]) 4],[.A 4294967295 kI bd,.A 4294967295 [.int .i64] bf,.A 4294967295 kI bh],3,.Q 957 [aN,aO,aS,aV,aT,bg,bd,bf,bh],.U 3 (.O .Y [be]) 8,[some (.A 95 kV be)],[.Q 956 [aN,aO,aS,aV,aT,bg,bd,bf,bh]]⟩⟩
def L39:Ac:=[nY]
def kf:HC:=⟨36,13,⟨[.agg [.Z .u8 aN,.Z .i64 aO,.Z .i64 aS,.Z .i64 aV,.Z .i64 aT,.Z .i64 bg,.S 0 aM (.O .Y [bd]) 4,.S 1 aM (.O .Y [bf]) 1],.agg [.Z .u8 bh,.K bp,.Z .i64 bt,.Z .i64 bC],.Z .i64 bJ],[.A 4294967295 kI bd,.A 4294967295 [.int .i64] bf],2,.Q 955 [aN,aO,aS,aV,aT,bg,bd,bf,bh,bp,bt,bC,bJ],.Z .i64 be,[],[.Q 954 [aN,aO,aS,aV,aT,bg,bd,bf,bh,bp,bt,bC,bJ]]⟩⟩
def L40:Ac:=[kf]
def AA:HC:=⟨17,20,⟨[.ptr 0 0,.agg [.Z .u8 bC,.Z .i64 bJ,.Z .i64 bQ,.Z .i64 bU,.Z .i64 bV,.Z .i64 (.V 16),.S 6 aM (.O .Y [.V 17]) 4,.S 7 aM (.O .Y [.V 18]) 1],.Z .u64 (.V 19)],[.cells 86 0 [.Z .i64 aN,.Z .i64 aO,.ptr 1 0,.Z .i64 aS,.S 3 aM (.O .Y [bh]) 7,.S 4 aM (.O .Y [bp]) 4,.S 5 aM (.O .Y [bt]) 1],to,qA,.A 4294967295 cZ bh,.A 4294967295 kI bp,.A 4294967295 [.int .i64] bt,.A 4294967295 kI (.V 17),.A 4294967295 [.int .i64] (.V 18)],8,.Q 958 [aN,aO,aS,aV,aT,bg,bd,bf,bh,bp,bt,bC,bJ,bQ,bU,bV,.V 16,.V 17,.V 18,.V 19],.H be,[],[.cb true]⟩⟩
def L41:Ac:=[AA]
def dU:HC:=⟨3,8,⟨[yx,.S 0 aM (.O .Y [bd]) 6,.Z .u64 bf],[.A 4294967295 cT6 bd],1,.Q 959 [aN,aO,aS,aV,aT,bg,bd,bf],.H be,[],[.cb true]⟩⟩
def L42:Ac:=[dU]
theorem Gt:(Tryz.prog.funcs.toList.all λfn=> !(fn.name== "runtime.NumGoroutine"))=true:=by kernel_rfl
theorem yO: ∃fn:Func,Tryz.prog.funcs[122]? =some fn/\fn.body=none/\Extern.findNext fn=none/\Extern.find fn=some (Ext.mapsClone).model:=
 ⟨_,Tryz.func122,by kernel_rfl,by kernel_rfl,by kernel_rfl⟩
theorem aac: ∃fn:Func,Tryz.prog.funcs[205]? =some fn/\fn.body=none/\Extern.findNext fn=none/\Extern.find fn=some (Ext.overlaps 276 4).model:=
 ⟨_,Tryz.func205,by kernel_rfl,by kernel_rfl,by kernel_rfl⟩
theorem kJ(I:Opq)(ae: ∀t,I.fix t=gi Tryz.prog t):ph.Ok I:=by
 refine⟨ae,λf fn h=> ?_,λf e h=> ?_,λ_ _ _ _ h=>(by cases h),λ_ _ _ h=>(by cases h),λ_ _ _ h=>(by cases h),λ_ _ _ _ _ h=>(by cases h)⟩;have h1:=k9.1 Gt fn (by obtain⟨h2,rfl⟩:=S2.1 h;exact Array.mem_toList_iff.2 (Array.getElem_mem h2));simpa using h1
 have h:(bif Nat.beq f 122 then some (.mapsClone)else bif Nat.beq f 205 then some (.overlaps 276 4)else none:Option Ext)=some e:=h;cases hf122:Nat.beq f 122 with
 |true=>
  rw[hf122]at h;obtain rfl:f=122:=by simpa using hf122
  cases h;exact yO
 |false=>
  rw[hf122]at h;simp only[cond_false]at h;cases hf205:Nat.beq f 205 with
  |true=>
   rw[hf205]at h;obtain rfl:f=205:=by simpa using hf205
   cases h;exact aac
  |false=>
   rw[hf205]at h;simp only[cond_false]at h;cases h
theorem Bx(I:Opq)(ae: ∀t,I.fix t=gi Tryz.prog t):cx.Ok I:=
 let h:=kJ I ae
 ⟨h.fix,h.name,h.ext,h.bin,h.un,h.conv,h.blt⟩
theorem wc(I:Opq)(ae: ∀t,I.fix t=gi Tryz.prog t):nk.Ok I:=
 let h:=kJ I ae
 ⟨h.fix,h.name,h.ext,h.bin,h.un,h.conv,h.blt⟩
theorem iZ:Tryz.prog.follows .mixedOrders=true:=by kernel_rfl
noncomputable def H0:Ac:=[]
noncomputable def H1:Ac:=L0++H0
noncomputable def H2:Ac:=L1++H1
noncomputable def H3:Ac:=L2++H2
noncomputable def H4:Ac:=L3++H3
noncomputable def H5:Ac:=L4++H4
noncomputable def H6:Ac:=L5++H5
noncomputable def H7:Ac:=L6++H6
noncomputable def H8:Ac:=L7++H7
noncomputable def H9:Ac:=L8++H8
noncomputable def H10:Ac:=L9++H9
noncomputable def H11:Ac:=L10++H10
noncomputable def H12:Ac:=L11++H11
noncomputable def H13:Ac:=L12++H12
noncomputable def ZJ:Ac:=L13++H13
noncomputable def H15:Ac:=L14++ZJ
noncomputable def H16:Ac:=L15++H15
noncomputable def H17:Ac:=L16++H16
noncomputable def H18:Ac:=L17++H17
noncomputable def H19:Ac:=L18++H18
noncomputable def H20:Ac:=L19++H19
noncomputable def H21:Ac:=L20++H20
noncomputable def H22:Ac:=L21++H21
noncomputable def H23:Ac:=L22++H22
noncomputable def H24:Ac:=L23++H23
noncomputable def H25:Ac:=L24++H24
noncomputable def ZC:Ac:=L25++H25
noncomputable def H27:Ac:=L26++ZC
noncomputable def ZI:Ac:=L27++H27
noncomputable def H29:Ac:=L28++ZI
noncomputable def H30:Ac:=L29++H29
noncomputable def H31:Ac:=L30++H30
noncomputable def H32:Ac:=L31++H31
noncomputable def H33:Ac:=ZP++H32
noncomputable def H34:Ac:=L33++H33
noncomputable def H35:Ac:=L34++H34
noncomputable def H36:Ac:=L35++H35
noncomputable def H37:Ac:=L36++H36
noncomputable def H38:Ac:=L37++H37
noncomputable def H39:Ac:=L38++H38
noncomputable def H40:Ac:=L39++H39
noncomputable def H41:Ac:=L40++H40
noncomputable def H42:Ac:=L41++H41
def kh:VT:= .both (.W 0 [.cb true]) (.W 0 [.cb true])
theorem vp:FC.run ph 1000000 ff.f ff.c ff.c.args=kh:=by kernel_rfl
theorem mz:FC.run (cx.hooks H3) 1000000 cT.f cT.c iI=S9.T_evRight0:=by kernel_rfl
theorem mR:FC.run (cx.hooks H3) 1000000 cT.f cT.c iJ=S9.T_evRight1:=by kernel_rfl
theorem nJ:FC.run (cx.hooks H3) 1000000 cT.f cT.c iS=S9.T_evRight2:=by kernel_rfl
def Om(I:Opq):Prop:=Rv F Tryz.prog I
theorem dz(I:Opq)(v0:Nat)(l:U0)(h:Om I):Om (I.U v0 l):=h
theorem cj{I:Opq}(h:Om I): ∀i a,I.f i a=F i a:=λi a=>by rw[h.1]
theorem AC(I:Opq)(h:Om I):cx.Ok I:=Bx I h.2
theorem IV(I:Opq)(h:Om I):ph.Ok I:=kJ I h.2
theorem II(I:Opq)(h:Om I):nk.Ok I:=wc I h.2
theorem lw{O:cn}{I:Opq}{us:List AS}{k:IntKind}{n:Nat}{i:Int}{r:Fz}(h:(I.w n).I=i)(hv:ct O I [.agg (.Z k (.V n)::r)] us):ct O I [.agg (.int k i::r)] us:=by obtain⟨v,vr,e,⟨xs,e2,u,ur,e3,p1,p2⟩,q⟩:=hv;refine⟨v,vr,e,⟨xs,e2,u,ur,e3,?_,p2⟩,q⟩;show u= .int k i;rw[<-h];exact p1
theorem rn{cs:Ac}{x:HC}{T:VT}(hc: ∀x∈cs,cA cx Om x)(ho:um x.c x.nv=true)(r:FC.run (cx.hooks cs) 1000000 x.f x.c x.c.args=T)(m: ∀I,Om I->dB I x.c.N=true->W5 T I=some (0,Y6 I x.c.outs)):cA cx Om x:=Ln (E:=cx) (cs:=cs) dz AC iZ hc (n:=1000000) ho (cy6 r m)
theorem fn{T:VT}{I:Opq}{l q:U0}(h:W5 T I=some (0,l))(e:l=q):W5 T I=some (0,q):=e▸h
theorem IW: ∀x∈H0,cA cx Om x:=λx hx=>by cases hx
theorem vK:cA cx Om ff:=
 Ln (E:=ph) (cs:=[]) dz IV iZ (λx hx=>by cases hx) (n:=1000000) (by kernel_rfl) (cy6 (T:=kh) vp λI ae hn=>by exact(S9.allT_ok (t:=kh) (by kernel_rfl)).trans (by simp only[ff,Y6,bZ]))
theorem Kf: ∀x∈L0,cA cx Om x:=by exact cS (λx hx=>(by cases hx)) vK
theorem HZ: ∀x∈H1,cA cx Om x:=eF IW Kf
theorem GE: ∀x∈L1,cA cx Om x:=by exactλx hx=>(by cases hx)
theorem Gw: ∀x∈H2,cA cx Om x:=eF HZ GE
theorem Jb: ∀x∈L2,cA cx Om x:=by exactλx hx=>(by cases hx)
theorem fA: ∀x∈H3,cA cx Om x:=eF Gw Jb
theorem rp:cA cx Om iX:=
 rn (T:=S9.T_wRight) fA (by kernel_rfl) (by kernel_rfl) (λI ae hn=>by exact fn (S9.t_wRight) (by simp only[iX,Y6,bZ,cB,cj ae]<;>rfl))
theorem pj:cA cx Om cT:=
 Ln (E:=cx) (cs:=H3) dz AC iZ fA (n:=1000000) (by kernel_rfl) (λI ae hn=>by
  by_cases hk:(I.w 0).I=1\/(I.w 0).I=2
  rcases hk with e|e
  exact⟨iJ,λO us h=>lw e h,by rw[mR];exact fn (S9.t_evRight1 (X:=S9.FU F0) e) (by simp only[cT,Y6,bZ,cB,cj ae]<;>rfl)⟩;exact⟨iS,λO us h=>lw e h,by rw[nJ];exact fn (S9.t_evRight2 (X:=S9.FU F0) e) (by simp only[cT,Y6,bZ,cB,cj ae]<;>rfl)⟩
  exact⟨iI,λO us h=>h,by rw[mz];exact fn (S9.t_evRight0 (X:=S9.FU F0) (by omega)) (by simp only[cT,Y6,bZ,cB,cj ae]<;>rfl)⟩)
theorem rR:cA cx Om iN:=
 rn (T:=S9.T_numSum) fA (by kernel_rfl) (by kernel_rfl) (λI ae hn=>by have hn:decide (((I.w 0).L.length:Int)<=1000000)=true:=hn;have hn:=j6 hn;exact fn (S9.t_numSum (cj ae) (by omega)) (by simp only[iN,Y6,bZ,cB,cj ae]<;>rfl))
theorem Ae:cA cx Om mG:=
 rn (T:=S9.T_down) fA (by kernel_rfl) (by kernel_rfl) (λI ae hn=>by have hn:((decide (1<=(I.w 1).I)&&decide ((I.w 1).I<=1048576))&&(decide (-1099511627776<=(I.w 0).I)&&decide ((I.w 0).I<=1099511627776)))=true:=hn;obtain⟨h1,h2⟩:=W7 hn;obtain⟨h3,h4⟩:=W7 h1;obtain⟨h5,h6⟩:=W7 h2;exact fn (S9.t_down (j6 h3) (j6 h4) (j6 h5) (j6 h6)) (by simp only[mG,Y6,bZ,cB,cj ae]<;>rfl))
theorem ti:cA cx Om iE:=
 rn (T:=S9.T_sRight) fA (by kernel_rfl) (by kernel_rfl) (λI ae hn=>by exact fn (S9.t_sRight (cj ae) hn) (by simp only[iE,Y6,bZ,cB,cj ae]<;>rfl))
theorem oA:cA cx Om ke:=
 rn (T:=S9.T_spanP) fA (by kernel_rfl) (by kernel_rfl) (λI ae hn=>by exact fn (S9.t_spanP) (by simp only[ke,Y6,bZ,cB,cj ae]<;>rfl))
noncomputable def dN(n:Nat):Bool:=(List.range (n+1)).all λj=>JM nk 1000000 198 277 (lF 277 (.Q 713 [aN,aO,aS,aV,aT]) (.Q 714 [aN,aO,aS,aV,aT])) [.us 1 0 n 2,.int .i64 (j:Int),.sl 0 0 1 1] n j
theorem gW{P:zI}{n:Nat}(h: ∀i,i<n->P i)(hn:P n): ∀i,i<n+1->P i:=λi hi=>by
 by_cases c:i<n;exact h i c
 obtain rfl:i=n:=by omega
 exact hn
theorem CF:JM nk 1000000 198 277 (lF 277 (.Q 713 [aN,aO,aS,aV,aT]) (.Q 714 [aN,aO,aS,aV,aT])) [.N,.int .i64 0,.sl 0 0 1 1] 0 0=true:=by kernel_rfl
theorem IF:dN 0=true:=by kernel_rfl
theorem Gx:dN 1=true:=by kernel_rfl
theorem aas:dN 2=true:=by kernel_rfl
theorem Iz:dN 3=true:=by kernel_rfl
theorem Gc:dN 4=true:=by kernel_rfl
theorem Jk:dN 5=true:=by kernel_rfl
theorem Gk:dN 6=true:=by kernel_rfl
theorem Jw:dN 7=true:=by kernel_rfl
theorem IT:dN 8=true:=by kernel_rfl
theorem Ki:dN 9=true:=by kernel_rfl
theorem AM:dN 10=true:=by kernel_rfl
theorem At:dN 11=true:=by kernel_rfl
theorem zF:dN 12=true:=by kernel_rfl
theorem AO:dN 13=true:=by kernel_rfl
theorem yE:dN 14=true:=by kernel_rfl
theorem Az:dN 15=true:=by kernel_rfl
theorem zB:dN 16=true:=by kernel_rfl
theorem BL:dN 17=true:=by kernel_rfl
theorem Ab:dN 18=true:=by kernel_rfl
theorem yN:dN 19=true:=by kernel_rfl
theorem yy:dN 20=true:=by kernel_rfl
theorem yu:dN 21=true:=by kernel_rfl
theorem Av:dN 22=true:=by kernel_rfl
theorem Bu:dN 23=true:=by kernel_rfl
theorem yl:dN 24=true:=by kernel_rfl
theorem aag:ZQ nk 1000000 198 277 (lF 277 (.Q 713 [aN,aO,aS,aV,aT]) (.Q 714 [aN,aO,aS,aV,aT])) 24=true:=
 W4.2 ⟨CF,k9.2 λn hn=>(gW (gW (gW (gW (gW (gW (gW (gW (gW (gW (gW (gW (gW (gW (gW (gW (gW (gW (gW (gW (gW (gW (gW (gW (gW (λi hi=>absurd hi (P9 i)) IF) Gx) aas) Iz) Gc) Jk) Gk) Jw) IT) Ki) AM) At) zF) AO) yE) Az) zB) BL) Ab) yN) yy) yu) Av) Bu) yl: ∀i,i<24+1->dN i=true) n (p7.1 hn)⟩
theorem yf:cA cx Om rZ:=
 (Jl (E:=cx) dz (nv:=5) (by kernel_rfl) (dq8 (E:=cx) (Ec:=nk) (N:=1000000) (M:=24) (f:=198) (e:=277) rfl (λI ae=>((Wy (E:=nk) dz II (λI ae=>bN8 λ_ _ _=>rfl) iZ 1000000 I ae).1 _ (j5 _)).1) (by decide) (λI ae=>(ae.2 277).trans (by kernel_rfl)) aag (λI ae hn=>S9.sins_ok (cj ae) hn)):cA cx Om ⟨198,5,(lF 277 (.Q 713 [aN,aO,aS,aV,aT]) (.Q 714 [aN,aO,aS,aV,aT]))⟩)
def aap:Go.Shelf.Ren:=⟨λ|6=>199|15=>106|14=>207|28=>140|29=>141|20=>210|21=>211|22=>212|23=>213|24=>214|25=>215|26=>216|27=>217|46=>219|47=>161|48=>162|49=>220|50=>221|57=>222|n=>n,λ|22=>276|24=>277|25=>287|3=>3|39=>188|0=>0|53=>220|55=>27|4=>4|46=>214|45=>213|50=>101|5=>5|9=>9|66=>245|70=>248|76=>268|77=>269|n=>n,λ|n=>n⟩
theorem aan:Go.Proofs.SlLaysF0.n6 Tryz.prog aap:={
 mixed:=by kernel_rfl
 f6:=⟨Tryz.f199.name,by decide,Tryz.func199.trans (congrArg some (by kernel_rfl))⟩
 f14:=⟨Tryz.f207.name,by decide,Tryz.func207.trans (congrArg some (by kernel_rfl))⟩
 f15:=Tryz.func106.trans (congrArg some (by kernel_rfl))
 f20:=⟨Tryz.f210.name,by decide,Tryz.func210.trans (congrArg some (by kernel_rfl))⟩
 f21:=⟨Tryz.f211.name,by decide,Tryz.func211.trans (congrArg some (by kernel_rfl))⟩
 f22:=⟨Tryz.f212.name,by decide,Tryz.func212.trans (congrArg some (by kernel_rfl))⟩
 f23:=⟨Tryz.f213.name,by decide,Tryz.func213.trans (congrArg some (by kernel_rfl))⟩
 f24:=⟨Tryz.f214.name,by decide,Tryz.func214.trans (congrArg some (by kernel_rfl))⟩
 f25:=⟨Tryz.f215.name,by decide,Tryz.func215.trans (congrArg some (by kernel_rfl))⟩
 f26:=⟨Tryz.f216.name,by decide,Tryz.func216.trans (congrArg some (by kernel_rfl))⟩
 f27:=⟨Tryz.f217.name,by decide,Tryz.func217.trans (congrArg some (by kernel_rfl))⟩
 f28:=Tryz.func140.trans (congrArg some (by kernel_rfl))
 f29:=Tryz.func141.trans (congrArg some (by kernel_rfl))
 f46:=⟨Tryz.f219.name,by decide,Tryz.func219.trans (congrArg some (by kernel_rfl))⟩
 f47:=Tryz.func161.trans (congrArg some (by kernel_rfl))
 f48:=Tryz.func162.trans (congrArg some (by kernel_rfl))
 f49:=⟨Tryz.f220.name,by decide,Tryz.func220.trans (congrArg some (by kernel_rfl))⟩
 f50:=⟨Tryz.f221.name,by decide,Tryz.func221.trans (congrArg some (by kernel_rfl))⟩
 f57:=⟨Tryz.f222.name,by decide,Tryz.func222.trans (congrArg some (by kernel_rfl))⟩
 t0:=Tryz.underlying0
 a0:=Tryz.isAgg0
 z0:=Tryz.sizeOf0
 v0:=Tryz.zeroValue0
 t3:=Tryz.underlying3
 a3:=Tryz.isAgg3
 z3:=Tryz.sizeOf3
 v3:=Tryz.zeroValue3
 t4:=Tryz.underlying4
 a4:=Tryz.isAgg4
 z4:=Tryz.sizeOf4
 v4:=Tryz.zeroValue4
 t5:=Tryz.underlying5
 a5:=Tryz.isAgg5
 z5:=Tryz.sizeOf5
 v5:=Tryz.zeroValue5
 t9:=Tryz.underlying9
 a9:=Tryz.isAgg9
 z9:=Tryz.sizeOf9
 v9:=Tryz.zeroValue9
 t22:=Tryz.underlying276
 a22:=Tryz.isAgg276
 z22:=Tryz.sizeOf276
 v22:=Tryz.zeroValue276
 t25:=Tryz.underlying287
 a25:=Tryz.isAgg287
 z25:=Tryz.sizeOf287
 v25:=Tryz.zeroValue287
 t39:=Tryz.underlying188
 a39:=Tryz.isAgg188
 z39:=Tryz.sizeOf188
 v39:=Tryz.zeroValue188
 t45:=Tryz.underlying213
 a45:=Tryz.isAgg213
 z45:=Tryz.sizeOf213
 v45:=Tryz.zeroValue213
 t46:=Tryz.underlying214
 a46:=Tryz.isAgg214
 z46:=Tryz.sizeOf214
 v46:=Tryz.zeroValue214
 t50:=Tryz.underlying101
 a50:=Tryz.isAgg101
 z50:=Tryz.sizeOf101
 v50:=Tryz.zeroValue101
 t53:=Tryz.underlying220
 a53:=Tryz.isAgg220
 z53:=Tryz.sizeOf220
 v53:=Tryz.zeroValue220
 t55:=Tryz.underlying27
 a55:=Tryz.isAgg27
 z55:=Tryz.sizeOf27
 v55:=Tryz.zeroValue27
 t66:=Tryz.underlying245
 a66:=Tryz.isAgg245
 z66:=Tryz.sizeOf245
 v66:=Tryz.zeroValue245
 t70:=Tryz.underlying248
 a70:=Tryz.isAgg248
 z70:=Tryz.sizeOf248
 v70:=Tryz.zeroValue248
 t76:=Tryz.underlying268
 a76:=Tryz.isAgg268
 z76:=Tryz.sizeOf268
 v76:=Tryz.zeroValue268
 t77:=Tryz.underlying269
 a77:=Tryz.isAgg269
 z77:=Tryz.sizeOf269
 v77:=Tryz.zeroValue269}
noncomputable def om0:Opq:=⟨ax.v,ax.w,F,ax.one,gi Tryz.prog,λ_=>none⟩
theorem AL(G:Nat->U0->Val)(P:uV):Rv G P ⟨ax.v,ax.w,G,ax.one,gi P,λ_=>none⟩:=⟨rfl,λ_=>rfl⟩
theorem qv:Om om0:=AL F Tryz.prog
theorem Kv:GS Tryz.prog 200 [.int .i64,.int .i64] S9.spanV:=
 da3 (E:=cx) dz qv oA (x:= .Q 712 [aN,aO,aS,aV]) (h2:=Heap.empty) (by kernel_rfl) (λI ae a b ha hb=>by have a0:I.w 0=a.L.getD 0 default:=ha 0 (by decide);have a1:I.w 1=a.L.getD 1 default:=ha 1 (by decide);have b0:I.w 2=b.L.getD 0 default:=hb 0 (by decide);have b1:I.w 3=b.L.getD 1 default:=hb 1 (by decide);show(I.f 712 [I.w 0,I.w 1,I.w 2,I.w 3]).I=_;rw[cj ae,a0,a1,b0,b1];rfl)
theorem ow:cA cx Om oj:=
 (Jl (E:=cx) dz (nv:=2) (by kernel_rfl) (cz2 (E:=cx) aan (f:=199) rfl (g:=200) (sig:=[.int .i64,.int .i64]) (e:=277) (id:=715) (cf:=S9.spanV) Tryz.isAgg277 Tryz.sizeOf277 S9.swo_spanV (enters_of Tryz.func200 (by kernel_rfl) rfl) Kv (λI ae l=>by rw[cj ae];rfl) (by kernel_rfl)):cA cx Om ⟨199,2,CW 200 277 [.int .i64,.int .i64] 715⟩)
theorem sK:cA cx Om gc:=
 (Jl (E:=cx) dz (nv:=2) (by kernel_rfl) (dq3 dz ow (g:=200) (e:=277) (sig:=[.int .i64,.int .i64]) (need:=gc.c.N) (id:=715) (by kernel_rfl) (by kernel_rfl) (λI ae hn=>S9.sortsb_ok (cj ae) hn) (by kernel_rfl)):cA cx Om ⟨199,2,OY 200 277 [.int .i64,.int .i64] gc.c.N 715⟩)
theorem qX:cA cx Om iL:=
 rn (T:=Ms) fA (by kernel_rfl) (by kernel_rfl) (λI ae hn=>by have hn:(decide (((I.w 0).L.length:Int)<=400)&&(I.f 431 [I.w 0]).Z)=true:=hn;obtain⟨h1,h2⟩:=W7 hn;rw[cj ae]at h2;exact(S7.t_cloneR (cj ae) (by have:=j6 h1;omega) h2).trans (by simp only[iL,Y6,bZ,cj ae]))
theorem uY:cA cx Om kP:=
 rn (T:=cA8) fA (by kernel_rfl) (by kernel_rfl) (λI ae hn=>by have hn:(I.f 420 [I.w 0,I.w 1,I.w 2,I.w 3,I.w 4]).Z=true:=hn;rw[cj ae]at hn;exact(S7.t_swapR (cj ae) hn).trans (by simp only[kP,Y6,bZ,cj ae]))
theorem Bz:cA cx Om mU:=
 rn (T:=Nb) fA (by kernel_rfl) (by kernel_rfl) (λI ae hn=>by exact S7.t_cmpR.trans (by simp only[mU,Y6,bZ,cj ae]))
theorem JW: ∀x∈L3,cA cx Om x:=by exact cS (cS (cS (cS (cS (cS (cS (cS (cS (cS (cS (cS (λx hx=>(by cases hx)) Bz) uY) qX) sK) ow) yf) oA) ti) Ae) rR) pj) rp
theorem ll: ∀x∈H4,cA cx Om x:=eF fA JW
theorem CD:cA cx Om nr:=
 rn (T:=da7) ll (by kernel_rfl) (by kernel_rfl) (λI ae hn=>by have hn:(I.f 422 [I.w 0,I.w 1,I.w 2,I.w 3,I.w 4]).Z=true:=hn;rw[cj ae]at hn;exact(S7.t_rotC (cj ae) hn).trans (by simp only[nr,Y6,bZ,cj ae]))
theorem HF:cA cx Om sD:=
 rn (T:=S9.T_wOf) ll (by kernel_rfl) (by kernel_rfl) (λI ae hn=>by exact fn (S9.t_wOf (cj ae)) (by simp only[sD,Y6,bZ,cB,cj ae]<;>rfl))
theorem yg:cA cx Om mH:=
 rn (T:=S9.T_join) ll (by kernel_rfl) (by kernel_rfl) (λI ae hn=>by have hn:decide (((I.w 0).L.length:Int)<=1000)=true:=hn;have hn:=j6 hn;exact fn (S9.t_join (cj ae) (by omega)) (by simp only[mH,Y6,bZ,cB,cj ae]<;>rfl))
theorem oX:cA cx Om gw:=
 rn (T:=S9.T_sinsert) ll (by kernel_rfl) (by kernel_rfl) (λI ae hn=>by exact fn (S9.t_sinsert (cj ae) hn) (by simp only[gw,Y6,bZ,cB,cj ae]<;>rfl))
theorem GN: ∀x∈L4,cA cx Om x:=by exact cS (cS (cS (cS (λx hx=>(by cases hx)) oX) yg) HF) CD
theorem ot: ∀x∈H5,cA cx Om x:=eF ll GN
theorem Cy:cA cx Om nC:=
 rn (T:=Zz) ot (by kernel_rfl) (by kernel_rfl) (λI ae hn=>by have hn:(I.f 424 [I.w 0,I.w 1,I.w 2,I.w 3]).Z=true:=hn;rw[cj ae]at hn;exact(S7.t_insC (cj ae) hn).trans (by simp only[nC,Y6,bZ,cj ae]))
theorem BB:cA cx Om sG:=
 Ln (E:=cx) (cs:=H5) dz AC iZ ot (n:=1000000) (by kernel_rfl) (λI ae hn=>by have hn:(I.f 426 [I.w 0,I.w 1,I.w 2,I.w 3,I.w 4,.D 1]).Z=true:=hn;rw[cj ae]at hn;exact(S7.sym_vac hn).elim)
theorem Cc:cA cx Om mw:=
 rn (T:=S9.T_aput) ot (by kernel_rfl) (by kernel_rfl) (λI ae hn=>by exact fn (S9.t_aput (cj ae)) (by simp only[mw,Y6,bZ,cB,cj ae]<;>rfl))
theorem JL: ∀x∈L5,cA cx Om x:=by exact cS (cS (cS (λx hx=>(by cases hx)) Cc) BB) Cy
theorem xK: ∀x∈H6,cA cx Om x:=eF ot JL
theorem aal:cA cx Om nI:=
 rn (T:=sH 1) xK (by kernel_rfl) (by kernel_rfl) (λI ae hn=>by have hn:(I.f 426 [I.w 0,I.w 1,I.w 2,I.w 3,I.w 4,.D 2]).Z=true:=hn;rw[cj ae]at hn;exact(S7.t_sym (B:=1) (cj ae) hn).trans (by simp only[nI,Y6,bZ,cj ae]))
theorem Hw: ∀x∈L6,cA cx Om x:=by exact cS (λx hx=>(by cases hx)) aal
theorem xz: ∀x∈H7,cA cx Om x:=eF xK Hw
theorem CA:cA cx Om nQ:=
 rn (T:=sH 2) xz (by kernel_rfl) (by kernel_rfl) (λI ae hn=>by have hn:(I.f 426 [I.w 0,I.w 1,I.w 2,I.w 3,I.w 4,.D 4]).Z=true:=hn;rw[cj ae]at hn;exact(S7.t_sym (B:=2) (cj ae) hn).trans (by simp only[nQ,Y6,bZ,cj ae]))
theorem Jz: ∀x∈L7,cA cx Om x:=by exact cS (λx hx=>(by cases hx)) CA
theorem xA: ∀x∈H8,cA cx Om x:=eF xz Jz
theorem zH:cA cx Om nN:=
 rn (T:=sH 4) xA (by kernel_rfl) (by kernel_rfl) (λI ae hn=>by have hn:(I.f 426 [I.w 0,I.w 1,I.w 2,I.w 3,I.w 4,.D 8]).Z=true:=hn;rw[cj ae]at hn;exact(S7.t_sym (B:=4) (cj ae) hn).trans (by simp only[nN,Y6,bZ,cj ae]))
theorem Ju: ∀x∈L8,cA cx Om x:=by exact cS (λx hx=>(by cases hx)) zH
theorem xE: ∀x∈H9,cA cx Om x:=eF xA Ju
theorem Aa:cA cx Om mT:=
 rn (T:=sH 8) xE (by kernel_rfl) (by kernel_rfl) (λI ae hn=>by have hn:(I.f 426 [I.w 0,I.w 1,I.w 2,I.w 3,I.w 4,.D 16]).Z=true:=hn;rw[cj ae]at hn;exact(S7.t_sym (B:=8) (cj ae) hn).trans (by simp only[mT,Y6,bZ,cj ae]))
theorem Kn: ∀x∈L9,cA cx Om x:=by exact cS (λx hx=>(by cases hx)) Aa
theorem sL: ∀x∈H10,cA cx Om x:=eF xE Kn
theorem AG:cA cx Om mY:=
 rn (T:=sH 16) sL (by kernel_rfl) (by kernel_rfl) (λI ae hn=>by have hn:(I.f 426 [I.w 0,I.w 1,I.w 2,I.w 3,I.w 4,.D 32]).Z=true:=hn;rw[cj ae]at hn;exact(S7.t_sym (B:=16) (cj ae) hn).trans (by simp only[mY,Y6,bZ,cj ae]))
theorem Bn: ∀x∈L10,cA cx Om x:=by exact cS (λx hx=>(by cases hx)) AG
theorem sU: ∀x∈H11,cA cx Om x:=eF sL Bn
theorem yL:cA cx Om mW:=
 rn (T:=sH 32) sU (by kernel_rfl) (by kernel_rfl) (λI ae hn=>by have hn:(I.f 426 [I.w 0,I.w 1,I.w 2,I.w 3,I.w 4,.D 64]).Z=true:=hn;rw[cj ae]at hn;exact(S7.t_sym (B:=32) (cj ae) hn).trans (by simp only[mW,Y6,bZ,cj ae]))
theorem Bd: ∀x∈L11,cA cx Om x:=by exact cS (λx hx=>(by cases hx)) yL
theorem td: ∀x∈H12,cA cx Om x:=eF sU Bd
theorem ym:cA cx Om nO:=
 rn (T:=sH 64) td (by kernel_rfl) (by kernel_rfl) (λI ae hn=>by have hn:(I.f 426 [I.w 0,I.w 1,I.w 2,I.w 3,I.w 4,.D 128]).Z=true:=hn;rw[cj ae]at hn;exact(S7.t_sym (B:=64) (cj ae) hn).trans (by simp only[nO,Y6,bZ,cj ae]))
theorem Cx: ∀x∈L12,cA cx Om x:=by exact cS (λx hx=>(by cases hx)) ym
theorem rN: ∀x∈H13,cA cx Om x:=eF td Cx
theorem BE:cA cx Om mI:=
 rn (T:=sH 128) rN (by kernel_rfl) (by kernel_rfl) (λI ae hn=>by have hn:(I.f 426 [I.w 0,I.w 1,I.w 2,I.w 3,I.w 4,.D 256]).Z=true:=hn;rw[cj ae]at hn;exact(S7.t_sym (B:=128) (cj ae) hn).trans (by simp only[mI,Y6,bZ,cj ae]))
theorem aae: ∀x∈L13,cA cx Om x:=by exact cS (λx hx=>(by cases hx)) BE
theorem qE: ∀x∈ZJ,cA cx Om x:=eF rN aae
theorem Bq:cA cx Om ng:=
 rn (T:=sH 256) qE (by kernel_rfl) (by kernel_rfl) (λI ae hn=>by have hn:(I.f 426 [I.w 0,I.w 1,I.w 2,I.w 3,I.w 4,.D 512]).Z=true:=hn;rw[cj ae]at hn;exact(S7.t_sym (B:=256) (cj ae) hn).trans (by simp only[ng,Y6,bZ,cj ae]))
theorem AX: ∀x∈L14,cA cx Om x:=by exact cS (λx hx=>(by cases hx)) Bq
theorem rq: ∀x∈H15,cA cx Om x:=eF qE AX
theorem BZ:cA cx Om my:=
 rn (T:=db7) rq (by kernel_rfl) (by kernel_rfl) (λI ae hn=>by have hn:(I.f 428 [I.w 0,I.w 1,I.w 2]).Z=true:=hn;rw[cj ae]at hn;exact(S7.t_stab (cj ae) hn).trans (by simp only[my,Y6,bZ,cj ae]))
theorem Cg: ∀x∈L15,cA cx Om x:=by exact cS (λx hx=>(by cases hx)) BZ
theorem sZ: ∀x∈H16,cA cx Om x:=eF rq Cg
theorem ws:cA cx Om kz:=
 rn (T:=cB1) sZ (by kernel_rfl) (by kernel_rfl) (λI ae hn=>by have hn:(decide (((I.w 0).L.length:Int)<=400)&&(I.f 431 [I.w 0]).Z)=true:=hn;obtain⟨h1,h2⟩:=W7 hn;rw[cj ae]at h2;exact(S7.t_sstab (cj ae) (by have:=j6 h1;omega) h2).trans (by simp only[kz,Y6,bZ,cB,cj ae]))
theorem aao: ∀x∈L16,cA cx Om x:=by exact cS (λx hx=>(by cases hx)) ws
theorem sv: ∀x∈H17,cA cx Om x:=eF sZ aao
theorem jI:cA cx Om fm:=
 rn (T:=bE3) sv (by kernel_rfl) (by kernel_rfl) (λI ae hn=>by have hn:(decide (((I.w 0).L.length:Int)<=400)&&(I.f 431 [I.w 0]).Z)=true:=hn;obtain⟨h1,h2⟩:=W7 hn;rw[cj ae]at h2;exact(S7.t_aggSort (cj ae) (by have:=j6 h1;omega) h2).trans (by simp only[fm,Y6,bZ,cj ae]))
theorem nZ:cA cx Om fH:=
 (Jl (E:=cx) dz (nv:=2) (by kernel_rfl) (dq2 dz jI (e:=135) (sig:=[.str,.int .i64,.int .i64,.int .i64,.int .i64,.int .i64,.int .i64]) (id:=490) (by kernel_rfl) (λI ae hn=>dV7 (cj ae) hn) (by kernel_rfl)):cA cx Om ⟨fm.f,2,Em 135 [.str,.int .i64,.int .i64,.int .i64,.int .i64,.int .i64,.int .i64] fH.c.N 490⟩)
theorem yW: ∀x∈L17,cA cx Om x:=by exact cS (cS (λx hx=>(by cases hx)) nZ) jI
theorem nU: ∀x∈H18,cA cx Om x:=eF sv yW
theorem vP:cA cx Om ku:=
 rn (T:=S9.T_trows) nU (by kernel_rfl) (by kernel_rfl) (λI ae hn=>by exact fn (S9.t_trows (cj ae) (λv h=>YD h) hn) (by simp only[ku,Y6,bZ,cB,cj ae]<;>rfl))
theorem aah:cA cx Om kM:=
 rn (T:=S9.T_tsess) nU (by kernel_rfl) (by kernel_rfl) (λI ae hn=>by exact fn (S9.t_tsess (cj ae) ef1 hn) (by simp only[kM,Y6,bZ,cB,cj ae]<;>rfl))
theorem CJ: ∀x∈L18,cA cx Om x:=by exact cS (cS (λx hx=>(by cases hx)) aah) vP
theorem nu: ∀x∈H19,cA cx Om x:=eF nU CJ
theorem sC:cA cx Om iG:=
 rn (T:=S9.T_joined) nu (by kernel_rfl) (by kernel_rfl) (λI ae hn=>by exact fn (S9.t_joined (cj ae) hn) (by simp only[iG,Y6,bZ,cB,cj ae]<;>rfl))
theorem uZ:cA cx Om kd:=
 rn (T:=S9.T_fired) nu (by kernel_rfl) (by kernel_rfl) (λI ae hn=>by have hn:((decide (((I.w 4).L.length:Int)<=400)&&(I.f 431 [I.w 4]).Z)&&(I.f 491 [I.w 4]).Z)=true:=hn;obtain⟨hn,h3⟩:=W7 hn;obtain⟨h1,h2⟩:=W7 hn;rw[cj ae]at h2 h3;have h1:=j6 h1;exact fn (S9.c_fired (cj ae) (by omega) h2 h3) (by simp only[kd,Y6,bZ,cB,cj ae]<;>rfl))
theorem BD: ∀x∈L19,cA cx Om x:=by exact cS (cS (λx hx=>(by cases hx)) uZ) sC
theorem qx: ∀x∈H20,cA cx Om x:=eF nu BD
theorem AI:cA cx Om mK:=
 rn (T:=S9.T_sess) qx (by kernel_rfl) (by kernel_rfl) (λI ae hn=>by exact fn (S9.t_sess (cj ae) hn) (by simp only[mK,Y6,bZ,cB,cj ae]<;>rfl))
theorem AF: ∀x∈L20,cA cx Om x:=by exact cS (λx hx=>(by cases hx)) AI
theorem rD: ∀x∈H21,cA cx Om x:=eF qx AF
theorem aak:cA cx Om qD:=
 rn (T:=S9.T_tryE) rD (by kernel_rfl) (by kernel_rfl) (λI ae hn=>by exact fn (S9.t_tryE (cj ae) S9.fe_x.x431 hn) (by simp only[qD,Y6,bZ,cB,cj ae]<;>rfl))
theorem Al: ∀x∈L21,cA cx Om x:=by exact cS (λx hx=>(by cases hx)) aak
theorem qI: ∀x∈H22,cA cx Om x:=eF rD Al
theorem IY:cA cx Om qO:=
 rn (T:=S9.T_put) qI (by kernel_rfl) (by kernel_rfl) (λI ae hn=>by exact fn (S9.put_t (cj ae) hn) (by simp only[qO,Y6,bZ,cB,cj ae]<;>rfl))
theorem AY: ∀x∈L22,cA cx Om x:=by exact cS (λx hx=>(by cases hx)) IY
theorem Bi: ∀x∈H23,cA cx Om x:=eF qI AY
theorem Co: ∀x∈L23,cA cx Om x:=by exactλx hx=>(by cases hx)
theorem yv: ∀x∈H24,cA cx Om x:=eF Bi Co
theorem Bw: ∀x∈L24,cA cx Om x:=by exactλx hx=>(by cases hx)
theorem dO: ∀x∈H25,cA cx Om x:=eF yv Bw
theorem qJ:cA cx Om iB:=
 rn (T:=S9.T_rRight) dO (by kernel_rfl) (by kernel_rfl) (λI ae hn=>by exact fn (S9.c_rRight) (by simp only[iB,Y6,bZ,cB,cj ae]<;>rfl))
theorem Jo:cA cx Om qH:=
 rn (T:=S9.T_rev) dO (by kernel_rfl) (by kernel_rfl) (λI ae hn=>by exact fn (S9.c_rev) (by simp only[qH,Y6,bZ,cB,cj ae]<;>rfl))
theorem yw:cA cx Om nD:=
 rn (T:=S9.T_r3of) dO (by kernel_rfl) (by kernel_rfl) (λI ae hn=>by exact fn (S9.c_r3of) (by simp only[nD,Y6,bZ,cB,cj ae]<;>rfl))
theorem sT:cA cx Om iM:=
 rn (T:=S9.T_r3plus) dO (by kernel_rfl) (by kernel_rfl) (λI ae hn=>by exact fn (S9.c_r3plus) (by simp only[iM,Y6,bZ,cB,cj ae]<;>rfl))
theorem vQ:cA cx Om kv:=
 rn (T:=S9.T_sameV) dO (by kernel_rfl) (by kernel_rfl) (λI ae hn=>by have hn:decide (((I.w 0).L.length:Int)<=1000000)=true:=hn;have hn:=j6 hn;exact fn (dC0 (cj ae) (by omega)) (by simp only[kv,Y6,bZ,cB,cj ae]<;>rfl))
theorem HB:cA cx Om rT:=
 rn (T:=S9.T_has) dO (by kernel_rfl) (by kernel_rfl) (λI ae hn=>by have hn:decide (((I.w 0).L.length:Int)<=1000000)=true:=hn;have hn:=j6 hn;exact fn (S9.c_has (cj ae) (by omega)) (by simp only[rT,Y6,bZ,cB,cj ae]<;>rfl))
theorem rS:cA cx Om iU:=
 rn (T:=S9.T_rFired) dO (by kernel_rfl) (by kernel_rfl) (λI ae hn=>by have hn:(decide (((I.w 0).L.length:Int)<=400)&&(I.f 431 [I.w 0]).Z)=true:=hn;obtain⟨h1,h2⟩:=W7 hn;rw[cj ae]at h2;have h1:=j6 h1;exact fn (S9.c_rFired (cj ae) (by omega)) (by simp only[iU,Y6,bZ,cB,cj ae]<;>rfl))
theorem pD:cA cx Om gI:=
 rn (T:=S9.T_rEvents) dO (by kernel_rfl) (by kernel_rfl) (λI ae hn=>by have hn:decide (((I.w 0).L.length:Int)<=100)=true:=hn;have hn:=j6 hn;exact fn (S9.c_rEvents (cj ae) (by omega)) (by simp only[gI,Y6,bZ,cB,cj ae]<;>rfl))
theorem uR:cA cx Om kc:=
 rn (T:=S9.T_rMark) dO (by kernel_rfl) (by kernel_rfl) (λI ae hn=>by have hn:decide (((I.w 0).L.length:Int)<=100)=true:=hn;have hn:=j6 hn;exact fn (S9.c_rMark (cj ae) (by omega)) (by simp only[kc,Y6,bZ,cB,cj ae]<;>rfl))
theorem vT:cA cx Om kH:=
 rn (T:=Tk) dO (by kernel_rfl) (by kernel_rfl) (λI ae hn=>by have hn:(decide (((I.w 0).L.length:Int)<=400)&&(I.f 431 [I.w 0]).Z)=true:=hn;obtain⟨h1,h2⟩:=W7 hn;rw[cj ae]at h2;have h1:=j6 h1;exact fn (S9.c_rowsN (cj ae) (by omega) h2) (by simp only[kH,Y6,bZ,cB,cj ae]<;>rfl))
theorem vW:cA cx Om kE:=
 rn (T:=cK5) dO (by kernel_rfl) (by kernel_rfl) (λI ae hn=>by have hn:(decide (((I.w 0).L.length:Int)<=400)&&(I.f 431 [I.w 0]).Z)=true:=hn;obtain⟨h1,h2⟩:=W7 hn;rw[cj ae]at h2;have h1:=j6 h1;exact fn (S7.t_sort5 (cj ae) (by omega) h2) (by simp only[kE,Y6,bZ,cB,cj ae]<;>rfl))
theorem Ah: ∀x∈L25,cA cx Om x:=by exact cS (cS (cS (cS (cS (cS (cS (cS (cS (cS (cS (λx hx=>(by cases hx)) vW) vT) uR) pD) rS) HB) vQ) sT) yw) Jo) qJ
theorem nG: ∀x∈ZC,cA cx Om x:=eF dO Ah
theorem vM:cA cx Om kG:=
 rn (T:=S9.T_r3fit) nG (by kernel_rfl) (by kernel_rfl) (λI ae hn=>by exact fn (S9.c_r3fit (cj ae)) (by simp only[kG,Y6,bZ,cB,cj ae]<;>rfl))
theorem JJ:cA cx Om qP:=
 rn (T:=S9.T_rOf) nG (by kernel_rfl) (by kernel_rfl) (λI ae hn=>by exact fn (S9.c_rOf (cj ae)) (by simp only[qP,Y6,bZ,cB,cj ae]<;>rfl))
theorem Cp: ∀x∈L26,cA cx Om x:=by exact cS (cS (λx hx=>(by cases hx)) JJ) vM
theorem mP: ∀x∈H27,cA cx Om x:=eF nG Cp
theorem uW:cA cx Om kC:=
 rn (T:=S9.T_r3Sum) mP (by kernel_rfl) (by kernel_rfl) (λI ae hn=>by have hn:decide (((I.w 0).L.length:Int)<=100)=true:=hn;have hn:=j6 hn;exact fn (S9.c_r3Sum (cj ae) (by omega)) (by simp only[kC,Y6,bZ,cB,cj ae]<;>rfl))
theorem Gy:cA cx Om qY:=
 rn (T:=S9.T_sOf) mP (by kernel_rfl) (by kernel_rfl) (λI ae hn=>by have hn:decide (((I.w 1).L.length:Int)<=100)=true:=hn;have hn:=j6 hn;exact fn (S9.c_sOf (cj ae) (by omega)) (by simp only[qY,Y6,bZ,cB,cj ae]<;>rfl))
theorem zO: ∀x∈L27,cA cx Om x:=by exact cS (cS (λx hx=>(by cases hx)) Gy) uW
theorem nE: ∀x∈ZI,cA cx Om x:=eF mP zO
theorem Bo:cA cx Om oi:=
 rn (T:=S9.T_rAll) nE (by kernel_rfl) (by kernel_rfl) (λI ae hn=>by have hn:decide (((I.w 0).L.length:Int)<=100)=true:=hn;have hn:=j6 hn;exact fn (S9.c_rAll (cj ae) (by omega)) (by simp only[oi,Y6,bZ,cB,cj ae]<;>rfl))
theorem sO:cA cx Om iF:=
 rn (T:=S9.T_rSpans) nE (by kernel_rfl) (by kernel_rfl) (λI ae hn=>by have hn:decide (((I.w 4).L.length:Int)<=100)=true:=hn;have hn:=j6 hn;exact fn (S9.c_rSpans (cj ae) (by omega)) (by simp only[iF,Y6,bZ,cB,cj ae]<;>rfl))
theorem BH: ∀x∈L28,cA cx Om x:=by exact cS (cS (λx hx=>(by cases hx)) sO) Bo
theorem qT: ∀x∈H29,cA cx Om x:=eF nE BH
theorem vV:cA cx Om kD:=
 rn (T:=S9.T_rRows) qT (by kernel_rfl) (by kernel_rfl) (λI ae hn=>by have hn:(decide (((I.w 4).L.length:Int)<=100)&&(I.f 840 [I.w 0,I.w 1,I.w 2,I.w 3,I.w 4]).Z)=true:=hn;have h2:=(W7 hn).2;rw[cj ae]at h2;exact fn (S9.c_rRows (cj ae) h2) (by simp only[kD,Y6,bZ,cB,cj ae]<;>rfl))
theorem CM: ∀x∈L29,cA cx Om x:=by exact cS (λx hx=>(by cases hx)) vV
theorem Ce: ∀x∈H30,cA cx Om x:=eF qT CM
theorem CL: ∀x∈L30,cA cx Om x:=by exactλx hx=>(by cases hx)
theorem Ba: ∀x∈H31,cA cx Om x:=eF Ce CL
theorem Bc: ∀x∈L31,cA cx Om x:=by exactλx hx=>(by cases hx)
theorem fL: ∀x∈H32,cA cx Om x:=eF Ba Bc
theorem vj:cA cx Om im:=
 rn (T:=Rg) fL (by kernel_rfl) (by kernel_rfl) (λI ae hn=>by have hn:=hn;simp only[im,dB,bZ,Y6,cB,a63,a01,a41,aT0,a37,aa0,a29,decide_eq_true_eq,j8,k7]at hn;exact(dz3 (cj ae) (by omega)).trans (by simp only[im,Y6,bZ,cB,cj ae,a01,a41]))
theorem mA:cA cx Om fN:=
 rn (T:=bh5) fL (by kernel_rfl) (by kernel_rfl) (λI ae hn=>by have hn:(decide (((I.w 0).L.length:Int)<=1000)&&(I.f 433 [I.w 0]).Z)=true:=hn;obtain⟨h1,h2⟩:=W7 hn;rw[cj ae]at h2;exact(ch8 (cj ae) (by have:=j6 h1;omega) h2).trans (by simp only[fN,Y6,bZ,cj ae]))
theorem sb:cA cx Om gf:=
 rn (T:=Xt) fL (by kernel_rfl) (by kernel_rfl) (λI ae hn=>by have hn:=hn;simp only[gf,dB,bZ,Y6,cB,a63,a01,a41,aT0,a37,aa0,a29,decide_eq_true_eq,j8,k7]at hn;exact(d61 (cj ae) (by omega)).trans (by simp only[gf,Y6,bZ,cB,cj ae,a01,a41]))
theorem Cr:cA cx Om kw:=
 rn (T:=Wc) fL (by kernel_rfl) (by kernel_rfl) (λI ae hn=>by have hn:=hn;simp only[kw,dB,bZ,Y6,cB,a63,a01,a41,aT0,a37,aa0,a29,decide_eq_true_eq,j8,k7]at hn;exact(dV1 (cj ae) (by omega)).trans (by simp only[kw,Y6,bZ,cB,cj ae,a01,a41]))
theorem Ad:cA cx Om oe:=
 rn (T:=Rb) fL (by kernel_rfl) (by kernel_rfl) (λI ae hn=>by exact(dU8).trans (by simp only[oe,Y6,bZ,cB,cj ae,a01,a41]))
theorem sh:cA cx Om nA:=
 rn (T:=Tr) fL (by kernel_rfl) (by kernel_rfl) (λI ae hn=>by exact(dU9).trans (by simp only[nA,Y6,bZ,cB,cj ae,a01,a41]))
theorem zT: ∀x∈ZP,cA cx Om x:=by exact cS (cS (cS (cS (cS (cS (λx hx=>(by cases hx)) sh) Ad) Cr) sb) mA) vj
theorem qR: ∀x∈H33,cA cx Om x:=eF fL zT
theorem pd:cA cx Om fk:=
 rn (T:=Uk) qR (by kernel_rfl) (by kernel_rfl) (λI ae hn=>by have hn:=hn;simp only[fk,dB,bZ,Y6,cB,a63,a01,a41,aT0,a37,aa0,a29,decide_eq_true_eq,j8,k7]at hn;exact(cL2 (cj ae) (by omega)).trans (by simp only[fk,Y6,bZ,cB,cj ae,a01,a41]))
def rJ:Go.Shelf.Ren:=⟨λ|6=>85|15=>106|14=>105|28=>140|29=>141|20=>132|21=>133|22=>134|23=>135|24=>136|25=>137|26=>138|27=>139|46=>160|47=>161|48=>162|49=>163|50=>164|57=>180|n=>n,λ|22=>47|24=>71|25=>167|3=>3|39=>188|0=>0|53=>220|55=>27|4=>4|46=>214|45=>213|50=>101|5=>5|9=>9|66=>245|70=>248|76=>268|77=>269|n=>n,λ|n=>n⟩
theorem pC:Go.Proofs.SlLaysF0.n6 Tryz.prog rJ:={
 mixed:=by kernel_rfl
 f6:=⟨Tryz.f85.name,by decide,Tryz.func85.trans (congrArg some (by kernel_rfl))⟩
 f14:=⟨Tryz.f105.name,by decide,Tryz.func105.trans (congrArg some (by kernel_rfl))⟩
 f15:=Tryz.func106.trans (congrArg some (by kernel_rfl))
 f20:=⟨Tryz.f132.name,by decide,Tryz.func132.trans (congrArg some (by kernel_rfl))⟩
 f21:=⟨Tryz.f133.name,by decide,Tryz.func133.trans (congrArg some (by kernel_rfl))⟩
 f22:=⟨Tryz.f134.name,by decide,Tryz.func134.trans (congrArg some (by kernel_rfl))⟩
 f23:=⟨Tryz.f135.name,by decide,Tryz.func135.trans (congrArg some (by kernel_rfl))⟩
 f24:=⟨Tryz.f136.name,by decide,Tryz.func136.trans (congrArg some (by kernel_rfl))⟩
 f25:=⟨Tryz.f137.name,by decide,Tryz.func137.trans (congrArg some (by kernel_rfl))⟩
 f26:=⟨Tryz.f138.name,by decide,Tryz.func138.trans (congrArg some (by kernel_rfl))⟩
 f27:=⟨Tryz.f139.name,by decide,Tryz.func139.trans (congrArg some (by kernel_rfl))⟩
 f28:=Tryz.func140.trans (congrArg some (by kernel_rfl))
 f29:=Tryz.func141.trans (congrArg some (by kernel_rfl))
 f46:=⟨Tryz.f160.name,by decide,Tryz.func160.trans (congrArg some (by kernel_rfl))⟩
 f47:=Tryz.func161.trans (congrArg some (by kernel_rfl))
 f48:=Tryz.func162.trans (congrArg some (by kernel_rfl))
 f49:=⟨Tryz.f163.name,by decide,Tryz.func163.trans (congrArg some (by kernel_rfl))⟩
 f50:=⟨Tryz.f164.name,by decide,Tryz.func164.trans (congrArg some (by kernel_rfl))⟩
 f57:=⟨Tryz.f180.name,by decide,Tryz.func180.trans (congrArg some (by kernel_rfl))⟩
 t0:=Tryz.underlying0
 a0:=Tryz.isAgg0
 z0:=Tryz.sizeOf0
 v0:=Tryz.zeroValue0
 t3:=Tryz.underlying3
 a3:=Tryz.isAgg3
 z3:=Tryz.sizeOf3
 v3:=Tryz.zeroValue3
 t4:=Tryz.underlying4
 a4:=Tryz.isAgg4
 z4:=Tryz.sizeOf4
 v4:=Tryz.zeroValue4
 t5:=Tryz.underlying5
 a5:=Tryz.isAgg5
 z5:=Tryz.sizeOf5
 v5:=Tryz.zeroValue5
 t9:=Tryz.underlying9
 a9:=Tryz.isAgg9
 z9:=Tryz.sizeOf9
 v9:=Tryz.zeroValue9
 t22:=Tryz.underlying47
 a22:=Tryz.isAgg47
 z22:=Tryz.sizeOf47
 v22:=Tryz.zeroValue47
 t25:=Tryz.underlying167
 a25:=Tryz.isAgg167
 z25:=Tryz.sizeOf167
 v25:=Tryz.zeroValue167
 t39:=Tryz.underlying188
 a39:=Tryz.isAgg188
 z39:=Tryz.sizeOf188
 v39:=Tryz.zeroValue188
 t45:=Tryz.underlying213
 a45:=Tryz.isAgg213
 z45:=Tryz.sizeOf213
 v45:=Tryz.zeroValue213
 t46:=Tryz.underlying214
 a46:=Tryz.isAgg214
 z46:=Tryz.sizeOf214
 v46:=Tryz.zeroValue214
 t50:=Tryz.underlying101
 a50:=Tryz.isAgg101
 z50:=Tryz.sizeOf101
 v50:=Tryz.zeroValue101
 t53:=Tryz.underlying220
 a53:=Tryz.isAgg220
 z53:=Tryz.sizeOf220
 v53:=Tryz.zeroValue220
 t55:=Tryz.underlying27
 a55:=Tryz.isAgg27
 z55:=Tryz.sizeOf27
 v55:=Tryz.zeroValue27
 t66:=Tryz.underlying245
 a66:=Tryz.isAgg245
 z66:=Tryz.sizeOf245
 v66:=Tryz.zeroValue245
 t70:=Tryz.underlying248
 a70:=Tryz.isAgg248
 z70:=Tryz.sizeOf248
 v70:=Tryz.zeroValue248
 t76:=Tryz.underlying268
 a76:=Tryz.isAgg268
 z76:=Tryz.sizeOf268
 v76:=Tryz.zeroValue268
 t77:=Tryz.underlying269
 a77:=Tryz.isAgg269
 z77:=Tryz.sizeOf269
 v77:=Tryz.zeroValue269}
theorem BU:GS Tryz.prog 86 [.str,.int .i64,.int .i64,.bool,.int .i64,.int .i64,.int .i64,.int .i64] vw:=
 da3 (E:=cx) dz qv sh (x:= .Q 206 [aN,aO,aS,bh,bp,bt]) (h2:=Heap.empty) (by kernel_rfl) (λI ae a b ha hb=>by have a0:I.w 0=a.L.getD 0 default:=ha 0 (by decide);have a1:I.w 1=a.L.getD 1 default:=ha 1 (by decide);have a2:I.w 2=a.L.getD 2 default:=ha 2 (by decide);have b0:I.w 8=b.L.getD 0 default:=hb 0 (by decide);have b1:I.w 9=b.L.getD 1 default:=hb 1 (by decide);have b2:I.w 10=b.L.getD 2 default:=hb 2 (by decide);show(I.f 206 [I.w 0,I.w 1,I.w 2,I.w 8,I.w 9,I.w 10]).I=_;rw[cj ae,a0,a1,a2,b0,b1,b2];rfl)
theorem aaq:cA cx Om rL:=
 (Jl (E:=cx) dz (nv:=2) (by kernel_rfl) (cz2 (E:=cx) pC (f:=85) rfl (g:=86) (sig:=[.str,.int .i64,.int .i64,.bool,.int .i64,.int .i64,.int .i64,.int .i64]) (e:=71) (id:=211) (cf:=vw) Tryz.isAgg71 Tryz.sizeOf71 cz6 (enters_of Tryz.func86 (by kernel_rfl) rfl) BU (λI ae l=>by rw[cj ae];rfl) (by kernel_rfl)):cA cx Om ⟨85,2,CW 86 71 [.str,.int .i64,.int .i64,.bool,.int .i64,.int .i64,.int .i64,.int .i64] 211⟩)
theorem aad: ∀x∈L33,cA cx Om x:=by exact cS (cS (λx hx=>(by cases hx)) aaq) pd
theorem ny: ∀x∈H34,cA cx Om x:=eF qR aad
theorem zR:cA cx Om kg:=
 rn (T:=Rr) ny (by kernel_rfl) (by kernel_rfl) (λI ae hn=>by have hn:=hn;simp only[kg,dB,bZ,Y6,cB,a63,a01,a41,aT0,a37,aa0,a29,decide_eq_true_eq,j8,k7]at hn;have h1:=hn.1;have h2:=hn.2;exact(dV6 (cj ae) (by omega) (by omega)).trans (by simp only[kg,Y6,bZ,cB,cj ae,a01,a41]))
theorem vG:cA cx Om iz:=
 rn (T:=WH) ny (by kernel_rfl) (by kernel_rfl) (λI ae hn=>by have hn:=hn;simp only[iz,dB,bZ,Y6,cB,a63,a01,a41,aT0,a37,aa0,a29,decide_eq_true_eq,j8,k7]at hn;have h1:=hn.1;have h2:=hn.2;exact(dB0 (cj ae) (by omega) (by omega)).trans (by simp only[iz,Y6,bZ,cB,cj ae,a01,a41]))
theorem zJ: ∀x∈L34,cA cx Om x:=by exact cS (cS (λx hx=>(by cases hx)) vG) zR
theorem eK: ∀x∈H35,cA cx Om x:=eF ny zJ
theorem As:cA cx Om ni:=
 rn (T:=S9.UT_late) eK (by kernel_rfl) (by kernel_rfl) (λI ae hn=>by exact fn (S9.tu_late) (by simp only[ni,Y6,bZ,cB,cj ae]<;>rfl))
theorem wk:cA cx Om ky:=
 rn (T:=S9.UT_rLate) eK (by kernel_rfl) (by kernel_rfl) (λI ae hn=>by exact fn (S9.tu_rLate) (by simp only[ky,Y6,bZ,cB,cj ae]<;>rfl))
theorem sN:cA cx Om iK:=
 rn (T:=S9.UT_cRight) eK (by kernel_rfl) (by kernel_rfl) (λI ae hn=>by exact fn (S9.tu_cRight (λa=>cj ae 700 a)) (by simp only[iK,Y6,bZ,cB,cj ae]<;>rfl))
theorem pq:cA cx Om gz:=
 rn (T:=S9.UT_rCRight) eK (by kernel_rfl) (by kernel_rfl) (λI ae hn=>by exact fn (S9.tu_rCRight (λa=>cj ae 700 a)) (by simp only[gz,Y6,bZ,cB,cj ae]<;>rfl))
theorem aaf:cA cx Om nX:=
 rn (T:=S9.UT_wNew) eK (by kernel_rfl) (by kernel_rfl) (λI ae hn=>by exact fn (S9.tu_wNew) (by simp only[nX,Y6,bZ,cB,cj ae]<;>rfl))
theorem Hs:cA cx Om qz:=
 rn (T:=S9.UT_adv) eK (by kernel_rfl) (by kernel_rfl) (λI ae hn=>by exact fn (S9.tu_adv) (by simp only[qz,Y6,bZ,cB,cj ae]<;>rfl))
theorem wq:cA cx Om jZ:=
 rn (T:=S9.UT_taken) eK (by kernel_rfl) (by kernel_rfl) (λI ae hn=>by have hn:(decide (((I.w 9).L.length:Int)<=1000000)&&(I.f 948 [I.w 9]).Z)=true:=hn;obtain⟨h1,h2⟩:=W7 hn;rw[cj ae]at h2;have h1:=j6 h1;exact fn (S9.tu_taken h2 (by omega)) (by simp only[jZ,Y6,bZ,cB,cj ae]<;>rfl))
theorem HD:cA cx Om tc:=
 rn (T:=S9.UT_few) eK (by kernel_rfl) (by kernel_rfl) (λI ae hn=>by exact fn (S9.tu_few (λa=>cj ae 960 a)) (by simp only[tc,Y6,bZ,cB,cj ae]<;>rfl))
theorem zz: ∀x∈L35,cA cx Om x:=by exact cS (cS (cS (cS (cS (cS (cS (cS (λx hx=>(by cases hx)) HD) wq) Hs) aaf) pq) sN) wk) As
theorem mQ: ∀x∈H36,cA cx Om x:=eF eK zz
theorem aab:cA cx Om qu:=
 rn (T:=S9.UT_cut) mQ (by kernel_rfl) (by kernel_rfl) (λI ae hn=>by have hn:(I.f 937 [I.w 10,I.w 11]).Z=true:=hn;rw[cj ae]at hn;exact fn (S9.tu_cut hn) (by simp only[qu,Y6,bZ,cB,cj ae]<;>rfl))
theorem zA:cA cx Om nf:=
 rn (T:=S9.UT_rCut) mQ (by kernel_rfl) (by kernel_rfl) (λI ae hn=>by have hn:(I.f 937 [I.w 7,I.w 8]).Z=true:=hn;rw[cj ae]at hn;exact fn (S9.tu_rCut hn) (by simp only[nf,Y6,bZ,cB,cj ae]<;>rfl))
theorem yk: ∀x∈L36,cA cx Om x:=by exact cS (cS (λx hx=>(by cases hx)) zA) aab
theorem tj: ∀x∈H37,cA cx Om x:=eF mQ yk
theorem BK:cA cx Om nS:=
 rn (T:=S9.UT_pend) tj (by kernel_rfl) (by kernel_rfl) (λI ae hn=>by have hn:(I.f 953 [I.w 0,I.w 1,I.w 2,I.w 3,I.w 4,I.w 5,I.w 6,I.w 7,I.w 8,I.w 9,I.w 10]).Z=true:=hn;rw[cj ae]at hn;exact fn (S9.tu_pend (cj ae) hn) (by simp only[nS,Y6,bZ,cB,cj ae]<;>rfl))
theorem aai: ∀x∈L37,cA cx Om x:=by exact cS (λx hx=>(by cases hx)) BK
theorem qU: ∀x∈H38,cA cx Om x:=eF tj aai
theorem BW:cA cx Om nK:=
 rn (T:=S9.UT_tryE) qU (by kernel_rfl) (by kernel_rfl) (λI ae hn=>by have hn:(I.f 955 [I.w 0,I.w 1,I.w 2,I.w 3,I.w 4,I.w 5,I.w 6,I.w 7,I.w 8,I.w 9,I.w 10,I.w 11,I.w 12,I.w 13,I.w 14,I.w 15]).Z=true:=hn;rw[cj ae]at hn;exact fn (S9.tu_tryE (cj ae) hn) (by simp only[nK,Y6,bZ,cB,cj ae]<;>rfl))
theorem AZ: ∀x∈L38,cA cx Om x:=by exact cS (λx hx=>(by cases hx)) BW
theorem qZ: ∀x∈H39,cA cx Om x:=eF qU AZ
theorem yA:cA cx Om nY:=
 rn (T:=S9.UT_rChg) qZ (by kernel_rfl) (by kernel_rfl) (λI ae hn=>by have hn:(I.f 957 [I.w 0,I.w 1,I.w 2,I.w 3,I.w 4,I.w 5,I.w 6,I.w 7,I.w 8]).Z=true:=hn;rw[cj ae]at hn;exact fn (S9.tu_rChg (cj ae) hn) (by simp only[nY,Y6,bZ,cB,cj ae]<;>rfl))
theorem yo: ∀x∈L39,cA cx Om x:=by exact cS (λx hx=>(by cases hx)) yA
theorem qL: ∀x∈H40,cA cx Om x:=eF qZ yo
theorem vF:cA cx Om kf:=
 rn (T:=S9.UT_rTryE) qL (by kernel_rfl) (by kernel_rfl) (λI ae hn=>by have hn:(I.f 955 [I.w 0,I.w 1,I.w 2,I.w 3,I.w 4,I.w 5,I.w 6,I.w 7,I.w 8,I.w 9,I.w 10,I.w 11,I.w 12]).Z=true:=hn;rw[cj ae]at hn;exact fn (S9.tu_rTryE (cj ae) hn) (by simp only[kf,Y6,bZ,cB,cj ae]<;>rfl))
theorem Ap: ∀x∈L40,cA cx Om x:=by exact cS (λx hx=>(by cases hx)) vF
theorem th: ∀x∈H41,cA cx Om x:=eF qL Ap
theorem Sr:cA cx Om AA:=
 rn (T:=S9.UT_is) th (by kernel_rfl) (by kernel_rfl) (λI ae hn=>by have hn:(I.f 958 [I.w 0,I.w 1,I.w 2,I.w 3,I.w 4,I.w 5,I.w 6,I.w 7,I.w 8,I.w 9,I.w 10,I.w 11,I.w 12,I.w 13,I.w 14,I.w 15,I.w 16,I.w 17,I.w 18,I.w 19]).Z=true:=hn;rw[cj ae]at hn;exact fn (S9.tu_is (cj ae) hn) (by simp only[AA,Y6,bZ,cB,cj ae]<;>rfl))
theorem aam: ∀x∈L41,cA cx Om x:=by exact cS (λx hx=>(by cases hx)) Sr
theorem Cq: ∀x∈H42,cA cx Om x:=eF th aam
theorem Ib:cA cx Om dU:=
 rn (T:=S9.UT_takes) Cq (by kernel_rfl) (by kernel_rfl) (λI ae hn=>by have hn:(I.f 959 [I.w 0,I.w 1,I.w 2,I.w 3,I.w 4,I.w 5,I.w 6,I.w 7]).Z=true:=hn;rw[cj ae]at hn;exact fn (S9.tu_takes (cj ae) hn) (by simp only[dU,Y6,bZ,cB,cj ae]<;>rfl))
