import Derived.Test.YtgeohopencabkaaGreatEG3
import Derived.Test.YtgeohopencabkaaGreatEO1
set_option linter.all false
namespace Go.Ev.S9
open Go Go.Ev
end Go.Ev.S9
namespace Go.Ev
open Go
end Go.Ev
namespace Go.Ev.S9
open Go Go.Ev
def fe_x:XOk (FV F0):=dS5 wj
def dU2(v:Val)(h:(F0 431 [v]).Z=true): ∃l',F0 490 [v]= .A l'/\l'.Perm v.L/\ ∀r∈l',X8 r=r:=by obtain⟨h1,h2⟩:=Xy h;have hp:=S7.srt_perm false v.L;exact⟨S7.srt false v.L,rfl,hp,λr hr=>h2 r (hp.mem_iff.1 hr)⟩
section
variable{I:Opq}(hf: ∀i a,I.f i a=F i a)
include hf
def c_fired(hn:(I.w 4).L.length<=400)(h431:(F 431 [I.w 4]).Z=true)(h491:(F 491 [I.w 4]).Z=true):W6 T_fired I=some (0,[F 726 [I.w 4,I.w 5]]):=
 dw8 (X:=F0) (λa=>hf 490 a) (λv h=>dU2 v (by rw[hf]at h;exact h)) (λa=>hf 763 a) (λa=>hf 764 a) hn (by grind) (by grind)
