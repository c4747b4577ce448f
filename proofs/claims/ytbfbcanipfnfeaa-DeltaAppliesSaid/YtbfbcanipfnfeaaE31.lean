import Derived.Test.YtbfbcanipfnfeaaE30
import Derived.Below
set_option linter.unusedVariables false
set_option linter.unusedSimpArgs false
namespace Go.Ev
open Go
variable{E:Env}{ω:Opq}
theorem HR.start(w:World):HR (fun _=>none) ω (· <w.heap.size) w Heap.empty w:=
 ⟨fun b x L _ hb=>(by cases hb),fun b b' x x' L L' _ _ hb=>(by cases hb),fun _ _=>rfl,fun b _=>Heap.get_empty b,fun b L hb=>(by cases hb),fun i hi=>hi,fun i _=>rfl,
  fun b x L _ _ hb=>(by cases hb),b9 _,rfl,rfl,rfl,b9 _⟩
end Go.Ev
