import Derived.Test.YtdhepaehegnfdaaGreatDoorE30
import Derived.Below
set_option linter.unusedVariables false
set_option linter.unusedSimpArgs false
namespace Go.Ev
open Go
variable {E : Env} {ω : Opq}
end Go.Ev
