import Derived.Test.YtppalpflejcjeaaGreatQGc2
import Derived.Deep.RegionLaw
import Derived.Deep.LoopGhost
import Derived.Lib.SlicesDelete
import Derived.Sort.WalkB12
namespace Go.Gm
open Go Go.Proofs Go.RowKit Go.Shelf Go.Lib
set_option linter.unusedVariables false
section
variable {P : Program} {ρ : Ren}
set_option maxHeartbeats 4000000 in
set_option maxRecDepth 1000000 in
end
end Go.Gm
