import Derived.Test.YtpkbjabnchfgjaaGreatDoorWGc7
import Derived.Shelf.Strings.SlTrimAscii
namespace Go.Gm
open Go Go.Proofs Go.RowKit Go.Shelf Go.Lib
set_option linter.unusedVariables false
theorem Step.below {w w' : World} {ρ : Rho} {R : Tab} (hm : Mem w ρ R) (hb : Below w.heap.size w w') : Step w ρ R w' ρ R :=
 Step.old hm (fun b h => hb.block b h) hb.size hb.os hb.output
end Go.Gm
