import Derived.Test.YtppalpflejcjeaaGreatMMx1
namespace Go.Proofs.W
open Go Go.Gm
set_option linter.unusedVariables false
end Go.Proofs.W
