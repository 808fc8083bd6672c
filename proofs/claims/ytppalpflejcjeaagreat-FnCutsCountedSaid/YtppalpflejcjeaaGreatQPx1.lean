import Derived.Test.YtppalpflejcjeaaGreatQMx1
namespace Go.Proofs.W
open Go Go.Gm
set_option linter.unusedVariables false
abbrev M4 := Int × Int × Int × Int
def mul4 (m k : M4) : M4 := (m.1 * k.1 + m.2.1 * k.2.2.1, m.1 * k.2.1 + m.2.1 * k.2.2.2, m.2.2.1 * k.1 + m.2.2.2 * k.2.2.1, m.2.2.1 * k.2.1 + m.2.2.2 * k.2.2.2)
def one4 : M4 := (1, 0, 0, 1)
end Go.Proofs.W
