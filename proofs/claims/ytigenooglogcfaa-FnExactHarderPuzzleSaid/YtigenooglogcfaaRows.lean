/-
  No cell of these rows narrows 'for every input' (looked for: loops, veiled, ifaces, maps, wideKeys, modest, calm, conditions, laid).
  DERIVED. THE GIVEN ROWS OF THIS SEAT. 9 by the template 'for every input the law returns true; each argument reads behind the call as it read before'; 0 by the template 'total and deterministic' (their statements: YtigenooglogcfaaTotals.lean).
  GIVEN WITH THE SEED: the statements are not yours to turn. If you find one false, say at which input.
  Laid BY PROGRAM, IN A SANDBOX (cutbox-rows.mjs): the forced cells as the released guide's own fill.sh prints them over the translation 7182f7c5a1e77801… (all of the seat's roots in one cut). By AI agents, Wed Nov 11 2026. No macro, syntax, notation, axiom, sorry.
-/
import Derived.Test.YtigenooglogcfaaChecked
import GoSem.Claim
import GoSem.ClaimJoined
import GoSem.ClaimMapViews
import Derived.JoinedTies
import Derived.KernelRfl
namespace Go.Proofs.Ytigenooglogcfaa
/- THE CELL 'sum', in the pinned program and in every row, IS THE sha256 OF THE DUMP (.gsa) THAT YtigenooglogcfaaProg.lean LOADS. Nothing in Lean hashes anything: it is a label: what it is worth is what the hold of that sum in a sandbox is worth. -/
noncomputable def Try.pinned : Pinned := { name := "ytigenooglogcfaa", sum := "7182f7c5a1e778014052b17784f680edc34dffbd1d7cdd021b474a98b393a344", checked := Try.checked }
namespace Rows
def none {H : Type} : Left H := { results := [], args := [] }

/-- 'laws.FnExactIsDesk': WHATEVER THE INPUT: true; the input reads as it did. -/
def fnExactIsDeskSpec : ChangeSpec := { name := "fnExactIsDesk", fn := fun _ => fun
  | [d] => { results := [.lit (.bool true)], args := [d] }
  | _ => none }
def fnExactIsDeskRow : OpenClaim := { program := "ytigenooglogcfaa", sum := "7182f7c5a1e778014052b17784f680edc34dffbd1d7cdd021b474a98b393a344", func := "loop.example/g01236/laws.FnExactIsDesk", spec := "fnExactIsDesk", unfollowed := true, recurses := true, apart := false }
def FnExactIsDeskSaid : Prop := fnExactIsDeskRow.holds Try.pinned (OpenSpec.ofChange fnExactIsDeskSpec)

/-- ITS FALSE NEIGHBOUR: 'it returns false'. Refute it at one input. -/
def fnExactIsDeskWrong : ChangeSpec := { name := "fnExactIsDesk", fn := fun _ => fun
  | [d] => { results := [.lit (.bool false)], args := [d] }
  | _ => none }
def FnExactIsDeskWrongFalsely : Prop := fnExactIsDeskRow.holds Try.pinned (OpenSpec.ofChange fnExactIsDeskWrong)

/-- 'laws.FnExactIsSolution': WHATEVER THE INPUT: true; the input reads as it did. -/
def fnExactIsSolutionSpec : ChangeSpec := { name := "fnExactIsSolution", fn := fun _ => fun
  | [d1, d2] => { results := [.lit (.bool true)], args := [d1, d2] }
  | _ => none }
def fnExactIsSolutionRow : OpenClaim := { program := "ytigenooglogcfaa", sum := "7182f7c5a1e778014052b17784f680edc34dffbd1d7cdd021b474a98b393a344", func := "loop.example/g01236/laws.FnExactIsSolution", spec := "fnExactIsSolution", unfollowed := true, recurses := true, apart := false }
def FnExactIsSolutionSaid : Prop := fnExactIsSolutionRow.holds Try.pinned (OpenSpec.ofChange fnExactIsSolutionSpec)

/-- ITS FALSE NEIGHBOUR: 'it returns false'. Refute it at one input. -/
def fnExactIsSolutionWrong : ChangeSpec := { name := "fnExactIsSolution", fn := fun _ => fun
  | [d1, d2] => { results := [.lit (.bool false)], args := [d1, d2] }
  | _ => none }
def FnExactIsSolutionWrongFalsely : Prop := fnExactIsSolutionRow.holds Try.pinned (OpenSpec.ofChange fnExactIsSolutionWrong)

/-- 'laws.FnExactCountSolutions': WHATEVER THE INPUT: true; the input reads as it did. -/
def fnExactCountSolutionsSpec : ChangeSpec := { name := "fnExactCountSolutions", fn := fun _ => fun
  | [d] => { results := [.lit (.bool true)], args := [d] }
  | _ => none }
def fnExactCountSolutionsRow : OpenClaim := { program := "ytigenooglogcfaa", sum := "7182f7c5a1e778014052b17784f680edc34dffbd1d7cdd021b474a98b393a344", func := "loop.example/g01236/laws.FnExactCountSolutions", spec := "fnExactCountSolutions", unfollowed := true, recurses := true, apart := false }
def FnExactCountSolutionsSaid : Prop := fnExactCountSolutionsRow.holds Try.pinned (OpenSpec.ofChange fnExactCountSolutionsSpec)

/-- ITS FALSE NEIGHBOUR: 'it returns false'. Refute it at one input. -/
def fnExactCountSolutionsWrong : ChangeSpec := { name := "fnExactCountSolutions", fn := fun _ => fun
  | [d] => { results := [.lit (.bool false)], args := [d] }
  | _ => none }
def FnExactCountSolutionsWrongFalsely : Prop := fnExactCountSolutionsRow.holds Try.pinned (OpenSpec.ofChange fnExactCountSolutionsWrong)

/-- 'laws.FnExactFirstSolution': WHATEVER THE INPUT: true; the input reads as it did. -/
def fnExactFirstSolutionSpec : ChangeSpec := { name := "fnExactFirstSolution", fn := fun _ => fun
  | [d] => { results := [.lit (.bool true)], args := [d] }
  | _ => none }
def fnExactFirstSolutionRow : OpenClaim := { program := "ytigenooglogcfaa", sum := "7182f7c5a1e778014052b17784f680edc34dffbd1d7cdd021b474a98b393a344", func := "loop.example/g01236/laws.FnExactFirstSolution", spec := "fnExactFirstSolution", unfollowed := true, recurses := true, apart := false }
def FnExactFirstSolutionSaid : Prop := fnExactFirstSolutionRow.holds Try.pinned (OpenSpec.ofChange fnExactFirstSolutionSpec)

/-- ITS FALSE NEIGHBOUR: 'it returns false'. Refute it at one input. -/
def fnExactFirstSolutionWrong : ChangeSpec := { name := "fnExactFirstSolution", fn := fun _ => fun
  | [d] => { results := [.lit (.bool false)], args := [d] }
  | _ => none }
def FnExactFirstSolutionWrongFalsely : Prop := fnExactFirstSolutionRow.holds Try.pinned (OpenSpec.ofChange fnExactFirstSolutionWrong)

/-- 'laws.FnExactSolutions': WHATEVER THE INPUT: true; the input reads as it did. -/
def fnExactSolutionsSpec : ChangeSpec := { name := "fnExactSolutions", fn := fun _ => fun
  | [d] => { results := [.lit (.bool true)], args := [d] }
  | _ => none }
def fnExactSolutionsRow : OpenClaim := { program := "ytigenooglogcfaa", sum := "7182f7c5a1e778014052b17784f680edc34dffbd1d7cdd021b474a98b393a344", func := "loop.example/g01236/laws.FnExactSolutions", spec := "fnExactSolutions", unfollowed := true, recurses := true, apart := false }
def FnExactSolutionsSaid : Prop := fnExactSolutionsRow.holds Try.pinned (OpenSpec.ofChange fnExactSolutionsSpec)

/-- ITS FALSE NEIGHBOUR: 'it returns false'. Refute it at one input. -/
def fnExactSolutionsWrong : ChangeSpec := { name := "fnExactSolutions", fn := fun _ => fun
  | [d] => { results := [.lit (.bool false)], args := [d] }
  | _ => none }
def FnExactSolutionsWrongFalsely : Prop := fnExactSolutionsRow.holds Try.pinned (OpenSpec.ofChange fnExactSolutionsWrong)

/-- 'laws.FnExactHarderPuzzle': WHATEVER THE INPUT: true; the input reads as it did. -/
def fnExactHarderPuzzleSpec : ChangeSpec := { name := "fnExactHarderPuzzle", fn := fun _ => fun
  | [d] => { results := [.lit (.bool true)], args := [d] }
  | _ => none }
def fnExactHarderPuzzleRow : OpenClaim := { program := "ytigenooglogcfaa", sum := "7182f7c5a1e778014052b17784f680edc34dffbd1d7cdd021b474a98b393a344", func := "loop.example/g01236/laws.FnExactHarderPuzzle", spec := "fnExactHarderPuzzle", unfollowed := true, recurses := true, apart := false }
def FnExactHarderPuzzleSaid : Prop := fnExactHarderPuzzleRow.holds Try.pinned (OpenSpec.ofChange fnExactHarderPuzzleSpec)

/-- ITS FALSE NEIGHBOUR: 'it returns false'. Refute it at one input. -/
def fnExactHarderPuzzleWrong : ChangeSpec := { name := "fnExactHarderPuzzle", fn := fun _ => fun
  | [d] => { results := [.lit (.bool false)], args := [d] }
  | _ => none }
def FnExactHarderPuzzleWrongFalsely : Prop := fnExactHarderPuzzleRow.holds Try.pinned (OpenSpec.ofChange fnExactHarderPuzzleWrong)

/-- 'laws.FnExactSureNumbers': WHATEVER THE INPUT: true; the input reads as it did. -/
def fnExactSureNumbersSpec : ChangeSpec := { name := "fnExactSureNumbers", fn := fun _ => fun
  | [d] => { results := [.lit (.bool true)], args := [d] }
  | _ => none }
def fnExactSureNumbersRow : OpenClaim := { program := "ytigenooglogcfaa", sum := "7182f7c5a1e778014052b17784f680edc34dffbd1d7cdd021b474a98b393a344", func := "loop.example/g01236/laws.FnExactSureNumbers", spec := "fnExactSureNumbers", unfollowed := true, recurses := true, apart := false }
def FnExactSureNumbersSaid : Prop := fnExactSureNumbersRow.holds Try.pinned (OpenSpec.ofChange fnExactSureNumbersSpec)

/-- ITS FALSE NEIGHBOUR: 'it returns false'. Refute it at one input. -/
def fnExactSureNumbersWrong : ChangeSpec := { name := "fnExactSureNumbers", fn := fun _ => fun
  | [d] => { results := [.lit (.bool false)], args := [d] }
  | _ => none }
def FnExactSureNumbersWrongFalsely : Prop := fnExactSureNumbersRow.holds Try.pinned (OpenSpec.ofChange fnExactSureNumbersWrong)

/-- 'laws.FnExactHintOf': WHATEVER THE INPUT: true; the input reads as it did. -/
def fnExactHintOfSpec : ChangeSpec := { name := "fnExactHintOf", fn := fun _ => fun
  | [d] => { results := [.lit (.bool true)], args := [d] }
  | _ => none }
def fnExactHintOfRow : OpenClaim := { program := "ytigenooglogcfaa", sum := "7182f7c5a1e778014052b17784f680edc34dffbd1d7cdd021b474a98b393a344", func := "loop.example/g01236/laws.FnExactHintOf", spec := "fnExactHintOf", unfollowed := true, recurses := true, apart := false }
def FnExactHintOfSaid : Prop := fnExactHintOfRow.holds Try.pinned (OpenSpec.ofChange fnExactHintOfSpec)

/-- ITS FALSE NEIGHBOUR: 'it returns false'. Refute it at one input. -/
def fnExactHintOfWrong : ChangeSpec := { name := "fnExactHintOf", fn := fun _ => fun
  | [d] => { results := [.lit (.bool false)], args := [d] }
  | _ => none }
def FnExactHintOfWrongFalsely : Prop := fnExactHintOfRow.holds Try.pinned (OpenSpec.ofChange fnExactHintOfWrong)

/-- 'laws.FnExactMakePuzzle': WHATEVER THE INPUT: true; the input reads as it did. -/
def fnExactMakePuzzleSpec : ChangeSpec := { name := "fnExactMakePuzzle", fn := fun _ => fun
  | [d1, d2, d3] => { results := [.lit (.bool true)], args := [d1, d2, d3] }
  | _ => none }
def fnExactMakePuzzleRow : OpenClaim := { program := "ytigenooglogcfaa", sum := "7182f7c5a1e778014052b17784f680edc34dffbd1d7cdd021b474a98b393a344", func := "loop.example/g01236/laws.FnExactMakePuzzle", spec := "fnExactMakePuzzle", inPlace := ["slices.overlaps[int]"], unfollowed := true, recurses := true, apart := false }
def FnExactMakePuzzleSaid : Prop := fnExactMakePuzzleRow.holds Try.pinned (OpenSpec.ofChange fnExactMakePuzzleSpec)

/-- ITS FALSE NEIGHBOUR: 'it returns false'. Refute it at one input. -/
def fnExactMakePuzzleWrong : ChangeSpec := { name := "fnExactMakePuzzle", fn := fun _ => fun
  | [d1, d2, d3] => { results := [.lit (.bool false)], args := [d1, d2, d3] }
  | _ => none }
def FnExactMakePuzzleWrongFalsely : Prop := fnExactMakePuzzleRow.holds Try.pinned (OpenSpec.ofChange fnExactMakePuzzleWrong)

/- THE SECOND FORM. 'bulk': how many values and letters a reading holds, each counted each time it is reached (what is shared counts as often as it is met; a slice's spare places count too). A statement '..UptoSaid' is the law's where the arguments, and the package variables that the reading takes, are together of bulk at most 1048576: NARROWER than '..Said'. Prove '..Said' where nothing that the law and all that it calls make is longer than what came in: it says more and counts as full. Else prove '..UptoSaid'. A law counts once. -/
mutual
def uptoBulk {H : Type} : DataW H → Nat
  | .lit (.string bytes) => bytes.length + 1
  | .lit _ => 1
  | .nil => 1
  | .ptr d => uptoBulk d + 1
  | .slice elems spare => uptoBulkAll elems + uptoBulkAll spare + 1
  | .agg parts => uptoBulkAll parts + 1
  | .iface _ d => uptoBulk d + 1
  | .map entries => uptoBulkEntries entries + 1
  | .held _ => 1
def uptoBulkAll {H : Type} : List (DataW H) → Nat
  | [] => 0
  | d :: r => uptoBulk d + uptoBulkAll r
def uptoBulkEntries {H : Type} : List (Lit × DataW H) → Nat
  | [] => 0
  | x :: r => uptoBulkEntry x + uptoBulkEntries r
def uptoBulkEntry {H : Type} : Lit × DataW H → Nat
  | (.string bytes, d) => bytes.length + uptoBulk d + 1
  | (_, d) => uptoBulk d + 1
 end
def uptoSmall : (H : Type) → List (DataW H) → Bool := fun _ ds => decide (uptoBulkAll ds ≤ 1048576)
def OpenSpec.upto (s : _root_.Go.ChangeSpec) : _root_.Go.OpenSpec := { _root_.Go.OpenSpec.ofChange s with cond := some uptoSmall }

/-- 'laws.FnExactIsDesk', WHERE WHAT IT READS IS OF BULK AT MOST 1048576: true; the input reads as it did. -/
def fnExactIsDeskUptoRow : OpenClaim := { program := "ytigenooglogcfaa", sum := "7182f7c5a1e778014052b17784f680edc34dffbd1d7cdd021b474a98b393a344", func := "loop.example/g01236/laws.FnExactIsDesk", spec := "fnExactIsDesk", unfollowed := true, recurses := true, apart := false, narrowed := true }
def FnExactIsDeskUptoSaid : Prop := fnExactIsDeskUptoRow.holds Try.pinned (OpenSpec.upto fnExactIsDeskSpec)

/-- 'laws.FnExactIsSolution', WHERE WHAT IT READS IS OF BULK AT MOST 1048576: true; the input reads as it did. -/
def fnExactIsSolutionUptoRow : OpenClaim := { program := "ytigenooglogcfaa", sum := "7182f7c5a1e778014052b17784f680edc34dffbd1d7cdd021b474a98b393a344", func := "loop.example/g01236/laws.FnExactIsSolution", spec := "fnExactIsSolution", unfollowed := true, recurses := true, apart := false, narrowed := true }
def FnExactIsSolutionUptoSaid : Prop := fnExactIsSolutionUptoRow.holds Try.pinned (OpenSpec.upto fnExactIsSolutionSpec)

/-- 'laws.FnExactCountSolutions', WHERE WHAT IT READS IS OF BULK AT MOST 1048576: true; the input reads as it did. -/
def fnExactCountSolutionsUptoRow : OpenClaim := { program := "ytigenooglogcfaa", sum := "7182f7c5a1e778014052b17784f680edc34dffbd1d7cdd021b474a98b393a344", func := "loop.example/g01236/laws.FnExactCountSolutions", spec := "fnExactCountSolutions", unfollowed := true, recurses := true, apart := false, narrowed := true }
def FnExactCountSolutionsUptoSaid : Prop := fnExactCountSolutionsUptoRow.holds Try.pinned (OpenSpec.upto fnExactCountSolutionsSpec)

/-- 'laws.FnExactFirstSolution', WHERE WHAT IT READS IS OF BULK AT MOST 1048576: true; the input reads as it did. -/
def fnExactFirstSolutionUptoRow : OpenClaim := { program := "ytigenooglogcfaa", sum := "7182f7c5a1e778014052b17784f680edc34dffbd1d7cdd021b474a98b393a344", func := "loop.example/g01236/laws.FnExactFirstSolution", spec := "fnExactFirstSolution", unfollowed := true, recurses := true, apart := false, narrowed := true }
def FnExactFirstSolutionUptoSaid : Prop := fnExactFirstSolutionUptoRow.holds Try.pinned (OpenSpec.upto fnExactFirstSolutionSpec)

/-- 'laws.FnExactSolutions', WHERE WHAT IT READS IS OF BULK AT MOST 1048576: true; the input reads as it did. -/
def fnExactSolutionsUptoRow : OpenClaim := { program := "ytigenooglogcfaa", sum := "7182f7c5a1e778014052b17784f680edc34dffbd1d7cdd021b474a98b393a344", func := "loop.example/g01236/laws.FnExactSolutions", spec := "fnExactSolutions", unfollowed := true, recurses := true, apart := false, narrowed := true }
def FnExactSolutionsUptoSaid : Prop := fnExactSolutionsUptoRow.holds Try.pinned (OpenSpec.upto fnExactSolutionsSpec)

/-- 'laws.FnExactHarderPuzzle', WHERE WHAT IT READS IS OF BULK AT MOST 1048576: true; the input reads as it did. -/
def fnExactHarderPuzzleUptoRow : OpenClaim := { program := "ytigenooglogcfaa", sum := "7182f7c5a1e778014052b17784f680edc34dffbd1d7cdd021b474a98b393a344", func := "loop.example/g01236/laws.FnExactHarderPuzzle", spec := "fnExactHarderPuzzle", unfollowed := true, recurses := true, apart := false, narrowed := true }
def FnExactHarderPuzzleUptoSaid : Prop := fnExactHarderPuzzleUptoRow.holds Try.pinned (OpenSpec.upto fnExactHarderPuzzleSpec)

/-- 'laws.FnExactSureNumbers', WHERE WHAT IT READS IS OF BULK AT MOST 1048576: true; the input reads as it did. -/
def fnExactSureNumbersUptoRow : OpenClaim := { program := "ytigenooglogcfaa", sum := "7182f7c5a1e778014052b17784f680edc34dffbd1d7cdd021b474a98b393a344", func := "loop.example/g01236/laws.FnExactSureNumbers", spec := "fnExactSureNumbers", unfollowed := true, recurses := true, apart := false, narrowed := true }
def FnExactSureNumbersUptoSaid : Prop := fnExactSureNumbersUptoRow.holds Try.pinned (OpenSpec.upto fnExactSureNumbersSpec)

/-- 'laws.FnExactHintOf', WHERE WHAT IT READS IS OF BULK AT MOST 1048576: true; the input reads as it did. -/
def fnExactHintOfUptoRow : OpenClaim := { program := "ytigenooglogcfaa", sum := "7182f7c5a1e778014052b17784f680edc34dffbd1d7cdd021b474a98b393a344", func := "loop.example/g01236/laws.FnExactHintOf", spec := "fnExactHintOf", unfollowed := true, recurses := true, apart := false, narrowed := true }
def FnExactHintOfUptoSaid : Prop := fnExactHintOfUptoRow.holds Try.pinned (OpenSpec.upto fnExactHintOfSpec)

/-- 'laws.FnExactMakePuzzle', WHERE WHAT IT READS IS OF BULK AT MOST 1048576: true; the input reads as it did. -/
def fnExactMakePuzzleUptoRow : OpenClaim := { program := "ytigenooglogcfaa", sum := "7182f7c5a1e778014052b17784f680edc34dffbd1d7cdd021b474a98b393a344", func := "loop.example/g01236/laws.FnExactMakePuzzle", spec := "fnExactMakePuzzle", inPlace := ["slices.overlaps[int]"], unfollowed := true, recurses := true, apart := false, narrowed := true }
def FnExactMakePuzzleUptoSaid : Prop := fnExactMakePuzzleUptoRow.holds Try.pinned (OpenSpec.upto fnExactMakePuzzleSpec)

end Rows
end Go.Proofs.Ytigenooglogcfaa
