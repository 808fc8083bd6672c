/-
  No cell of these rows narrows 'for every input' (looked for: loops, veiled, ifaces, maps, wideKeys, modest, calm, conditions, laid).
  DERIVED. THE GIVEN ROWS OF THIS SEAT. 6 by the template 'for every input the law returns true; each argument reads behind the call as it read before'; 0 by the template 'total and deterministic' (their statements: YtlicdnpbkijhjaaTotals.lean).
  GIVEN WITH THE SEED: the statements are not yours to turn. If you find one false, say at which input.
  Laid BY PROGRAM, IN A SANDBOX (cutbox-rows.mjs): the forced cells as the released guide's own fill.sh prints them over the translation 9d691c9b410f25de… (all of the seat's roots in one cut). By AI agents, Wed Nov 11 2026. No macro, syntax, notation, axiom, sorry.
-/
import Derived.Test.YtlicdnpbkijhjaaChecked
import GoSem.Claim
import GoSem.ClaimJoined
import GoSem.ClaimMapViews
import Derived.JoinedTies
import Derived.KernelRfl
namespace Go.Proofs.Ytlicdnpbkijhjaa
/- THE CELL 'sum', in the pinned program and in every row, IS THE sha256 OF THE DUMP (.gsa) THAT YtlicdnpbkijhjaaProg.lean LOADS. Nothing in Lean hashes anything: it is a label: what it is worth is what the hold of that sum in a sandbox is worth. -/
noncomputable def Try.pinned : Pinned := { name := "ytlicdnpbkijhjaa", sum := "9d691c9b410f25deadd90cf70cb36add186dfc4a272d54b237b5c8fe0cd0003a", checked := Try.checked }
namespace Rows
def none {H : Type} : Left H := { results := [], args := [] }

/-- 'laws.FnExactFirstDesk': WHATEVER THE INPUT: true; the input reads as it did. -/
def fnExactFirstDeskSpec : ChangeSpec := { name := "fnExactFirstDesk", fn := fun _ => fun
  | [] => { results := [.lit (.bool true)], args := [] }
  | _ => none }
def fnExactFirstDeskRow : OpenClaim := { program := "ytlicdnpbkijhjaa", sum := "9d691c9b410f25deadd90cf70cb36add186dfc4a272d54b237b5c8fe0cd0003a", func := "loop.example/g01236/laws.FnExactFirstDesk", spec := "fnExactFirstDesk", apart := false }
def FnExactFirstDeskSaid : Prop := fnExactFirstDeskRow.holds Try.pinned (OpenSpec.ofChange fnExactFirstDeskSpec)

/-- ITS FALSE NEIGHBOUR: 'it returns false'. Refute it at one input. -/
def fnExactFirstDeskWrong : ChangeSpec := { name := "fnExactFirstDesk", fn := fun _ => fun
  | [] => { results := [.lit (.bool false)], args := [] }
  | _ => none }
def FnExactFirstDeskWrongFalsely : Prop := fnExactFirstDeskRow.holds Try.pinned (OpenSpec.ofChange fnExactFirstDeskWrong)

/-- 'laws.FnExactWordOfMatrix': WHATEVER THE INPUT: true; the input reads as it did. -/
def fnExactWordOfMatrixSpec : ChangeSpec := { name := "fnExactWordOfMatrix", fn := fun _ => fun
  | [d] => { results := [.lit (.bool true)], args := [d] }
  | _ => none }
def fnExactWordOfMatrixRow : OpenClaim := { program := "ytlicdnpbkijhjaa", sum := "9d691c9b410f25deadd90cf70cb36add186dfc4a272d54b237b5c8fe0cd0003a", func := "loop.example/g01236/laws.FnExactWordOfMatrix", spec := "fnExactWordOfMatrix", apart := false }
def FnExactWordOfMatrixSaid : Prop := fnExactWordOfMatrixRow.holds Try.pinned (OpenSpec.ofChange fnExactWordOfMatrixSpec)

/-- ITS FALSE NEIGHBOUR: 'it returns false'. Refute it at one input. -/
def fnExactWordOfMatrixWrong : ChangeSpec := { name := "fnExactWordOfMatrix", fn := fun _ => fun
  | [d] => { results := [.lit (.bool false)], args := [d] }
  | _ => none }
def FnExactWordOfMatrixWrongFalsely : Prop := fnExactWordOfMatrixRow.holds Try.pinned (OpenSpec.ofChange fnExactWordOfMatrixWrong)

/-- 'laws.FnExactIsPuzzle': WHATEVER THE INPUT: true; the input reads as it did. -/
def fnExactIsPuzzleSpec : ChangeSpec := { name := "fnExactIsPuzzle", fn := fun _ => fun
  | [d] => { results := [.lit (.bool true)], args := [d] }
  | _ => none }
def fnExactIsPuzzleRow : OpenClaim := { program := "ytlicdnpbkijhjaa", sum := "9d691c9b410f25deadd90cf70cb36add186dfc4a272d54b237b5c8fe0cd0003a", func := "loop.example/g01236/laws.FnExactIsPuzzle", spec := "fnExactIsPuzzle", unfollowed := true, recurses := true, apart := false }
def FnExactIsPuzzleSaid : Prop := fnExactIsPuzzleRow.holds Try.pinned (OpenSpec.ofChange fnExactIsPuzzleSpec)

/-- ITS FALSE NEIGHBOUR: 'it returns false'. Refute it at one input. -/
def fnExactIsPuzzleWrong : ChangeSpec := { name := "fnExactIsPuzzle", fn := fun _ => fun
  | [d] => { results := [.lit (.bool false)], args := [d] }
  | _ => none }
def FnExactIsPuzzleWrongFalsely : Prop := fnExactIsPuzzleRow.holds Try.pinned (OpenSpec.ofChange fnExactIsPuzzleWrong)

/-- 'laws.FnExactOrderOf': WHATEVER THE INPUT: true; the input reads as it did. -/
def fnExactOrderOfSpec : ChangeSpec := { name := "fnExactOrderOf", fn := fun _ => fun
  | [d] => { results := [.lit (.bool true)], args := [d] }
  | _ => none }
def fnExactOrderOfRow : OpenClaim := { program := "ytlicdnpbkijhjaa", sum := "9d691c9b410f25deadd90cf70cb36add186dfc4a272d54b237b5c8fe0cd0003a", func := "loop.example/g01236/laws.FnExactOrderOf", spec := "fnExactOrderOf", apart := false }
def FnExactOrderOfSaid : Prop := fnExactOrderOfRow.holds Try.pinned (OpenSpec.ofChange fnExactOrderOfSpec)

/-- ITS FALSE NEIGHBOUR: 'it returns false'. Refute it at one input. -/
def fnExactOrderOfWrong : ChangeSpec := { name := "fnExactOrderOf", fn := fun _ => fun
  | [d] => { results := [.lit (.bool false)], args := [d] }
  | _ => none }
def FnExactOrderOfWrongFalsely : Prop := fnExactOrderOfRow.holds Try.pinned (OpenSpec.ofChange fnExactOrderOfWrong)

/-- 'laws.FnExactClosesUp': WHATEVER THE INPUT: true; the input reads as it did. -/
def fnExactClosesUpSpec : ChangeSpec := { name := "fnExactClosesUp", fn := fun _ => fun
  | [d] => { results := [.lit (.bool true)], args := [d] }
  | _ => none }
def fnExactClosesUpRow : OpenClaim := { program := "ytlicdnpbkijhjaa", sum := "9d691c9b410f25deadd90cf70cb36add186dfc4a272d54b237b5c8fe0cd0003a", func := "loop.example/g01236/laws.FnExactClosesUp", spec := "fnExactClosesUp", unfollowed := true, recurses := true, apart := false }
def FnExactClosesUpSaid : Prop := fnExactClosesUpRow.holds Try.pinned (OpenSpec.ofChange fnExactClosesUpSpec)

/-- ITS FALSE NEIGHBOUR: 'it returns false'. Refute it at one input. -/
def fnExactClosesUpWrong : ChangeSpec := { name := "fnExactClosesUp", fn := fun _ => fun
  | [d] => { results := [.lit (.bool false)], args := [d] }
  | _ => none }
def FnExactClosesUpWrongFalsely : Prop := fnExactClosesUpRow.holds Try.pinned (OpenSpec.ofChange fnExactClosesUpWrong)

/-- 'laws.FnExactCountGaps': WHATEVER THE INPUT: true; the input reads as it did. -/
def fnExactCountGapsSpec : ChangeSpec := { name := "fnExactCountGaps", fn := fun _ => fun
  | [d] => { results := [.lit (.bool true)], args := [d] }
  | _ => none }
def fnExactCountGapsRow : OpenClaim := { program := "ytlicdnpbkijhjaa", sum := "9d691c9b410f25deadd90cf70cb36add186dfc4a272d54b237b5c8fe0cd0003a", func := "loop.example/g01236/laws.FnExactCountGaps", spec := "fnExactCountGaps", unfollowed := true, recurses := true, apart := false }
def FnExactCountGapsSaid : Prop := fnExactCountGapsRow.holds Try.pinned (OpenSpec.ofChange fnExactCountGapsSpec)

/-- ITS FALSE NEIGHBOUR: 'it returns false'. Refute it at one input. -/
def fnExactCountGapsWrong : ChangeSpec := { name := "fnExactCountGaps", fn := fun _ => fun
  | [d] => { results := [.lit (.bool false)], args := [d] }
  | _ => none }
def FnExactCountGapsWrongFalsely : Prop := fnExactCountGapsRow.holds Try.pinned (OpenSpec.ofChange fnExactCountGapsWrong)

/- THE SECOND FORM. 'bulk': how many values and letters a reading holds, each counted each time it is reached (what is shared counts as often as it is met; a slice's spare places count too). A statement '..UptoSaid' is the law's where the arguments, and the package variables that the reading takes, are together of bulk at most 1048576: NARROWER than '..Said'. Prove '..Said' where nothing that the law and all that it calls make is longer than what came in: it says more and counts as full. Else prove '..UptoSaid'. A law counts once. -/
mutual
def uptoBulk {H : Type} : DataW H → Nat
  | .lit (.string bytes) => bytes.length + 1
  | .lit _ => 1
  | .nil => 1
  | .ptr d => uptoBulk d + 1
  | .slice elems spare => uptoBulkAll elems + uptoBulkAll spare + 1
  | .agg parts => uptoBulkAll parts + 1
  | .iface _ d => uptoBulk d + 1
  | .map entries => uptoBulkEntries entries + 1
  | .held _ => 1
def uptoBulkAll {H : Type} : List (DataW H) → Nat
  | [] => 0
  | d :: r => uptoBulk d + uptoBulkAll r
def uptoBulkEntries {H : Type} : List (Lit × DataW H) → Nat
  | [] => 0
  | x :: r => uptoBulkEntry x + uptoBulkEntries r
def uptoBulkEntry {H : Type} : Lit × DataW H → Nat
  | (.string bytes, d) => bytes.length + uptoBulk d + 1
  | (_, d) => uptoBulk d + 1
 end
def uptoSmall : (H : Type) → List (DataW H) → Bool := fun _ ds => decide (uptoBulkAll ds ≤ 1048576)
def OpenSpec.upto (s : _root_.Go.ChangeSpec) : _root_.Go.OpenSpec := { _root_.Go.OpenSpec.ofChange s with cond := some uptoSmall }

/-- 'laws.FnExactFirstDesk', WHERE WHAT IT READS IS OF BULK AT MOST 1048576: true; the input reads as it did. -/
def fnExactFirstDeskUptoRow : OpenClaim := { program := "ytlicdnpbkijhjaa", sum := "9d691c9b410f25deadd90cf70cb36add186dfc4a272d54b237b5c8fe0cd0003a", func := "loop.example/g01236/laws.FnExactFirstDesk", spec := "fnExactFirstDesk", apart := false, narrowed := true }
def FnExactFirstDeskUptoSaid : Prop := fnExactFirstDeskUptoRow.holds Try.pinned (OpenSpec.upto fnExactFirstDeskSpec)

/-- 'laws.FnExactWordOfMatrix', WHERE WHAT IT READS IS OF BULK AT MOST 1048576: true; the input reads as it did. -/
def fnExactWordOfMatrixUptoRow : OpenClaim := { program := "ytlicdnpbkijhjaa", sum := "9d691c9b410f25deadd90cf70cb36add186dfc4a272d54b237b5c8fe0cd0003a", func := "loop.example/g01236/laws.FnExactWordOfMatrix", spec := "fnExactWordOfMatrix", apart := false, narrowed := true }
def FnExactWordOfMatrixUptoSaid : Prop := fnExactWordOfMatrixUptoRow.holds Try.pinned (OpenSpec.upto fnExactWordOfMatrixSpec)

/-- 'laws.FnExactIsPuzzle', WHERE WHAT IT READS IS OF BULK AT MOST 1048576: true; the input reads as it did. -/
def fnExactIsPuzzleUptoRow : OpenClaim := { program := "ytlicdnpbkijhjaa", sum := "9d691c9b410f25deadd90cf70cb36add186dfc4a272d54b237b5c8fe0cd0003a", func := "loop.example/g01236/laws.FnExactIsPuzzle", spec := "fnExactIsPuzzle", unfollowed := true, recurses := true, apart := false, narrowed := true }
def FnExactIsPuzzleUptoSaid : Prop := fnExactIsPuzzleUptoRow.holds Try.pinned (OpenSpec.upto fnExactIsPuzzleSpec)

/-- 'laws.FnExactOrderOf', WHERE WHAT IT READS IS OF BULK AT MOST 1048576: true; the input reads as it did. -/
def fnExactOrderOfUptoRow : OpenClaim := { program := "ytlicdnpbkijhjaa", sum := "9d691c9b410f25deadd90cf70cb36add186dfc4a272d54b237b5c8fe0cd0003a", func := "loop.example/g01236/laws.FnExactOrderOf", spec := "fnExactOrderOf", apart := false, narrowed := true }
def FnExactOrderOfUptoSaid : Prop := fnExactOrderOfUptoRow.holds Try.pinned (OpenSpec.upto fnExactOrderOfSpec)

/-- 'laws.FnExactClosesUp', WHERE WHAT IT READS IS OF BULK AT MOST 1048576: true; the input reads as it did. -/
def fnExactClosesUpUptoRow : OpenClaim := { program := "ytlicdnpbkijhjaa", sum := "9d691c9b410f25deadd90cf70cb36add186dfc4a272d54b237b5c8fe0cd0003a", func := "loop.example/g01236/laws.FnExactClosesUp", spec := "fnExactClosesUp", unfollowed := true, recurses := true, apart := false, narrowed := true }
def FnExactClosesUpUptoSaid : Prop := fnExactClosesUpUptoRow.holds Try.pinned (OpenSpec.upto fnExactClosesUpSpec)

/-- 'laws.FnExactCountGaps', WHERE WHAT IT READS IS OF BULK AT MOST 1048576: true; the input reads as it did. -/
def fnExactCountGapsUptoRow : OpenClaim := { program := "ytlicdnpbkijhjaa", sum := "9d691c9b410f25deadd90cf70cb36add186dfc4a272d54b237b5c8fe0cd0003a", func := "loop.example/g01236/laws.FnExactCountGaps", spec := "fnExactCountGaps", unfollowed := true, recurses := true, apart := false, narrowed := true }
def FnExactCountGapsUptoSaid : Prop := fnExactCountGapsUptoRow.holds Try.pinned (OpenSpec.upto fnExactCountGapsSpec)

end Rows
end Go.Proofs.Ytlicdnpbkijhjaa
