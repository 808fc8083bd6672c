/-
  No cell of these rows narrows 'for every input' (looked for: loops, veiled, ifaces, maps, wideKeys, modest, calm, conditions, laid).
  DERIVED. THE GIVEN ROWS OF THIS SEAT. 11 by the template 'for every input the law returns true; each argument reads behind the call as it read before'; 0 by the template 'total and deterministic' (their statements: YtbheicnppelllaaTotals.lean).
  GIVEN WITH THE SEED: the statements are not yours to turn. If you find one false, say at which input.
  Laid BY PROGRAM, IN A SANDBOX (cutbox-rows.mjs): the forced cells as the released guide's own fill.sh prints them over the translation b5d119f3c218ae27… (all of the seat's roots in one cut). By AI agents, Wed Nov 11 2026. No macro, syntax, notation, axiom, sorry.
-/
import Derived.Test.YtbheicnppelllaaChecked
import GoSem.Claim
import GoSem.ClaimJoined
import GoSem.ClaimMapViews
import Derived.JoinedTies
import Derived.KernelRfl
namespace Go.Proofs.Ytbheicnppelllaa
/- THE CELL 'sum', in the pinned program and in every row, IS THE sha256 OF THE DUMP (.gsa) THAT YtbheicnppelllaaProg.lean LOADS. Nothing in Lean hashes anything: it is a label: what it is worth is what the hold of that sum in a sandbox is worth. -/
noncomputable def Try.pinned : Pinned := { name := "ytbheicnppelllaa", sum := "b5d119f3c218ae272fee49338f4ccd41c1c642ba7bfad25cf4a5e0fbb7ed4fc8", checked := Try.checked }
namespace Rows
def none {H : Type} : Left H := { results := [], args := [] }

/-- 'laws.FnExactPlusTerms': WHATEVER THE INPUT: true; the input reads as it did. -/
def fnExactPlusTermsSpec : ChangeSpec := { name := "fnExactPlusTerms", fn := fun _ => fun
  | [d1, d2] => { results := [.lit (.bool true)], args := [d1, d2] }
  | _ => none }
def fnExactPlusTermsRow : OpenClaim := { program := "ytbheicnppelllaa", sum := "b5d119f3c218ae272fee49338f4ccd41c1c642ba7bfad25cf4a5e0fbb7ed4fc8", func := "loop.example/g01236/laws.FnExactPlusTerms", spec := "fnExactPlusTerms", unfollowed := true, recurses := true, apart := false }
def FnExactPlusTermsSaid : Prop := fnExactPlusTermsRow.holds Try.pinned (OpenSpec.ofChange fnExactPlusTermsSpec)

/-- ITS FALSE NEIGHBOUR: 'it returns false'. Refute it at one input. -/
def fnExactPlusTermsWrong : ChangeSpec := { name := "fnExactPlusTerms", fn := fun _ => fun
  | [d1, d2] => { results := [.lit (.bool false)], args := [d1, d2] }
  | _ => none }
def FnExactPlusTermsWrongFalsely : Prop := fnExactPlusTermsRow.holds Try.pinned (OpenSpec.ofChange fnExactPlusTermsWrong)

/-- 'laws.FnExactParsePuzzle': WHATEVER THE INPUT: true; the input reads as it did. -/
def fnExactParsePuzzleSpec : ChangeSpec := { name := "fnExactParsePuzzle", fn := fun _ => fun
  | [d] => { results := [.lit (.bool true)], args := [d] }
  | _ => none }
def fnExactParsePuzzleRow : OpenClaim := { program := "ytbheicnppelllaa", sum := "b5d119f3c218ae272fee49338f4ccd41c1c642ba7bfad25cf4a5e0fbb7ed4fc8", func := "loop.example/g01236/laws.FnExactParsePuzzle", spec := "fnExactParsePuzzle", unfollowed := true, recurses := true, apart := false }
def FnExactParsePuzzleSaid : Prop := fnExactParsePuzzleRow.holds Try.pinned (OpenSpec.ofChange fnExactParsePuzzleSpec)

/-- ITS FALSE NEIGHBOUR: 'it returns false'. Refute it at one input. -/
def fnExactParsePuzzleWrong : ChangeSpec := { name := "fnExactParsePuzzle", fn := fun _ => fun
  | [d] => { results := [.lit (.bool false)], args := [d] }
  | _ => none }
def FnExactParsePuzzleWrongFalsely : Prop := fnExactParsePuzzleRow.holds Try.pinned (OpenSpec.ofChange fnExactParsePuzzleWrong)

/-- 'laws.FnExactTakeOne': WHATEVER THE INPUT: true; the input reads as it did. -/
def fnExactTakeOneSpec : ChangeSpec := { name := "fnExactTakeOne", fn := fun _ => fun
  | [d1, d2] => { results := [.lit (.bool true)], args := [d1, d2] }
  | _ => none }
def fnExactTakeOneRow : OpenClaim := { program := "ytbheicnppelllaa", sum := "b5d119f3c218ae272fee49338f4ccd41c1c642ba7bfad25cf4a5e0fbb7ed4fc8", func := "loop.example/g01236/laws.FnExactTakeOne", spec := "fnExactTakeOne", unfollowed := true, recurses := true, apart := false }
def FnExactTakeOneSaid : Prop := fnExactTakeOneRow.holds Try.pinned (OpenSpec.ofChange fnExactTakeOneSpec)

/-- ITS FALSE NEIGHBOUR: 'it returns false'. Refute it at one input. -/
def fnExactTakeOneWrong : ChangeSpec := { name := "fnExactTakeOne", fn := fun _ => fun
  | [d1, d2] => { results := [.lit (.bool false)], args := [d1, d2] }
  | _ => none }
def FnExactTakeOneWrongFalsely : Prop := fnExactTakeOneRow.holds Try.pinned (OpenSpec.ofChange fnExactTakeOneWrong)

/-- 'laws.FnExactMinusTerms': WHATEVER THE INPUT: true; the input reads as it did. -/
def fnExactMinusTermsSpec : ChangeSpec := { name := "fnExactMinusTerms", fn := fun _ => fun
  | [d1, d2] => { results := [.lit (.bool true)], args := [d1, d2] }
  | _ => none }
def fnExactMinusTermsRow : OpenClaim := { program := "ytbheicnppelllaa", sum := "b5d119f3c218ae272fee49338f4ccd41c1c642ba7bfad25cf4a5e0fbb7ed4fc8", func := "loop.example/g01236/laws.FnExactMinusTerms", spec := "fnExactMinusTerms", unfollowed := true, recurses := true, apart := false }
def FnExactMinusTermsSaid : Prop := fnExactMinusTermsRow.holds Try.pinned (OpenSpec.ofChange fnExactMinusTermsSpec)

/-- ITS FALSE NEIGHBOUR: 'it returns false'. Refute it at one input. -/
def fnExactMinusTermsWrong : ChangeSpec := { name := "fnExactMinusTerms", fn := fun _ => fun
  | [d1, d2] => { results := [.lit (.bool false)], args := [d1, d2] }
  | _ => none }
def FnExactMinusTermsWrongFalsely : Prop := fnExactMinusTermsRow.holds Try.pinned (OpenSpec.ofChange fnExactMinusTermsWrong)

/-- 'laws.FnExactMatrixOfList': WHATEVER THE INPUT: true; the input reads as it did. -/
def fnExactMatrixOfListSpec : ChangeSpec := { name := "fnExactMatrixOfList", fn := fun _ => fun
  | [d] => { results := [.lit (.bool true)], args := [d] }
  | _ => none }
def fnExactMatrixOfListRow : OpenClaim := { program := "ytbheicnppelllaa", sum := "b5d119f3c218ae272fee49338f4ccd41c1c642ba7bfad25cf4a5e0fbb7ed4fc8", func := "loop.example/g01236/laws.FnExactMatrixOfList", spec := "fnExactMatrixOfList", unfollowed := true, recurses := true, apart := false }
def FnExactMatrixOfListSaid : Prop := fnExactMatrixOfListRow.holds Try.pinned (OpenSpec.ofChange fnExactMatrixOfListSpec)

/-- ITS FALSE NEIGHBOUR: 'it returns false'. Refute it at one input. -/
def fnExactMatrixOfListWrong : ChangeSpec := { name := "fnExactMatrixOfList", fn := fun _ => fun
  | [d] => { results := [.lit (.bool false)], args := [d] }
  | _ => none }
def FnExactMatrixOfListWrongFalsely : Prop := fnExactMatrixOfListRow.holds Try.pinned (OpenSpec.ofChange fnExactMatrixOfListWrong)

/-- 'laws.FnExactFillGap': WHATEVER THE INPUT: true; the input reads as it did. -/
def fnExactFillGapSpec : ChangeSpec := { name := "fnExactFillGap", fn := fun _ => fun
  | [d1, d2, d3] => { results := [.lit (.bool true)], args := [d1, d2, d3] }
  | _ => none }
def fnExactFillGapRow : OpenClaim := { program := "ytbheicnppelllaa", sum := "b5d119f3c218ae272fee49338f4ccd41c1c642ba7bfad25cf4a5e0fbb7ed4fc8", func := "loop.example/g01236/laws.FnExactFillGap", spec := "fnExactFillGap", unfollowed := true, recurses := true, apart := false }
def FnExactFillGapSaid : Prop := fnExactFillGapRow.holds Try.pinned (OpenSpec.ofChange fnExactFillGapSpec)

/-- ITS FALSE NEIGHBOUR: 'it returns false'. Refute it at one input. -/
def fnExactFillGapWrong : ChangeSpec := { name := "fnExactFillGap", fn := fun _ => fun
  | [d1, d2, d3] => { results := [.lit (.bool false)], args := [d1, d2, d3] }
  | _ => none }
def FnExactFillGapWrongFalsely : Prop := fnExactFillGapRow.holds Try.pinned (OpenSpec.ofChange fnExactFillGapWrong)

/-- 'laws.FnExactOpenGap': WHATEVER THE INPUT: true; the input reads as it did. -/
def fnExactOpenGapSpec : ChangeSpec := { name := "fnExactOpenGap", fn := fun _ => fun
  | [d1, d2] => { results := [.lit (.bool true)], args := [d1, d2] }
  | _ => none }
def fnExactOpenGapRow : OpenClaim := { program := "ytbheicnppelllaa", sum := "b5d119f3c218ae272fee49338f4ccd41c1c642ba7bfad25cf4a5e0fbb7ed4fc8", func := "loop.example/g01236/laws.FnExactOpenGap", spec := "fnExactOpenGap", unfollowed := true, recurses := true, apart := false }
def FnExactOpenGapSaid : Prop := fnExactOpenGapRow.holds Try.pinned (OpenSpec.ofChange fnExactOpenGapSpec)

/-- ITS FALSE NEIGHBOUR: 'it returns false'. Refute it at one input. -/
def fnExactOpenGapWrong : ChangeSpec := { name := "fnExactOpenGap", fn := fun _ => fun
  | [d1, d2] => { results := [.lit (.bool false)], args := [d1, d2] }
  | _ => none }
def FnExactOpenGapWrongFalsely : Prop := fnExactOpenGapRow.holds Try.pinned (OpenSpec.ofChange fnExactOpenGapWrong)

/-- 'laws.FnExactTurnPuzzle': WHATEVER THE INPUT: true; the input reads as it did. -/
def fnExactTurnPuzzleSpec : ChangeSpec := { name := "fnExactTurnPuzzle", fn := fun _ => fun
  | [d1, d2] => { results := [.lit (.bool true)], args := [d1, d2] }
  | _ => none }
def fnExactTurnPuzzleRow : OpenClaim := { program := "ytbheicnppelllaa", sum := "b5d119f3c218ae272fee49338f4ccd41c1c642ba7bfad25cf4a5e0fbb7ed4fc8", func := "loop.example/g01236/laws.FnExactTurnPuzzle", spec := "fnExactTurnPuzzle", unfollowed := true, recurses := true, apart := false }
def FnExactTurnPuzzleSaid : Prop := fnExactTurnPuzzleRow.holds Try.pinned (OpenSpec.ofChange fnExactTurnPuzzleSpec)

/-- ITS FALSE NEIGHBOUR: 'it returns false'. Refute it at one input. -/
def fnExactTurnPuzzleWrong : ChangeSpec := { name := "fnExactTurnPuzzle", fn := fun _ => fun
  | [d1, d2] => { results := [.lit (.bool false)], args := [d1, d2] }
  | _ => none }
def FnExactTurnPuzzleWrongFalsely : Prop := fnExactTurnPuzzleRow.holds Try.pinned (OpenSpec.ofChange fnExactTurnPuzzleWrong)

/-- 'laws.FnExactReduceOnes': WHATEVER THE INPUT: true; the input reads as it did. -/
def fnExactReduceOnesSpec : ChangeSpec := { name := "fnExactReduceOnes", fn := fun _ => fun
  | [d] => { results := [.lit (.bool true)], args := [d] }
  | _ => none }
def fnExactReduceOnesRow : OpenClaim := { program := "ytbheicnppelllaa", sum := "b5d119f3c218ae272fee49338f4ccd41c1c642ba7bfad25cf4a5e0fbb7ed4fc8", func := "loop.example/g01236/laws.FnExactReduceOnes", spec := "fnExactReduceOnes", unfollowed := true, recurses := true, apart := false }
def FnExactReduceOnesSaid : Prop := fnExactReduceOnesRow.holds Try.pinned (OpenSpec.ofChange fnExactReduceOnesSpec)

/-- ITS FALSE NEIGHBOUR: 'it returns false'. Refute it at one input. -/
def fnExactReduceOnesWrong : ChangeSpec := { name := "fnExactReduceOnes", fn := fun _ => fun
  | [d] => { results := [.lit (.bool false)], args := [d] }
  | _ => none }
def FnExactReduceOnesWrongFalsely : Prop := fnExactReduceOnesRow.holds Try.pinned (OpenSpec.ofChange fnExactReduceOnesWrong)

/-- 'laws.FnExactMinusOfPlus': WHATEVER THE INPUT: true; the input reads as it did. -/
def fnExactMinusOfPlusSpec : ChangeSpec := { name := "fnExactMinusOfPlus", fn := fun _ => fun
  | [d] => { results := [.lit (.bool true)], args := [d] }
  | _ => none }
def fnExactMinusOfPlusRow : OpenClaim := { program := "ytbheicnppelllaa", sum := "b5d119f3c218ae272fee49338f4ccd41c1c642ba7bfad25cf4a5e0fbb7ed4fc8", func := "loop.example/g01236/laws.FnExactMinusOfPlus", spec := "fnExactMinusOfPlus", unfollowed := true, recurses := true, apart := false }
def FnExactMinusOfPlusSaid : Prop := fnExactMinusOfPlusRow.holds Try.pinned (OpenSpec.ofChange fnExactMinusOfPlusSpec)

/-- ITS FALSE NEIGHBOUR: 'it returns false'. Refute it at one input. -/
def fnExactMinusOfPlusWrong : ChangeSpec := { name := "fnExactMinusOfPlus", fn := fun _ => fun
  | [d] => { results := [.lit (.bool false)], args := [d] }
  | _ => none }
def FnExactMinusOfPlusWrongFalsely : Prop := fnExactMinusOfPlusRow.holds Try.pinned (OpenSpec.ofChange fnExactMinusOfPlusWrong)

/-- 'laws.FnExactPutOne': WHATEVER THE INPUT: true; the input reads as it did. -/
def fnExactPutOneSpec : ChangeSpec := { name := "fnExactPutOne", fn := fun _ => fun
  | [d1, d2] => { results := [.lit (.bool true)], args := [d1, d2] }
  | _ => none }
def fnExactPutOneRow : OpenClaim := { program := "ytbheicnppelllaa", sum := "b5d119f3c218ae272fee49338f4ccd41c1c642ba7bfad25cf4a5e0fbb7ed4fc8", func := "loop.example/g01236/laws.FnExactPutOne", spec := "fnExactPutOne", inPlace := ["slices.overlaps[int]"], unfollowed := true, recurses := true, apart := false }
def FnExactPutOneSaid : Prop := fnExactPutOneRow.holds Try.pinned (OpenSpec.ofChange fnExactPutOneSpec)

/-- ITS FALSE NEIGHBOUR: 'it returns false'. Refute it at one input. -/
def fnExactPutOneWrong : ChangeSpec := { name := "fnExactPutOne", fn := fun _ => fun
  | [d1, d2] => { results := [.lit (.bool false)], args := [d1, d2] }
  | _ => none }
def FnExactPutOneWrongFalsely : Prop := fnExactPutOneRow.holds Try.pinned (OpenSpec.ofChange fnExactPutOneWrong)

/- THE SECOND FORM. 'bulk': how many values and letters a reading holds, each counted each time it is reached (what is shared counts as often as it is met; a slice's spare places count too). A statement '..UptoSaid' is the law's where the arguments, and the package variables that the reading takes, are together of bulk at most 1048576: NARROWER than '..Said'. Prove '..Said' where nothing that the law and all that it calls make is longer than what came in: it says more and counts as full. Else prove '..UptoSaid'. A law counts once. -/
mutual
def uptoBulk {H : Type} : DataW H → Nat
  | .lit (.string bytes) => bytes.length + 1
  | .lit _ => 1
  | .nil => 1
  | .ptr d => uptoBulk d + 1
  | .slice elems spare => uptoBulkAll elems + uptoBulkAll spare + 1
  | .agg parts => uptoBulkAll parts + 1
  | .iface _ d => uptoBulk d + 1
  | .map entries => uptoBulkEntries entries + 1
  | .held _ => 1
def uptoBulkAll {H : Type} : List (DataW H) → Nat
  | [] => 0
  | d :: r => uptoBulk d + uptoBulkAll r
def uptoBulkEntries {H : Type} : List (Lit × DataW H) → Nat
  | [] => 0
  | x :: r => uptoBulkEntry x + uptoBulkEntries r
def uptoBulkEntry {H : Type} : Lit × DataW H → Nat
  | (.string bytes, d) => bytes.length + uptoBulk d + 1
  | (_, d) => uptoBulk d + 1
 end
def uptoSmall : (H : Type) → List (DataW H) → Bool := fun _ ds => decide (uptoBulkAll ds ≤ 1048576)
def OpenSpec.upto (s : _root_.Go.ChangeSpec) : _root_.Go.OpenSpec := { _root_.Go.OpenSpec.ofChange s with cond := some uptoSmall }

/-- 'laws.FnExactPlusTerms', WHERE WHAT IT READS IS OF BULK AT MOST 1048576: true; the input reads as it did. -/
def fnExactPlusTermsUptoRow : OpenClaim := { program := "ytbheicnppelllaa", sum := "b5d119f3c218ae272fee49338f4ccd41c1c642ba7bfad25cf4a5e0fbb7ed4fc8", func := "loop.example/g01236/laws.FnExactPlusTerms", spec := "fnExactPlusTerms", unfollowed := true, recurses := true, apart := false, narrowed := true }
def FnExactPlusTermsUptoSaid : Prop := fnExactPlusTermsUptoRow.holds Try.pinned (OpenSpec.upto fnExactPlusTermsSpec)

/-- 'laws.FnExactParsePuzzle', WHERE WHAT IT READS IS OF BULK AT MOST 1048576: true; the input reads as it did. -/
def fnExactParsePuzzleUptoRow : OpenClaim := { program := "ytbheicnppelllaa", sum := "b5d119f3c218ae272fee49338f4ccd41c1c642ba7bfad25cf4a5e0fbb7ed4fc8", func := "loop.example/g01236/laws.FnExactParsePuzzle", spec := "fnExactParsePuzzle", unfollowed := true, recurses := true, apart := false, narrowed := true }
def FnExactParsePuzzleUptoSaid : Prop := fnExactParsePuzzleUptoRow.holds Try.pinned (OpenSpec.upto fnExactParsePuzzleSpec)

/-- 'laws.FnExactTakeOne', WHERE WHAT IT READS IS OF BULK AT MOST 1048576: true; the input reads as it did. -/
def fnExactTakeOneUptoRow : OpenClaim := { program := "ytbheicnppelllaa", sum := "b5d119f3c218ae272fee49338f4ccd41c1c642ba7bfad25cf4a5e0fbb7ed4fc8", func := "loop.example/g01236/laws.FnExactTakeOne", spec := "fnExactTakeOne", unfollowed := true, recurses := true, apart := false, narrowed := true }
def FnExactTakeOneUptoSaid : Prop := fnExactTakeOneUptoRow.holds Try.pinned (OpenSpec.upto fnExactTakeOneSpec)

/-- 'laws.FnExactMinusTerms', WHERE WHAT IT READS IS OF BULK AT MOST 1048576: true; the input reads as it did. -/
def fnExactMinusTermsUptoRow : OpenClaim := { program := "ytbheicnppelllaa", sum := "b5d119f3c218ae272fee49338f4ccd41c1c642ba7bfad25cf4a5e0fbb7ed4fc8", func := "loop.example/g01236/laws.FnExactMinusTerms", spec := "fnExactMinusTerms", unfollowed := true, recurses := true, apart := false, narrowed := true }
def FnExactMinusTermsUptoSaid : Prop := fnExactMinusTermsUptoRow.holds Try.pinned (OpenSpec.upto fnExactMinusTermsSpec)

/-- 'laws.FnExactMatrixOfList', WHERE WHAT IT READS IS OF BULK AT MOST 1048576: true; the input reads as it did. -/
def fnExactMatrixOfListUptoRow : OpenClaim := { program := "ytbheicnppelllaa", sum := "b5d119f3c218ae272fee49338f4ccd41c1c642ba7bfad25cf4a5e0fbb7ed4fc8", func := "loop.example/g01236/laws.FnExactMatrixOfList", spec := "fnExactMatrixOfList", unfollowed := true, recurses := true, apart := false, narrowed := true }
def FnExactMatrixOfListUptoSaid : Prop := fnExactMatrixOfListUptoRow.holds Try.pinned (OpenSpec.upto fnExactMatrixOfListSpec)

/-- 'laws.FnExactFillGap', WHERE WHAT IT READS IS OF BULK AT MOST 1048576: true; the input reads as it did. -/
def fnExactFillGapUptoRow : OpenClaim := { program := "ytbheicnppelllaa", sum := "b5d119f3c218ae272fee49338f4ccd41c1c642ba7bfad25cf4a5e0fbb7ed4fc8", func := "loop.example/g01236/laws.FnExactFillGap", spec := "fnExactFillGap", unfollowed := true, recurses := true, apart := false, narrowed := true }
def FnExactFillGapUptoSaid : Prop := fnExactFillGapUptoRow.holds Try.pinned (OpenSpec.upto fnExactFillGapSpec)

/-- 'laws.FnExactOpenGap', WHERE WHAT IT READS IS OF BULK AT MOST 1048576: true; the input reads as it did. -/
def fnExactOpenGapUptoRow : OpenClaim := { program := "ytbheicnppelllaa", sum := "b5d119f3c218ae272fee49338f4ccd41c1c642ba7bfad25cf4a5e0fbb7ed4fc8", func := "loop.example/g01236/laws.FnExactOpenGap", spec := "fnExactOpenGap", unfollowed := true, recurses := true, apart := false, narrowed := true }
def FnExactOpenGapUptoSaid : Prop := fnExactOpenGapUptoRow.holds Try.pinned (OpenSpec.upto fnExactOpenGapSpec)

/-- 'laws.FnExactTurnPuzzle', WHERE WHAT IT READS IS OF BULK AT MOST 1048576: true; the input reads as it did. -/
def fnExactTurnPuzzleUptoRow : OpenClaim := { program := "ytbheicnppelllaa", sum := "b5d119f3c218ae272fee49338f4ccd41c1c642ba7bfad25cf4a5e0fbb7ed4fc8", func := "loop.example/g01236/laws.FnExactTurnPuzzle", spec := "fnExactTurnPuzzle", unfollowed := true, recurses := true, apart := false, narrowed := true }
def FnExactTurnPuzzleUptoSaid : Prop := fnExactTurnPuzzleUptoRow.holds Try.pinned (OpenSpec.upto fnExactTurnPuzzleSpec)

/-- 'laws.FnExactReduceOnes', WHERE WHAT IT READS IS OF BULK AT MOST 1048576: true; the input reads as it did. -/
def fnExactReduceOnesUptoRow : OpenClaim := { program := "ytbheicnppelllaa", sum := "b5d119f3c218ae272fee49338f4ccd41c1c642ba7bfad25cf4a5e0fbb7ed4fc8", func := "loop.example/g01236/laws.FnExactReduceOnes", spec := "fnExactReduceOnes", unfollowed := true, recurses := true, apart := false, narrowed := true }
def FnExactReduceOnesUptoSaid : Prop := fnExactReduceOnesUptoRow.holds Try.pinned (OpenSpec.upto fnExactReduceOnesSpec)

/-- 'laws.FnExactMinusOfPlus', WHERE WHAT IT READS IS OF BULK AT MOST 1048576: true; the input reads as it did. -/
def fnExactMinusOfPlusUptoRow : OpenClaim := { program := "ytbheicnppelllaa", sum := "b5d119f3c218ae272fee49338f4ccd41c1c642ba7bfad25cf4a5e0fbb7ed4fc8", func := "loop.example/g01236/laws.FnExactMinusOfPlus", spec := "fnExactMinusOfPlus", unfollowed := true, recurses := true, apart := false, narrowed := true }
def FnExactMinusOfPlusUptoSaid : Prop := fnExactMinusOfPlusUptoRow.holds Try.pinned (OpenSpec.upto fnExactMinusOfPlusSpec)

/-- 'laws.FnExactPutOne', WHERE WHAT IT READS IS OF BULK AT MOST 1048576: true; the input reads as it did. -/
def fnExactPutOneUptoRow : OpenClaim := { program := "ytbheicnppelllaa", sum := "b5d119f3c218ae272fee49338f4ccd41c1c642ba7bfad25cf4a5e0fbb7ed4fc8", func := "loop.example/g01236/laws.FnExactPutOne", spec := "fnExactPutOne", inPlace := ["slices.overlaps[int]"], unfollowed := true, recurses := true, apart := false, narrowed := true }
def FnExactPutOneUptoSaid : Prop := fnExactPutOneUptoRow.holds Try.pinned (OpenSpec.upto fnExactPutOneSpec)

end Rows
end Go.Proofs.Ytbheicnppelllaa
