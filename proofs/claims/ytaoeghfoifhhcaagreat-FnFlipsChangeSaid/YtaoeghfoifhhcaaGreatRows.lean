/-
  No cell of these rows narrows 'for every input' (looked for: loops, veiled, ifaces, maps, wideKeys, modest, calm, conditions, laid).
  DERIVED. THE GIVEN ROWS OF THIS SEAT. 4 by the template 'for every input the law returns true; each argument reads behind the call as it read before'; 0 by the template 'total and deterministic' (their statements: YtaoeghfoifhhcaaGreatTotals.lean).
  GIVEN WITH THE SEED: the statements are not yours to turn. If you find one false, say at which input.
  Laid BY PROGRAM, IN A SANDBOX (cutbox-rows.mjs): the forced cells as the released guide's own fill.sh prints them over the translation 354add006ae64b91… (all of the seat's roots in one cut). By AI agents, Wed Nov 11 2026. No macro, syntax, notation, axiom, sorry.
-/
import Derived.Test.YtaoeghfoifhhcaaGreatChecked
import GoSem.Claim
import GoSem.ClaimJoined
import GoSem.ClaimMapViews
import Derived.JoinedTies
import Derived.KernelRfl
namespace Go.Proofs.YtaoeghfoifhhcaaGreat
/- THE CELL 'sum', in the pinned program and in every row, IS THE sha256 OF THE DUMP (.gsa) THAT YtaoeghfoifhhcaaGreatProg.lean LOADS. Nothing in Lean hashes anything: it is a label: what it is worth is what the hold of that sum in a sandbox is worth. -/
noncomputable def Tryz.pinned : Pinned := { name := "ytaoeghfoifhhcaagreat", sum := "354add006ae64b91bcdfcaa3af4eb7d1a6f58bc39cea0da5f370a6a96d0e1eff", checked := Tryz.checked }
namespace Rows
def none {H : Type} : Left H := { results := [], args := [] }

/-- 'laws.FnDiamondsKeep': WHATEVER THE INPUT: true; the input reads as it did. -/
def fnDiamondsKeepSpec : ChangeSpec := { name := "fnDiamondsKeep", fn := fun _ => fun
  | [d1, d2] => { results := [.lit (.bool true)], args := [d1, d2] }
  | _ => none }
def fnDiamondsKeepRow : OpenClaim := { program := "ytaoeghfoifhhcaagreat", sum := "354add006ae64b91bcdfcaa3af4eb7d1a6f58bc39cea0da5f370a6a96d0e1eff", func := "loop.example/g01236/laws.FnDiamondsKeep", spec := "fnDiamondsKeep", unfollowed := true, recurses := true, apart := false }
def FnDiamondsKeepSaid : Prop := fnDiamondsKeepRow.holds Tryz.pinned (OpenSpec.ofChange fnDiamondsKeepSpec)

/-- ITS FALSE NEIGHBOUR: 'it returns false'. Refute it at one input. -/
def fnDiamondsKeepWrong : ChangeSpec := { name := "fnDiamondsKeep", fn := fun _ => fun
  | [d1, d2] => { results := [.lit (.bool false)], args := [d1, d2] }
  | _ => none }
def FnDiamondsKeepWrongFalsely : Prop := fnDiamondsKeepRow.holds Tryz.pinned (OpenSpec.ofChange fnDiamondsKeepWrong)

/-- 'laws.FnFlipsChange': WHATEVER THE INPUT: true; the input reads as it did. -/
def fnFlipsChangeSpec : ChangeSpec := { name := "fnFlipsChange", fn := fun _ => fun
  | [d1, d2] => { results := [.lit (.bool true)], args := [d1, d2] }
  | _ => none }
def fnFlipsChangeRow : OpenClaim := { program := "ytaoeghfoifhhcaagreat", sum := "354add006ae64b91bcdfcaa3af4eb7d1a6f58bc39cea0da5f370a6a96d0e1eff", func := "loop.example/g01236/laws.FnFlipsChange", spec := "fnFlipsChange", unfollowed := true, recurses := true, apart := false }
def FnFlipsChangeSaid : Prop := fnFlipsChangeRow.holds Tryz.pinned (OpenSpec.ofChange fnFlipsChangeSpec)

/-- ITS FALSE NEIGHBOUR: 'it returns false'. Refute it at one input. -/
def fnFlipsChangeWrong : ChangeSpec := { name := "fnFlipsChange", fn := fun _ => fun
  | [d1, d2] => { results := [.lit (.bool false)], args := [d1, d2] }
  | _ => none }
def FnFlipsChangeWrongFalsely : Prop := fnFlipsChangeRow.holds Tryz.pinned (OpenSpec.ofChange fnFlipsChangeWrong)

/-- 'laws.FnCutsCounted': WHATEVER THE INPUT: true; the input reads as it did. -/
def fnCutsCountedSpec : ChangeSpec := { name := "fnCutsCounted", fn := fun _ => fun
  | [d1, d2] => { results := [.lit (.bool true)], args := [d1, d2] }
  | _ => none }
def fnCutsCountedRow : OpenClaim := { program := "ytaoeghfoifhhcaagreat", sum := "354add006ae64b91bcdfcaa3af4eb7d1a6f58bc39cea0da5f370a6a96d0e1eff", func := "loop.example/g01236/laws.FnCutsCounted", spec := "fnCutsCounted", unfollowed := true, recurses := true, apart := false }
def FnCutsCountedSaid : Prop := fnCutsCountedRow.holds Tryz.pinned (OpenSpec.ofChange fnCutsCountedSpec)

/-- ITS FALSE NEIGHBOUR: 'it returns false'. Refute it at one input. -/
def fnCutsCountedWrong : ChangeSpec := { name := "fnCutsCounted", fn := fun _ => fun
  | [d1, d2] => { results := [.lit (.bool false)], args := [d1, d2] }
  | _ => none }
def FnCutsCountedWrongFalsely : Prop := fnCutsCountedRow.holds Tryz.pinned (OpenSpec.ofChange fnCutsCountedWrong)

/-- 'laws.FnTriangulationsCounted': WHATEVER THE INPUT: true; the input reads as it did. -/
def fnTriangulationsCountedSpec : ChangeSpec := { name := "fnTriangulationsCounted", fn := fun _ => fun
  | [d1, d2] => { results := [.lit (.bool true)], args := [d1, d2] }
  | _ => none }
def fnTriangulationsCountedRow : OpenClaim := { program := "ytaoeghfoifhhcaagreat", sum := "354add006ae64b91bcdfcaa3af4eb7d1a6f58bc39cea0da5f370a6a96d0e1eff", func := "loop.example/g01236/laws.FnTriangulationsCounted", spec := "fnTriangulationsCounted", unfollowed := true, recurses := true, apart := false }
def FnTriangulationsCountedSaid : Prop := fnTriangulationsCountedRow.holds Tryz.pinned (OpenSpec.ofChange fnTriangulationsCountedSpec)

/-- ITS FALSE NEIGHBOUR: 'it returns false'. Refute it at one input. -/
def fnTriangulationsCountedWrong : ChangeSpec := { name := "fnTriangulationsCounted", fn := fun _ => fun
  | [d1, d2] => { results := [.lit (.bool false)], args := [d1, d2] }
  | _ => none }
def FnTriangulationsCountedWrongFalsely : Prop := fnTriangulationsCountedRow.holds Tryz.pinned (OpenSpec.ofChange fnTriangulationsCountedWrong)

/- THE SECOND FORM. 'bulk': how many values and letters a reading holds, each counted each time it is reached (what is shared counts as often as it is met; a slice's spare places count too). A statement '..UptoSaid' is the law's where the arguments, and the package variables that the reading takes, are together of bulk at most 1048576: NARROWER than '..Said'. Prove '..Said' where nothing that the law and all that it calls make is longer than what came in: it says more and counts as full. Else prove '..UptoSaid'. A law counts once. -/
mutual
def uptoBulk {H : Type} : DataW H → Nat
  | .lit (.string bytes) => bytes.length + 1
  | .lit _ => 1
  | .nil => 1
  | .ptr d => uptoBulk d + 1
  | .slice elems spare => uptoBulkAll elems + uptoBulkAll spare + 1
  | .agg parts => uptoBulkAll parts + 1
  | .iface _ d => uptoBulk d + 1
  | .map entries => uptoBulkEntries entries + 1
  | .held _ => 1
def uptoBulkAll {H : Type} : List (DataW H) → Nat
  | [] => 0
  | d :: r => uptoBulk d + uptoBulkAll r
def uptoBulkEntries {H : Type} : List (Lit × DataW H) → Nat
  | [] => 0
  | x :: r => uptoBulkEntry x + uptoBulkEntries r
def uptoBulkEntry {H : Type} : Lit × DataW H → Nat
  | (.string bytes, d) => bytes.length + uptoBulk d + 1
  | (_, d) => uptoBulk d + 1
 end
def uptoSmall : (H : Type) → List (DataW H) → Bool := fun _ ds => decide (uptoBulkAll ds ≤ 1048576)
def OpenSpec.upto (s : _root_.Go.ChangeSpec) : _root_.Go.OpenSpec := { _root_.Go.OpenSpec.ofChange s with cond := some uptoSmall }

/-- 'laws.FnDiamondsKeep', WHERE WHAT IT READS IS OF BULK AT MOST 1048576: true; the input reads as it did. -/
def fnDiamondsKeepUptoRow : OpenClaim := { program := "ytaoeghfoifhhcaagreat", sum := "354add006ae64b91bcdfcaa3af4eb7d1a6f58bc39cea0da5f370a6a96d0e1eff", func := "loop.example/g01236/laws.FnDiamondsKeep", spec := "fnDiamondsKeep", unfollowed := true, recurses := true, apart := false, narrowed := true }
def FnDiamondsKeepUptoSaid : Prop := fnDiamondsKeepUptoRow.holds Tryz.pinned (OpenSpec.upto fnDiamondsKeepSpec)

/-- 'laws.FnFlipsChange', WHERE WHAT IT READS IS OF BULK AT MOST 1048576: true; the input reads as it did. -/
def fnFlipsChangeUptoRow : OpenClaim := { program := "ytaoeghfoifhhcaagreat", sum := "354add006ae64b91bcdfcaa3af4eb7d1a6f58bc39cea0da5f370a6a96d0e1eff", func := "loop.example/g01236/laws.FnFlipsChange", spec := "fnFlipsChange", unfollowed := true, recurses := true, apart := false, narrowed := true }
def FnFlipsChangeUptoSaid : Prop := fnFlipsChangeUptoRow.holds Tryz.pinned (OpenSpec.upto fnFlipsChangeSpec)

/-- 'laws.FnCutsCounted', WHERE WHAT IT READS IS OF BULK AT MOST 1048576: true; the input reads as it did. -/
def fnCutsCountedUptoRow : OpenClaim := { program := "ytaoeghfoifhhcaagreat", sum := "354add006ae64b91bcdfcaa3af4eb7d1a6f58bc39cea0da5f370a6a96d0e1eff", func := "loop.example/g01236/laws.FnCutsCounted", spec := "fnCutsCounted", unfollowed := true, recurses := true, apart := false, narrowed := true }
def FnCutsCountedUptoSaid : Prop := fnCutsCountedUptoRow.holds Tryz.pinned (OpenSpec.upto fnCutsCountedSpec)

/-- 'laws.FnTriangulationsCounted', WHERE WHAT IT READS IS OF BULK AT MOST 1048576: true; the input reads as it did. -/
def fnTriangulationsCountedUptoRow : OpenClaim := { program := "ytaoeghfoifhhcaagreat", sum := "354add006ae64b91bcdfcaa3af4eb7d1a6f58bc39cea0da5f370a6a96d0e1eff", func := "loop.example/g01236/laws.FnTriangulationsCounted", spec := "fnTriangulationsCounted", unfollowed := true, recurses := true, apart := false, narrowed := true }
def FnTriangulationsCountedUptoSaid : Prop := fnTriangulationsCountedUptoRow.holds Tryz.pinned (OpenSpec.upto fnTriangulationsCountedSpec)

end Rows
end Go.Proofs.YtaoeghfoifhhcaaGreat
