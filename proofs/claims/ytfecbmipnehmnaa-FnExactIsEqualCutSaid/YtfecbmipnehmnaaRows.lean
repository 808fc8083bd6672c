/-
  No cell of these rows narrows 'for every input' (looked for: loops, veiled, ifaces, maps, wideKeys, modest, calm, conditions, laid).
  DERIVED. THE GIVEN ROWS OF THIS SEAT. 6 by the template 'for every input the law returns true; each argument reads behind the call as it read before'; 0 by the template 'total and deterministic' (their statements: YtfecbmipnehmnaaTotals.lean).
  GIVEN WITH THE SEED: the statements are not yours to turn. If you find one false, say at which input.
  Laid BY PROGRAM, IN A SANDBOX (cutbox-rows.mjs): the forced cells as the released guide's own fill.sh prints them over the translation 5169c0bf1c8869a2… (all of the seat's roots in one cut). By AI agents, Wed Nov 11 2026. No macro, syntax, notation, axiom, sorry.
-/
import Derived.Test.YtfecbmipnehmnaaChecked
import GoSem.Claim
import GoSem.ClaimJoined
import GoSem.ClaimMapViews
import Derived.JoinedTies
import Derived.KernelRfl
namespace Go.Proofs.Ytfecbmipnehmnaa
/- THE CELL 'sum', in the pinned program and in every row, IS THE sha256 OF THE DUMP (.gsa) THAT YtfecbmipnehmnaaProg.lean LOADS. Nothing in Lean hashes anything: it is a label: what it is worth is what the hold of that sum in a sandbox is worth. -/
noncomputable def Try.pinned : Pinned := { name := "ytfecbmipnehmnaa", sum := "5169c0bf1c8869a2ed1164311ecbaa47faee04e8beac7d8f6a3729a2cb8db98b", checked := Try.checked }
namespace Rows
def none {H : Type} : Left H := { results := [], args := [] }

/-- 'laws.FnExactPiecesOfCut': WHATEVER THE INPUT: true; the input reads as it did. -/
def fnExactPiecesOfCutSpec : ChangeSpec := { name := "fnExactPiecesOfCut", fn := fun _ => fun
  | [d1, d2] => { results := [.lit (.bool true)], args := [d1, d2] }
  | _ => none }
def fnExactPiecesOfCutRow : OpenClaim := { program := "ytfecbmipnehmnaa", sum := "5169c0bf1c8869a2ed1164311ecbaa47faee04e8beac7d8f6a3729a2cb8db98b", func := "loop.example/g01236/laws.FnExactPiecesOfCut", spec := "fnExactPiecesOfCut", unfollowed := true, recurses := true, apart := false }
def FnExactPiecesOfCutSaid : Prop := fnExactPiecesOfCutRow.holds Try.pinned (OpenSpec.ofChange fnExactPiecesOfCutSpec)

/-- ITS FALSE NEIGHBOUR: 'it returns false'. Refute it at one input. -/
def fnExactPiecesOfCutWrong : ChangeSpec := { name := "fnExactPiecesOfCut", fn := fun _ => fun
  | [d1, d2] => { results := [.lit (.bool false)], args := [d1, d2] }
  | _ => none }
def FnExactPiecesOfCutWrongFalsely : Prop := fnExactPiecesOfCutRow.holds Try.pinned (OpenSpec.ofChange fnExactPiecesOfCutWrong)

/-- 'laws.FnExactIsEqualCut': WHATEVER THE INPUT: true; the input reads as it did. -/
def fnExactIsEqualCutSpec : ChangeSpec := { name := "fnExactIsEqualCut", fn := fun _ => fun
  | [d1, d2, d3] => { results := [.lit (.bool true)], args := [d1, d2, d3] }
  | _ => none }
def fnExactIsEqualCutRow : OpenClaim := { program := "ytfecbmipnehmnaa", sum := "5169c0bf1c8869a2ed1164311ecbaa47faee04e8beac7d8f6a3729a2cb8db98b", func := "loop.example/g01236/laws.FnExactIsEqualCut", spec := "fnExactIsEqualCut", unfollowed := true, recurses := true, apart := false }
def FnExactIsEqualCutSaid : Prop := fnExactIsEqualCutRow.holds Try.pinned (OpenSpec.ofChange fnExactIsEqualCutSpec)

/-- ITS FALSE NEIGHBOUR: 'it returns false'. Refute it at one input. -/
def fnExactIsEqualCutWrong : ChangeSpec := { name := "fnExactIsEqualCut", fn := fun _ => fun
  | [d1, d2, d3] => { results := [.lit (.bool false)], args := [d1, d2, d3] }
  | _ => none }
def FnExactIsEqualCutWrongFalsely : Prop := fnExactIsEqualCutRow.holds Try.pinned (OpenSpec.ofChange fnExactIsEqualCutWrong)

/-- 'laws.FnExactCountFiner': WHATEVER THE INPUT: true; the input reads as it did. -/
def fnExactCountFinerSpec : ChangeSpec := { name := "fnExactCountFiner", fn := fun _ => fun
  | [d1, d2] => { results := [.lit (.bool true)], args := [d1, d2] }
  | _ => none }
def fnExactCountFinerRow : OpenClaim := { program := "ytfecbmipnehmnaa", sum := "5169c0bf1c8869a2ed1164311ecbaa47faee04e8beac7d8f6a3729a2cb8db98b", func := "loop.example/g01236/laws.FnExactCountFiner", spec := "fnExactCountFiner", unfollowed := true, recurses := true, apart := false }
def FnExactCountFinerSaid : Prop := fnExactCountFinerRow.holds Try.pinned (OpenSpec.ofChange fnExactCountFinerSpec)

/-- ITS FALSE NEIGHBOUR: 'it returns false'. Refute it at one input. -/
def fnExactCountFinerWrong : ChangeSpec := { name := "fnExactCountFiner", fn := fun _ => fun
  | [d1, d2] => { results := [.lit (.bool false)], args := [d1, d2] }
  | _ => none }
def FnExactCountFinerWrongFalsely : Prop := fnExactCountFinerRow.holds Try.pinned (OpenSpec.ofChange fnExactCountFinerWrong)

/-- 'laws.FnExactFirstEqualCut': WHATEVER THE INPUT: true; the input reads as it did. -/
def fnExactFirstEqualCutSpec : ChangeSpec := { name := "fnExactFirstEqualCut", fn := fun _ => fun
  | [d1, d2] => { results := [.lit (.bool true)], args := [d1, d2] }
  | _ => none }
def fnExactFirstEqualCutRow : OpenClaim := { program := "ytfecbmipnehmnaa", sum := "5169c0bf1c8869a2ed1164311ecbaa47faee04e8beac7d8f6a3729a2cb8db98b", func := "loop.example/g01236/laws.FnExactFirstEqualCut", spec := "fnExactFirstEqualCut", unfollowed := true, recurses := true, apart := false }
def FnExactFirstEqualCutSaid : Prop := fnExactFirstEqualCutRow.holds Try.pinned (OpenSpec.ofChange fnExactFirstEqualCutSpec)

/-- ITS FALSE NEIGHBOUR: 'it returns false'. Refute it at one input. -/
def fnExactFirstEqualCutWrong : ChangeSpec := { name := "fnExactFirstEqualCut", fn := fun _ => fun
  | [d1, d2] => { results := [.lit (.bool false)], args := [d1, d2] }
  | _ => none }
def FnExactFirstEqualCutWrongFalsely : Prop := fnExactFirstEqualCutRow.holds Try.pinned (OpenSpec.ofChange fnExactFirstEqualCutWrong)

/-- 'laws.FnExactSizesOfCut': WHATEVER THE INPUT: true; the input reads as it did. -/
def fnExactSizesOfCutSpec : ChangeSpec := { name := "fnExactSizesOfCut", fn := fun _ => fun
  | [d1, d2] => { results := [.lit (.bool true)], args := [d1, d2] }
  | _ => none }
def fnExactSizesOfCutRow : OpenClaim := { program := "ytfecbmipnehmnaa", sum := "5169c0bf1c8869a2ed1164311ecbaa47faee04e8beac7d8f6a3729a2cb8db98b", func := "loop.example/g01236/laws.FnExactSizesOfCut", spec := "fnExactSizesOfCut", unfollowed := true, recurses := true, apart := false }
def FnExactSizesOfCutSaid : Prop := fnExactSizesOfCutRow.holds Try.pinned (OpenSpec.ofChange fnExactSizesOfCutSpec)

/-- ITS FALSE NEIGHBOUR: 'it returns false'. Refute it at one input. -/
def fnExactSizesOfCutWrong : ChangeSpec := { name := "fnExactSizesOfCut", fn := fun _ => fun
  | [d1, d2] => { results := [.lit (.bool false)], args := [d1, d2] }
  | _ => none }
def FnExactSizesOfCutWrongFalsely : Prop := fnExactSizesOfCutRow.holds Try.pinned (OpenSpec.ofChange fnExactSizesOfCutWrong)

/-- 'laws.FnExactCountWith': WHATEVER THE INPUT: true; the input reads as it did. -/
def fnExactCountWithSpec : ChangeSpec := { name := "fnExactCountWith", fn := fun _ => fun
  | [d1, d2] => { results := [.lit (.bool true)], args := [d1, d2] }
  | _ => none }
def fnExactCountWithRow : OpenClaim := { program := "ytfecbmipnehmnaa", sum := "5169c0bf1c8869a2ed1164311ecbaa47faee04e8beac7d8f6a3729a2cb8db98b", func := "loop.example/g01236/laws.FnExactCountWith", spec := "fnExactCountWith", unfollowed := true, recurses := true, apart := false }
def FnExactCountWithSaid : Prop := fnExactCountWithRow.holds Try.pinned (OpenSpec.ofChange fnExactCountWithSpec)

/-- ITS FALSE NEIGHBOUR: 'it returns false'. Refute it at one input. -/
def fnExactCountWithWrong : ChangeSpec := { name := "fnExactCountWith", fn := fun _ => fun
  | [d1, d2] => { results := [.lit (.bool false)], args := [d1, d2] }
  | _ => none }
def FnExactCountWithWrongFalsely : Prop := fnExactCountWithRow.holds Try.pinned (OpenSpec.ofChange fnExactCountWithWrong)

/- THE SECOND FORM. 'bulk': how many values and letters a reading holds, each counted each time it is reached (what is shared counts as often as it is met; a slice's spare places count too). A statement '..UptoSaid' is the law's where the arguments, and the package variables that the reading takes, are together of bulk at most 1048576: NARROWER than '..Said'. Prove '..Said' where nothing that the law and all that it calls make is longer than what came in: it says more and counts as full. Else prove '..UptoSaid'. A law counts once. -/
mutual
def uptoBulk {H : Type} : DataW H → Nat
  | .lit (.string bytes) => bytes.length + 1
  | .lit _ => 1
  | .nil => 1
  | .ptr d => uptoBulk d + 1
  | .slice elems spare => uptoBulkAll elems + uptoBulkAll spare + 1
  | .agg parts => uptoBulkAll parts + 1
  | .iface _ d => uptoBulk d + 1
  | .map entries => uptoBulkEntries entries + 1
  | .held _ => 1
def uptoBulkAll {H : Type} : List (DataW H) → Nat
  | [] => 0
  | d :: r => uptoBulk d + uptoBulkAll r
def uptoBulkEntries {H : Type} : List (Lit × DataW H) → Nat
  | [] => 0
  | x :: r => uptoBulkEntry x + uptoBulkEntries r
def uptoBulkEntry {H : Type} : Lit × DataW H → Nat
  | (.string bytes, d) => bytes.length + uptoBulk d + 1
  | (_, d) => uptoBulk d + 1
 end
def uptoSmall : (H : Type) → List (DataW H) → Bool := fun _ ds => decide (uptoBulkAll ds ≤ 1048576)
def OpenSpec.upto (s : _root_.Go.ChangeSpec) : _root_.Go.OpenSpec := { _root_.Go.OpenSpec.ofChange s with cond := some uptoSmall }

/-- 'laws.FnExactPiecesOfCut', WHERE WHAT IT READS IS OF BULK AT MOST 1048576: true; the input reads as it did. -/
def fnExactPiecesOfCutUptoRow : OpenClaim := { program := "ytfecbmipnehmnaa", sum := "5169c0bf1c8869a2ed1164311ecbaa47faee04e8beac7d8f6a3729a2cb8db98b", func := "loop.example/g01236/laws.FnExactPiecesOfCut", spec := "fnExactPiecesOfCut", unfollowed := true, recurses := true, apart := false, narrowed := true }
def FnExactPiecesOfCutUptoSaid : Prop := fnExactPiecesOfCutUptoRow.holds Try.pinned (OpenSpec.upto fnExactPiecesOfCutSpec)

/-- 'laws.FnExactIsEqualCut', WHERE WHAT IT READS IS OF BULK AT MOST 1048576: true; the input reads as it did. -/
def fnExactIsEqualCutUptoRow : OpenClaim := { program := "ytfecbmipnehmnaa", sum := "5169c0bf1c8869a2ed1164311ecbaa47faee04e8beac7d8f6a3729a2cb8db98b", func := "loop.example/g01236/laws.FnExactIsEqualCut", spec := "fnExactIsEqualCut", unfollowed := true, recurses := true, apart := false, narrowed := true }
def FnExactIsEqualCutUptoSaid : Prop := fnExactIsEqualCutUptoRow.holds Try.pinned (OpenSpec.upto fnExactIsEqualCutSpec)

/-- 'laws.FnExactCountFiner', WHERE WHAT IT READS IS OF BULK AT MOST 1048576: true; the input reads as it did. -/
def fnExactCountFinerUptoRow : OpenClaim := { program := "ytfecbmipnehmnaa", sum := "5169c0bf1c8869a2ed1164311ecbaa47faee04e8beac7d8f6a3729a2cb8db98b", func := "loop.example/g01236/laws.FnExactCountFiner", spec := "fnExactCountFiner", unfollowed := true, recurses := true, apart := false, narrowed := true }
def FnExactCountFinerUptoSaid : Prop := fnExactCountFinerUptoRow.holds Try.pinned (OpenSpec.upto fnExactCountFinerSpec)

/-- 'laws.FnExactFirstEqualCut', WHERE WHAT IT READS IS OF BULK AT MOST 1048576: true; the input reads as it did. -/
def fnExactFirstEqualCutUptoRow : OpenClaim := { program := "ytfecbmipnehmnaa", sum := "5169c0bf1c8869a2ed1164311ecbaa47faee04e8beac7d8f6a3729a2cb8db98b", func := "loop.example/g01236/laws.FnExactFirstEqualCut", spec := "fnExactFirstEqualCut", unfollowed := true, recurses := true, apart := false, narrowed := true }
def FnExactFirstEqualCutUptoSaid : Prop := fnExactFirstEqualCutUptoRow.holds Try.pinned (OpenSpec.upto fnExactFirstEqualCutSpec)

/-- 'laws.FnExactSizesOfCut', WHERE WHAT IT READS IS OF BULK AT MOST 1048576: true; the input reads as it did. -/
def fnExactSizesOfCutUptoRow : OpenClaim := { program := "ytfecbmipnehmnaa", sum := "5169c0bf1c8869a2ed1164311ecbaa47faee04e8beac7d8f6a3729a2cb8db98b", func := "loop.example/g01236/laws.FnExactSizesOfCut", spec := "fnExactSizesOfCut", unfollowed := true, recurses := true, apart := false, narrowed := true }
def FnExactSizesOfCutUptoSaid : Prop := fnExactSizesOfCutUptoRow.holds Try.pinned (OpenSpec.upto fnExactSizesOfCutSpec)

/-- 'laws.FnExactCountWith', WHERE WHAT IT READS IS OF BULK AT MOST 1048576: true; the input reads as it did. -/
def fnExactCountWithUptoRow : OpenClaim := { program := "ytfecbmipnehmnaa", sum := "5169c0bf1c8869a2ed1164311ecbaa47faee04e8beac7d8f6a3729a2cb8db98b", func := "loop.example/g01236/laws.FnExactCountWith", spec := "fnExactCountWith", unfollowed := true, recurses := true, apart := false, narrowed := true }
def FnExactCountWithUptoSaid : Prop := fnExactCountWithUptoRow.holds Try.pinned (OpenSpec.upto fnExactCountWithSpec)

end Rows
end Go.Proofs.Ytfecbmipnehmnaa
