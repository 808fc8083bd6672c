/- The statement FnExactHarderPuzzle: whatever the arguments are, the law's function returns true and leaves them as they were. -/
import Derived.Test.YtigenooglogcfaaRows
import Derived.Test.YtigenooglogcfaaHpWk4
import Derived.Test.YtigenooglogcfaaGr2
import Derived.WalkKit
import Derived.ProofKit
import Derived.OpenShut
import Derived.ShutString
import Derived.ChangeOld
import Derived.Below
import Derived.SizedLaws
namespace Go.Proofs.Ytigenooglogcfaa.fnExactHarderPuzzle
open Go.ChangeShapes Go.WideShapes Go.ChangeAt Go.RowKit Go.Gm Go.Proofs.W
set_option linter.unusedVariables false
theorem own : ownKnob Try.prog.godebug = none := by kernel_rfl
set_option maxRecDepth 100000 in
theorem lifted (os : Os) (started : os.Started) (H : Type) (enc : TypeId × Value → H) :
    ReturnsInHanded {} Try.checked os 8 .any (Rows.fnExactHarderPuzzleSpec.pre6 enc Try.prog Try.f8 Rows.fnExactHarderPuzzleRow.domain false) (Rows.fnExactHarderPuzzleSpec.post enc Try.prog Try.f8 false true false false) := by
  refine returnsInHanded_of_change_sized (C := Try.checked) own started (by kernel_rfl) Try.func8
    (ChangeSpec.witness6 (enc := enc) (C := Try.checked) false ⟨#[], #[.agg #[.slice none 0 0]], []⟩ 8 (by kernel_rfl) (by kernel_rfl) (by kernel_rfl) (by kernel_rfl)) ?_
  intro W base args ds gs before hval hW _ hsz _
  exact law_row (m := 8) (tb := 4) (l := l_FnExactHarderPuzzle_sh.a) (F := l_FnExactHarderPuzzle) (by kernel_rfl) (by kernel_rfl) (by kernel_rfl) (by kernel_rfl) (by kernel_rfl) rfl
    (fun ds h => by
      have h : ds.length = 1 := h.trans (by kernel_rfl)
      match ds, h with
      | [_], _ => rfl)
    l_FnExactHarderPuzzle_ok l_FnExactHarderPuzzle_true hval hW hsz
theorem over : Rows.fnExactHarderPuzzleRow.holds Try.pinned (OpenSpec.ofChange Rows.fnExactHarderPuzzleSpec) :=
  OpenClaim.holds_of_wide 8 Try.f8 rfl rfl rfl rfl rfl rfl rfl ⟨rfl, rfl, rfl, rfl, rfl⟩ rfl rfl rfl rfl rfl (by kernel_rfl) Try.func8 (by kernel_rfl)
    (of_decide_eq_true (by kernel_rfl)) (by unfold Func.isWrapper; first | (rw [if_pos (by decide +kernel)]; kernel_rfl) | (rw [if_neg (by decide +kernel)]; exact ⟨rfl, rfl⟩))
    (fun os started H enc _ => lifted os started H enc)
theorem proved : Rows.FnExactHarderPuzzleSaid := over
end Go.Proofs.Ytigenooglogcfaa.fnExactHarderPuzzle
namespace Go.Proofs.Ytigenooglogcfaa
/-- The row, under a short name, for the claim. -/
theorem fnExactHarderPuzzle_holds : Rows.FnExactHarderPuzzleSaid := fnExactHarderPuzzle.proved
#print axioms fnExactHarderPuzzle_holds
end Go.Proofs.Ytigenooglogcfaa
