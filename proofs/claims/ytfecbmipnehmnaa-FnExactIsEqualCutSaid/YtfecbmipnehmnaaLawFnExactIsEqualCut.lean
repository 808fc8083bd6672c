/- The statement FnExactIsEqualCut: whatever the arguments are, the law's function returns true and leaves them as they were. -/
import Derived.Test.YtfecbmipnehmnaaRows
import Derived.Test.YtfecbmipnehmnaaCfWk3
import Derived.Test.YtfecbmipnehmnaaGr2
import Derived.WalkKit
import Derived.ProofKit
import Derived.OpenShut
import Derived.ShutString
import Derived.ChangeOld
import Derived.Below
import Derived.SizedLaws
namespace Go.Proofs.Ytfecbmipnehmnaa.fnExactIsEqualCut
open Go.ChangeShapes Go.WideShapes Go.ChangeAt Go.RowKit Go.Gm Go.Proofs.W
set_option linter.unusedVariables false
theorem own : ownKnob Try.prog.godebug = none := by kernel_rfl
set_option maxRecDepth 100000 in
theorem lifted (os : Os) (started : os.Started) (H : Type) (enc : TypeId × Value → H) :
    ReturnsInHanded {} Try.checked os 4 .any (Rows.fnExactIsEqualCutSpec.pre6 enc Try.prog Try.f4 Rows.fnExactIsEqualCutRow.domain false) (Rows.fnExactIsEqualCutSpec.post enc Try.prog Try.f4 false true false false) := by
  refine returnsInHanded_of_change_sized (C := Try.checked) own started (by kernel_rfl) Try.func4
    (ChangeSpec.witness6 (enc := enc) (C := Try.checked) false ⟨#[], #[.int .i64 0, .slice none 0 0, .int .i64 0], []⟩ 8 (by kernel_rfl) (by kernel_rfl) (by kernel_rfl) (by kernel_rfl)) ?_
  intro W base args ds gs before hval hW _ hsz _
  exact law_row (lo := false) (m := 8) (tb := 4) (l := l_FnExactIsEqualCut_sh.a) (F := l_FnExactIsEqualCut) (by kernel_rfl) (by kernel_rfl) (by kernel_rfl) (by kernel_rfl) (by kernel_rfl) rfl
    (fun ds h => by
      have h : ds.length = 3 := h.trans (by kernel_rfl)
      match ds, h with
      | [_, _, _], _ => rfl)
    l_FnExactIsEqualCut_ok l_FnExactIsEqualCut_true hval hW hsz
theorem over : Rows.fnExactIsEqualCutRow.holds Try.pinned (OpenSpec.ofChange Rows.fnExactIsEqualCutSpec) :=
  OpenClaim.holds_of_wide 4 Try.f4 rfl rfl rfl rfl rfl rfl rfl ⟨rfl, rfl, rfl, rfl, rfl⟩ rfl rfl rfl rfl rfl (by kernel_rfl) Try.func4 (by kernel_rfl)
    (of_decide_eq_true (by kernel_rfl)) (by unfold Func.isWrapper; first | (rw [if_pos (by decide +kernel)]; kernel_rfl) | (rw [if_neg (by decide +kernel)]; exact ⟨rfl, rfl⟩))
    (fun os started H enc _ => lifted os started H enc)
theorem proved : Rows.FnExactIsEqualCutSaid := over
end Go.Proofs.Ytfecbmipnehmnaa.fnExactIsEqualCut
namespace Go.Proofs.Ytfecbmipnehmnaa
/-- The row, under a short name, for the claim. -/
theorem fnExactIsEqualCut_holds : Rows.FnExactIsEqualCutSaid := fnExactIsEqualCut.proved
#print axioms fnExactIsEqualCut_holds
end Go.Proofs.Ytfecbmipnehmnaa
