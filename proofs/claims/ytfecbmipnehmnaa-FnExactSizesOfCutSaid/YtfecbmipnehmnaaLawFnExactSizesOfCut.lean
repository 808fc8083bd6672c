/- The statement FnExactSizesOfCut: whatever the arguments are, the law's function returns true and leaves them as they were. -/
import Derived.Test.YtfecbmipnehmnaaRows
import Derived.Test.YtfecbmipnehmnaaSzWk4
import Derived.Test.YtfecbmipnehmnaaGr2
import Derived.WalkKit
import Derived.ProofKit
import Derived.OpenShut
import Derived.ShutString
import Derived.ChangeOld
import Derived.Below
import Derived.SizedLaws
namespace Go.Proofs.Ytfecbmipnehmnaa.fnExactSizesOfCut
open Go.ChangeShapes Go.WideShapes Go.ChangeAt Go.RowKit Go.Gm Go.Proofs.W
set_option linter.unusedVariables false
theorem own : ownKnob Try.prog.godebug = none := by kernel_rfl
set_option maxRecDepth 100000 in
theorem lifted (os : Os) (started : os.Started) (H : Type) (enc : TypeId × Value → H) :
    ReturnsInHanded {} Try.checked os 7 .any (Rows.fnExactSizesOfCutSpec.pre6 enc Try.prog Try.f7 Rows.fnExactSizesOfCutRow.domain false) (Rows.fnExactSizesOfCutSpec.post enc Try.prog Try.f7 false true false false) := by
  refine returnsInHanded_of_change_sized (C := Try.checked) own started (by kernel_rfl) Try.func7
    (ChangeSpec.witness6 (enc := enc) (C := Try.checked) false ⟨#[], #[.int .i64 0, .slice none 0 0], []⟩ 8 (by kernel_rfl) (by kernel_rfl) (by kernel_rfl) (by kernel_rfl)) ?_
  intro W base args ds gs before hval hW _ hsz _
  exact law_row (lo := false) (m := 8) (tb := 4) (l := l_FnExactSizesOfCut_sh.a) (F := l_FnExactSizesOfCut) (by kernel_rfl) (by kernel_rfl) (by kernel_rfl) (by kernel_rfl) (by kernel_rfl) rfl
    (fun ds h => by
      have h : ds.length = 2 := h.trans (by kernel_rfl)
      match ds, h with
      | [_, _], _ => rfl)
    l_FnExactSizesOfCut_ok l_FnExactSizesOfCut_true hval hW hsz
theorem over : Rows.fnExactSizesOfCutRow.holds Try.pinned (OpenSpec.ofChange Rows.fnExactSizesOfCutSpec) :=
  OpenClaim.holds_of_wide 7 Try.f7 rfl rfl rfl rfl rfl rfl rfl ⟨rfl, rfl, rfl, rfl, rfl⟩ rfl rfl rfl rfl rfl (by kernel_rfl) Try.func7 (by kernel_rfl)
    (of_decide_eq_true (by kernel_rfl)) (by unfold Func.isWrapper; first | (rw [if_pos (by decide +kernel)]; kernel_rfl) | (rw [if_neg (by decide +kernel)]; exact ⟨rfl, rfl⟩))
    (fun os started H enc _ => lifted os started H enc)
theorem proved : Rows.FnExactSizesOfCutSaid := over
end Go.Proofs.Ytfecbmipnehmnaa.fnExactSizesOfCut
namespace Go.Proofs.Ytfecbmipnehmnaa
/-- The row, under a short name, for the claim. -/
theorem fnExactSizesOfCut_holds : Rows.FnExactSizesOfCutSaid := fnExactSizesOfCut.proved
#print axioms fnExactSizesOfCut_holds
end Go.Proofs.Ytfecbmipnehmnaa
