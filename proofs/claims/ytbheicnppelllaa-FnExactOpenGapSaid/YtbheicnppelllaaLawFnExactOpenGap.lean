/- The statement FnExactOpenGap: whatever the arguments are, the law's function returns true and leaves them as they were. -/
import Derived.Test.YtbheicnppelllaaRows
import Derived.Test.YtbheicnppelllaaFgWk1
import Derived.Test.YtbheicnppelllaaGr2
import Derived.WalkKit
import Derived.ProofKit
import Derived.OpenShut
import Derived.ShutString
import Derived.ChangeOld
import Derived.Below
import Derived.SizedLaws
namespace Go.Proofs.Ytbheicnppelllaa.fnExactOpenGap
open Go.ChangeShapes Go.WideShapes Go.ChangeAt Go.RowKit Go.Gm Go.Proofs.W
set_option linter.unusedVariables false
theorem own : ownKnob Try.prog.godebug = none := by kernel_rfl
set_option maxRecDepth 100000 in
theorem lifted (os : Os) (started : os.Started) (H : Type) (enc : TypeId × Value → H) :
    ReturnsInHanded {} Try.checked os 9 .any (Rows.fnExactOpenGapSpec.pre6 enc Try.prog Try.f9 Rows.fnExactOpenGapRow.domain false) (Rows.fnExactOpenGapSpec.post enc Try.prog Try.f9 false true false false) := by
  refine returnsInHanded_of_change_sized (C := Try.checked) own started (by kernel_rfl) Try.func9
    (ChangeSpec.witness6 (enc := enc) (C := Try.checked) false ⟨#[], #[.agg #[.slice none 0 0], .int .i64 0], []⟩ 8 (by kernel_rfl) (by kernel_rfl) (by kernel_rfl) (by kernel_rfl)) ?_
  intro W base args ds gs before hval hW _ hsz _
  exact law_row (m := 8) (tb := 4) (l := l_FnExactOpenGap_sh.a) (F := l_FnExactOpenGap) (by kernel_rfl) (by kernel_rfl) (by kernel_rfl) (by kernel_rfl) (by kernel_rfl) rfl
    (fun ds h => by
      have h : ds.length = 2 := h.trans (by kernel_rfl)
      match ds, h with
      | [_, _], _ => rfl)
    l_FnExactOpenGap_ok l_FnExactOpenGap_true hval hW hsz
theorem over : Rows.fnExactOpenGapRow.holds Try.pinned (OpenSpec.ofChange Rows.fnExactOpenGapSpec) :=
  OpenClaim.holds_of_wide 9 Try.f9 rfl rfl rfl rfl rfl rfl rfl ⟨rfl, rfl, rfl, rfl, rfl⟩ rfl rfl rfl rfl rfl (by kernel_rfl) Try.func9 (by kernel_rfl)
    (of_decide_eq_true (by kernel_rfl)) (by unfold Func.isWrapper; first | (rw [if_pos (by decide +kernel)]; kernel_rfl) | (rw [if_neg (by decide +kernel)]; exact ⟨rfl, rfl⟩))
    (fun os started H enc _ => lifted os started H enc)
theorem proved : Rows.FnExactOpenGapSaid := over
end Go.Proofs.Ytbheicnppelllaa.fnExactOpenGap
namespace Go.Proofs.Ytbheicnppelllaa
/-- The row, under a short name, for the claim. -/
theorem fnExactOpenGap_holds : Rows.FnExactOpenGapSaid := fnExactOpenGap.proved
#print axioms fnExactOpenGap_holds
end Go.Proofs.Ytbheicnppelllaa
