/- The statement FnTermsChanged: whatever the arguments are, the law's function returns true and leaves them as they were. -/
import Derived.Test.YtcpjedchcfpbdaaRows
import Derived.Test.YtcpjedchcfpbdaaTcWk3
import Derived.Test.YtcpjedchcfpbdaaGr2
import Derived.WalkKit
import Derived.ProofKit
import Derived.OpenShut
import Derived.ShutString
import Derived.ChangeOld
import Derived.Below
import Derived.SizedLaws
namespace Go.Proofs.Ytcpjedchcfpbdaa.fnTermsChanged
open Go.ChangeShapes Go.WideShapes Go.ChangeAt Go.RowKit Go.Gm Go.Proofs.W
set_option linter.unusedVariables false
theorem own : ownKnob Try.prog.godebug = none := by kernel_rfl
set_option maxRecDepth 100000 in
theorem lifted (os : Os) (started : os.Started) (H : Type) (enc : TypeId × Value → H) :
    ReturnsInHanded {} Try.checked os 3 .any (Rows.fnTermsChangedSpec.pre6 enc Try.prog Try.f3 Rows.fnTermsChangedRow.domain false) (Rows.fnTermsChangedSpec.post enc Try.prog Try.f3 false true false false) := by
  refine returnsInHanded_of_change_sized (C := Try.checked) own started (by kernel_rfl) Try.func3
    (ChangeSpec.witness6 (enc := enc) (C := Try.checked) false ⟨#[], #[.slice none 0 0, .slice none 0 0], []⟩ 8 (by kernel_rfl) (by kernel_rfl) (by kernel_rfl) (by kernel_rfl)) ?_
  intro W base args ds gs before hval hW _ hsz _
  exact law_row (lo := true) (m := 8) (tb := 4) (l := l_FnTermsChanged_sh.a) (F := l_FnTermsChanged) (by kernel_rfl) (by kernel_rfl) (by kernel_rfl) (by kernel_rfl) (by kernel_rfl) rfl
    (fun ds h => by
      have h : ds.length = 2 := h.trans (by kernel_rfl)
      match ds, h with
      | [_, _], _ => rfl)
    l_FnTermsChanged_ok l_FnTermsChanged_true hval hW hsz
theorem over : Rows.fnTermsChangedRow.holds Try.pinned (OpenSpec.ofChange Rows.fnTermsChangedSpec) :=
  OpenClaim.holds_of_wide 3 Try.f3 rfl rfl rfl rfl rfl rfl rfl ⟨rfl, rfl, rfl, rfl, rfl⟩ rfl rfl rfl rfl rfl (by kernel_rfl) Try.func3 (by kernel_rfl)
    (of_decide_eq_true (by kernel_rfl)) (by unfold Func.isWrapper; first | (rw [if_pos (by decide +kernel)]; kernel_rfl) | (rw [if_neg (by decide +kernel)]; exact ⟨rfl, rfl⟩))
    (fun os started H enc _ => lifted os started H enc)
theorem proved : Rows.FnTermsChangedSaid := over
end Go.Proofs.Ytcpjedchcfpbdaa.fnTermsChanged
namespace Go.Proofs.Ytcpjedchcfpbdaa
/-- The row, under a short name, for the claim. -/
theorem fnTermsChanged_holds : Rows.FnTermsChangedSaid := fnTermsChanged.proved
#print axioms fnTermsChanged_holds
end Go.Proofs.Ytcpjedchcfpbdaa
