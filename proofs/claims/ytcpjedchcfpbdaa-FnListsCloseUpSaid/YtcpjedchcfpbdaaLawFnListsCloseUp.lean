/- The statement FnListsCloseUp: whatever the arguments are, the law's function returns true and leaves them as they were. -/
import Derived.Test.YtcpjedchcfpbdaaRows
import Derived.Test.YtcpjedchcfpbdaaLcWk4
import Derived.Test.YtcpjedchcfpbdaaGr2
import Derived.WalkKit
import Derived.ProofKit
import Derived.OpenShut
import Derived.ShutString
import Derived.ChangeOld
import Derived.Below
import Derived.SizedLaws
namespace Go.Proofs.Ytcpjedchcfpbdaa.fnListsCloseUp
open Go.ChangeShapes Go.WideShapes Go.ChangeAt Go.RowKit Go.Gm Go.Proofs.W
set_option linter.unusedVariables false
theorem own : ownKnob Try.prog.godebug = none := by kernel_rfl
set_option maxRecDepth 100000 in
theorem lifted (os : Os) (started : os.Started) (H : Type) (enc : TypeId × Value → H) :
    ReturnsInHanded {} Try.checked os 4 .any (Rows.fnListsCloseUpSpec.pre6 enc Try.prog Try.f4 Rows.fnListsCloseUpRow.domain false) (Rows.fnListsCloseUpSpec.post enc Try.prog Try.f4 false true false false) := by
  refine returnsInHanded_of_change_sized (C := Try.checked) own started (by kernel_rfl) Try.func4
    (ChangeSpec.witness6 (enc := enc) (C := Try.checked) false ⟨#[], #[.slice none 0 0, .slice none 0 0], []⟩ 8 (by kernel_rfl) (by kernel_rfl) (by kernel_rfl) (by kernel_rfl)) ?_
  intro W base args ds gs before hval hW _ hsz _
  exact law_row (lo := true) (m := 8) (tb := 4) (l := l_FnListsCloseUp_sh.a) (F := l_FnListsCloseUp) (by kernel_rfl) (by kernel_rfl) (by kernel_rfl) (by kernel_rfl) (by kernel_rfl) rfl
    (fun ds h => by
      have h : ds.length = 2 := h.trans (by kernel_rfl)
      match ds, h with
      | [_, _], _ => rfl)
    l_FnListsCloseUp_ok l_FnListsCloseUp_true hval hW hsz
theorem over : Rows.fnListsCloseUpRow.holds Try.pinned (OpenSpec.ofChange Rows.fnListsCloseUpSpec) :=
  OpenClaim.holds_of_wide 4 Try.f4 rfl rfl rfl rfl rfl rfl rfl ⟨rfl, rfl, rfl, rfl, rfl⟩ rfl rfl rfl rfl rfl (by kernel_rfl) Try.func4 (by kernel_rfl)
    (of_decide_eq_true (by kernel_rfl)) (by unfold Func.isWrapper; first | (rw [if_pos (by decide +kernel)]; kernel_rfl) | (rw [if_neg (by decide +kernel)]; exact ⟨rfl, rfl⟩))
    (fun os started H enc _ => lifted os started H enc)
theorem proved : Rows.FnListsCloseUpSaid := over
end Go.Proofs.Ytcpjedchcfpbdaa.fnListsCloseUp
namespace Go.Proofs.Ytcpjedchcfpbdaa
/-- The row, under a short name, for the claim. -/
theorem fnListsCloseUp_holds : Rows.FnListsCloseUpSaid := fnListsCloseUp.proved
#print axioms fnListsCloseUp_holds
end Go.Proofs.Ytcpjedchcfpbdaa
