/- The statement FnExactPutOne: whatever the arguments are, the law's function returns true and leaves them as they were. -/
import Derived.Test.YtbheicnppelllaaRows
import Derived.Test.YtbheicnppelllaaPoWk1
import Derived.Test.YtbheicnppelllaaGr2
import Derived.WalkKit
import Derived.ProofKit
import Derived.OpenShut
import Derived.ShutString
import Derived.ChangeOld
import Derived.Below
import Derived.SizedLaws
namespace Go.Proofs.Ytbheicnppelllaa.fnExactPutOne
open Go.ChangeShapes Go.WideShapes Go.ChangeAt Go.RowKit Go.Gm Go.Proofs.W
set_option linter.unusedVariables false
theorem own : ownKnob Try.prog.godebug = none := by kernel_rfl
set_option maxRecDepth 100000 in
theorem lifted (os : Os) (started : os.Started) (H : Type) (enc : TypeId × Value → H) :
    ReturnsInHanded {} Try.checked os 13 .any (Rows.fnExactPutOneSpec.pre6 enc Try.prog Try.f13 Rows.fnExactPutOneRow.domain false) (Rows.fnExactPutOneSpec.post enc Try.prog Try.f13 false true false false) := by
  refine returnsInHanded_of_change_sized (C := Try.checked) own started (by kernel_rfl) Try.func13
    (ChangeSpec.witness6 (enc := enc) (C := Try.checked) false ⟨#[], #[.slice none 0 0, .int .i64 0], []⟩ 8 (by kernel_rfl) (by kernel_rfl) (by kernel_rfl) (by kernel_rfl)) ?_
  intro W base args ds gs before hval hW _ hsz _
  exact law_row (m := 8) (tb := 4) (l := l_FnExactPutOne_sh.a) (F := l_FnExactPutOne) (by kernel_rfl) (by kernel_rfl) (by kernel_rfl) (by kernel_rfl) (by kernel_rfl) rfl
    (fun ds h => by
      have h : ds.length = 2 := h.trans (by kernel_rfl)
      match ds, h with
      | [_, _], _ => rfl)
    l_FnExactPutOne_ok l_FnExactPutOne_true hval hW hsz
theorem over : Rows.fnExactPutOneRow.holds Try.pinned (OpenSpec.ofChange Rows.fnExactPutOneSpec) :=
  OpenClaim.holds_of_wide 13 Try.f13 rfl rfl rfl rfl rfl rfl rfl ⟨rfl, rfl, rfl, rfl, rfl⟩ rfl rfl rfl rfl rfl (by kernel_rfl) Try.func13 (by kernel_rfl)
    (of_decide_eq_true (by kernel_rfl)) (by unfold Func.isWrapper; first | (rw [if_pos (by decide +kernel)]; kernel_rfl) | (rw [if_neg (by decide +kernel)]; exact ⟨rfl, rfl⟩))
    (fun os started H enc _ => lifted os started H enc)
theorem proved : Rows.FnExactPutOneSaid := over
end Go.Proofs.Ytbheicnppelllaa.fnExactPutOne
namespace Go.Proofs.Ytbheicnppelllaa
/-- The row, under a short name, for the claim. -/
theorem fnExactPutOne_holds : Rows.FnExactPutOneSaid := fnExactPutOne.proved
#print axioms fnExactPutOne_holds
end Go.Proofs.Ytbheicnppelllaa
