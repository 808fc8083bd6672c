/- The statement FnExactCountWith: whatever the arguments are, the law's function returns true and leaves them as they were. -/
import Derived.Test.YtfecbmipnehmnaaRows
import Derived.Test.YtfecbmipnehmnaaCfWk4
import Derived.Test.YtfecbmipnehmnaaGr2
import Derived.WalkKit
import Derived.ProofKit
import Derived.OpenShut
import Derived.ShutString
import Derived.ChangeOld
import Derived.Below
import Derived.SizedLaws
namespace Go.Proofs.Ytfecbmipnehmnaa.fnExactCountWith
open Go.ChangeShapes Go.WideShapes Go.ChangeAt Go.RowKit Go.Gm Go.Proofs.W
set_option linter.unusedVariables false
theorem own : ownKnob Try.prog.godebug = none := by kernel_rfl
set_option maxRecDepth 100000 in
theorem lifted (os : Os) (started : os.Started) (H : Type) (enc : TypeId × Value → H) :
    ReturnsInHanded {} Try.checked os 8 .any (Rows.fnExactCountWithSpec.pre6 enc Try.prog Try.f8 Rows.fnExactCountWithRow.domain false) (Rows.fnExactCountWithSpec.post enc Try.prog Try.f8 false true false false) := by
  refine returnsInHanded_of_change_sized (C := Try.checked) own started (by kernel_rfl) Try.func8
    (ChangeSpec.witness6 (enc := enc) (C := Try.checked) false ⟨#[], #[.int .i64 0, .slice none 0 0], []⟩ 8 (by kernel_rfl) (by kernel_rfl) (by kernel_rfl) (by kernel_rfl)) ?_
  intro W base args ds gs before hval hW _ hsz _
  exact law_row (lo := false) (m := 8) (tb := 4) (l := l_FnExactCountWith_sh.a) (F := l_FnExactCountWith) (by kernel_rfl) (by kernel_rfl) (by kernel_rfl) (by kernel_rfl) (by kernel_rfl) rfl
    (fun ds h => by
      have h : ds.length = 2 := h.trans (by kernel_rfl)
      match ds, h with
      | [_, _], _ => rfl)
    l_FnExactCountWith_ok l_FnExactCountWith_true hval hW hsz
theorem over : Rows.fnExactCountWithRow.holds Try.pinned (OpenSpec.ofChange Rows.fnExactCountWithSpec) :=
  OpenClaim.holds_of_wide 8 Try.f8 rfl rfl rfl rfl rfl rfl rfl ⟨rfl, rfl, rfl, rfl, rfl⟩ rfl rfl rfl rfl rfl (by kernel_rfl) Try.func8 (by kernel_rfl)
    (of_decide_eq_true (by kernel_rfl)) (by unfold Func.isWrapper; first | (rw [if_pos (by decide +kernel)]; kernel_rfl) | (rw [if_neg (by decide +kernel)]; exact ⟨rfl, rfl⟩))
    (fun os started H enc _ => lifted os started H enc)
theorem proved : Rows.FnExactCountWithSaid := over
end Go.Proofs.Ytfecbmipnehmnaa.fnExactCountWith
namespace Go.Proofs.Ytfecbmipnehmnaa
/-- The row, under a short name, for the claim. -/
theorem fnExactCountWith_holds : Rows.FnExactCountWithSaid := fnExactCountWith.proved
#print axioms fnExactCountWith_holds
end Go.Proofs.Ytfecbmipnehmnaa
