/- The statement FnPuzzlesMade: whatever the arguments are, the law's function returns true and leaves them as they were. -/
import Derived.Test.YtaanfhjiihekeaaGreatRows
import Derived.Test.YtaanfhjiihekeaaGreatPmWk7
import Derived.Test.YtaanfhjiihekeaaGreatGr2
import Derived.WalkKit
import Derived.ProofKit
import Derived.OpenShut
import Derived.ShutString
import Derived.ChangeOld
import Derived.Below
import Derived.SizedLaws
namespace Go.Proofs.YtaanfhjiihekeaaGreat.fnPuzzlesMade
open Go.ChangeShapes Go.WideShapes Go.ChangeAt Go.RowKit Go.Gm Go.Proofs.W
set_option linter.unusedVariables false
theorem own : ownKnob Tryz.prog.godebug = none := by kernel_rfl
set_option maxRecDepth 100000 in
theorem lifted (os : Os) (started : os.Started) (H : Type) (enc : TypeId × Value → H) :
    ReturnsInHanded {} Tryz.checked os 5 .any (Rows.fnPuzzlesMadeSpec.pre6 enc Tryz.prog Tryz.f5 Rows.fnPuzzlesMadeRow.domain false) (Rows.fnPuzzlesMadeSpec.post enc Tryz.prog Tryz.f5 false true false false) := by
  refine returnsInHanded_of_change_sized (C := Tryz.checked) own started (by kernel_rfl) Tryz.func5
    (ChangeSpec.witness6 (enc := enc) (C := Tryz.checked) false ⟨#[], #[.slice none 0 0, .slice none 0 0], []⟩ 8 (by kernel_rfl) (by kernel_rfl) (by kernel_rfl) (by kernel_rfl)) ?_
  intro W base args ds gs before hval hW _ hsz _
  exact law_row (lo := true) (m := 8) (tb := 4) (l := l_FnPuzzlesMade_sh.a) (F := l_FnPuzzlesMade) (by kernel_rfl) (by kernel_rfl) (by kernel_rfl) (by kernel_rfl) (by kernel_rfl) rfl
    (fun ds h => by
      have h : ds.length = 2 := h.trans (by kernel_rfl)
      match ds, h with
      | [_, _], _ => rfl)
    l_FnPuzzlesMade_ok l_FnPuzzlesMade_true hval hW hsz
theorem over : Rows.fnPuzzlesMadeRow.holds Tryz.pinned (OpenSpec.ofChange Rows.fnPuzzlesMadeSpec) :=
  OpenClaim.holds_of_wide 5 Tryz.f5 rfl rfl rfl rfl rfl rfl rfl ⟨rfl, rfl, rfl, rfl, rfl⟩ rfl rfl rfl rfl rfl (by kernel_rfl) Tryz.func5 (by kernel_rfl)
    (of_decide_eq_true (by kernel_rfl)) (by unfold Func.isWrapper; first | (rw [if_pos (by decide +kernel)]; kernel_rfl) | (rw [if_neg (by decide +kernel)]; exact ⟨rfl, rfl⟩))
    (fun os started H enc _ => lifted os started H enc)
theorem proved : Rows.FnPuzzlesMadeSaid := over
end Go.Proofs.YtaanfhjiihekeaaGreat.fnPuzzlesMade
namespace Go.Proofs.YtaanfhjiihekeaaGreat
/-- The row, under a short name, for the claim. -/
theorem fnPuzzlesMade_holds : Rows.FnPuzzlesMadeSaid := fnPuzzlesMade.proved
#print axioms fnPuzzlesMade_holds
end Go.Proofs.YtaanfhjiihekeaaGreat
