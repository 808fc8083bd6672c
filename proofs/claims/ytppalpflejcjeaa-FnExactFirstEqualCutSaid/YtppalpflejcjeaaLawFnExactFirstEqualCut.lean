/- The statement FnExactFirstEqualCut: whatever the arguments are, the law's function returns true and leaves them as they were. -/
import Derived.Test.YtppalpflejcjeaaRows
import Derived.Test.YtppalpflejcjeaaFeWk4
import Derived.Test.YtppalpflejcjeaaGr2
import Derived.WalkKit
import Derived.ProofKit
import Derived.OpenShut
import Derived.ShutString
import Derived.ChangeOld
import Derived.Below
import Derived.SizedLaws
namespace Go.Proofs.Ytppalpflejcjeaa.fnExactFirstEqualCut
open Go.ChangeShapes Go.WideShapes Go.ChangeAt Go.RowKit Go.Gm Go.Proofs.W
set_option linter.unusedVariables false
theorem own : ownKnob Try.prog.godebug = none := by kernel_rfl
set_option maxRecDepth 100000 in
theorem lifted (os : Os) (started : os.Started) (H : Type) (enc : TypeId × Value → H) :
    ReturnsInHanded {} Try.checked os 6 .any (Rows.fnExactFirstEqualCutSpec.pre6 enc Try.prog Try.f6 Rows.fnExactFirstEqualCutRow.domain false) (Rows.fnExactFirstEqualCutSpec.post enc Try.prog Try.f6 false true false false) := by
  refine returnsInHanded_of_change_sized (C := Try.checked) own started (by kernel_rfl) Try.func6
    (ChangeSpec.witness6 (enc := enc) (C := Try.checked) false ⟨#[], #[.int .i64 0, .int .i64 0], []⟩ 8 (by kernel_rfl) (by kernel_rfl) (by kernel_rfl) (by kernel_rfl)) ?_
  intro W base args ds gs before hval hW _ hsz _
  exact law_row (lo := false) (m := 8) (tb := 4) (l := l_FnExactFirstEqualCut_sh.a) (F := l_FnExactFirstEqualCut) (by kernel_rfl) (by kernel_rfl) (by kernel_rfl) (by kernel_rfl) (by kernel_rfl) rfl
    (fun ds h => by
      have h : ds.length = 2 := h.trans (by kernel_rfl)
      match ds, h with
      | [_, _], _ => rfl)
    l_FnExactFirstEqualCut_ok l_FnExactFirstEqualCut_true hval hW hsz (by simp [GlobAt, globBlocks, globInts, globTabs])
theorem over : Rows.fnExactFirstEqualCutRow.holds Try.pinned (OpenSpec.ofChange Rows.fnExactFirstEqualCutSpec) :=
  OpenClaim.holds_of_wide 6 Try.f6 rfl rfl rfl rfl rfl rfl rfl ⟨rfl, rfl, rfl, rfl, rfl⟩ rfl rfl rfl rfl rfl (by kernel_rfl) Try.func6 (by kernel_rfl)
    (of_decide_eq_true (by kernel_rfl)) (by unfold Func.isWrapper; first | (rw [if_pos (by decide +kernel)]; kernel_rfl) | (rw [if_neg (by decide +kernel)]; exact ⟨rfl, rfl⟩))
    (fun os started H enc _ => lifted os started H enc)
theorem proved : Rows.FnExactFirstEqualCutSaid := over
end Go.Proofs.Ytppalpflejcjeaa.fnExactFirstEqualCut
namespace Go.Proofs.Ytppalpflejcjeaa
/-- The row, under a short name, for the claim. -/
theorem fnExactFirstEqualCut_holds : Rows.FnExactFirstEqualCutSaid := fnExactFirstEqualCut.proved
#print axioms fnExactFirstEqualCut_holds
end Go.Proofs.Ytppalpflejcjeaa
