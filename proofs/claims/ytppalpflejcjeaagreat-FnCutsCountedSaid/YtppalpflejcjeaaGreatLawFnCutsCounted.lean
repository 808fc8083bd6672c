/- The statement FnCutsCounted: whatever the arguments are, the law's function returns true and leaves them as they were. -/
import Derived.Test.YtppalpflejcjeaaGreatRows
import Derived.Test.YtppalpflejcjeaaGreatQCcWk6
import Derived.Test.YtppalpflejcjeaaGreatQGr2
import Derived.WalkKit
import Derived.ProofKit
import Derived.OpenShut
import Derived.ShutString
import Derived.ChangeOld
import Derived.Below
import Derived.SizedLaws
namespace Go.Proofs.YtppalpflejcjeaaGreat.fnCutsCounted
open Go.ChangeShapes Go.WideShapes Go.ChangeAt Go.RowKit Go.Gm Go.Proofs.W
set_option linter.unusedVariables false
theorem own : ownKnob Tryz.prog.godebug = none := by kernel_rfl
set_option maxRecDepth 100000 in
theorem lifted (os : Os) (started : os.Started) (H : Type) (enc : TypeId × Value → H) :
  ReturnsInHanded {} Tryz.checked os 3 .any (Rows.fnCutsCountedSpec.pre6 enc Tryz.prog Tryz.f3 Rows.fnCutsCountedRow.domain false) (Rows.fnCutsCountedSpec.post enc Tryz.prog Tryz.f3 false true false false) := by
 refine returnsInHanded_of_change_sized (C := Tryz.checked) own started (by kernel_rfl) Tryz.func3
  (ChangeSpec.witness6 (enc := enc) (C := Tryz.checked) false ⟨#[], #[.slice none 0 0, .slice none 0 0], []⟩ 8 (by kernel_rfl) (by kernel_rfl) (by kernel_rfl) (by kernel_rfl)) ?_
 intro W base args ds gs before hval hW _ hsz _
 exact law_row (lo := true) (m := 8) (tb := 4) (l := L0_sh.a) (F := L0) (by kernel_rfl) (by kernel_rfl) (by kernel_rfl) (by kernel_rfl) (by kernel_rfl) rfl
  (fun ds h => by
   have h : ds.length = 2 := h.trans (by kernel_rfl)
   match ds, h with
   | [_, _], _ => rfl)
  L0_ok L0_true hval hW hsz (by simp [GlobAt, globBlocks, globInts, globTabs])
theorem over : Rows.fnCutsCountedRow.holds Tryz.pinned (OpenSpec.ofChange Rows.fnCutsCountedSpec) :=
 OpenClaim.holds_of_wide 3 Tryz.f3 rfl rfl rfl rfl rfl rfl rfl ⟨rfl, rfl, rfl, rfl, rfl⟩ rfl rfl rfl rfl rfl (by kernel_rfl) Tryz.func3 (by kernel_rfl)
  (of_decide_eq_true (by kernel_rfl)) (by unfold Func.isWrapper; first | (rw [if_pos (by decide +kernel)]; kernel_rfl) | (rw [if_neg (by decide +kernel)]; exact ⟨rfl, rfl⟩))
  (fun os started H enc _ => lifted os started H enc)
theorem proved : Rows.FnCutsCountedSaid := over
end Go.Proofs.YtppalpflejcjeaaGreat.fnCutsCounted
namespace Go.Proofs.YtppalpflejcjeaaGreat
theorem fnCutsCounted_holds : Rows.FnCutsCountedSaid := fnCutsCounted.proved
#print axioms fnCutsCounted_holds
end Go.Proofs.YtppalpflejcjeaaGreat
