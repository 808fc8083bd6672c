/- The statement FnCutsIntoPieces: whatever the arguments are, the law's function returns true and leaves them as they were. -/
import Derived.Test.YtppalpflejcjeaaGreatRows
import Derived.Test.YtppalpflejcjeaaGreatMCiWk6
import Derived.Test.YtppalpflejcjeaaGreatMGr2
import Derived.WalkKit
import Derived.ProofKit
import Derived.OpenShut
import Derived.ShutString
import Derived.ChangeOld
import Derived.Below
import Derived.SizedLaws
namespace Go.Proofs.YtppalpflejcjeaaGreat.fnCutsIntoPieces
open Go.ChangeShapes Go.WideShapes Go.ChangeAt Go.RowKit Go.Gm Go.Proofs.W
set_option linter.unusedVariables false
theorem own : ownKnob Tryz.prog.godebug = none := by kernel_rfl
set_option maxRecDepth 100000 in
theorem lifted (os : Os) (started : os.Started) (H : Type) (enc : TypeId × Value → H) :
  ReturnsInHanded {} Tryz.checked os 4 .any (Rows.fnCutsIntoPiecesSpec.pre6 enc Tryz.prog Tryz.f4 Rows.fnCutsIntoPiecesRow.domain false) (Rows.fnCutsIntoPiecesSpec.post enc Tryz.prog Tryz.f4 false true false false) := by
 refine returnsInHanded_of_change_sized (C := Tryz.checked) own started (by kernel_rfl) Tryz.func4
  (ChangeSpec.witness6 (enc := enc) (C := Tryz.checked) false ⟨#[], #[.slice none 0 0, .slice none 0 0], []⟩ 8 (by kernel_rfl) (by kernel_rfl) (by kernel_rfl) (by kernel_rfl)) ?_
 intro W base args ds gs before hval hW _ hsz _
 exact law_row (lo := true) (m := 8) (tb := 4) (l := L0_sh.a) (F := L0) (by kernel_rfl) (by kernel_rfl) (by kernel_rfl) (by kernel_rfl) (by kernel_rfl) rfl
  (fun ds h => by
   have h : ds.length = 2 := h.trans (by kernel_rfl)
   match ds, h with
   | [_, _], _ => rfl)
  L0_ok L0_true hval hW hsz (by simp [GlobAt, globBlocks, globInts, globTabs])
theorem over : Rows.fnCutsIntoPiecesRow.holds Tryz.pinned (OpenSpec.ofChange Rows.fnCutsIntoPiecesSpec) :=
 OpenClaim.holds_of_wide 4 Tryz.f4 rfl rfl rfl rfl rfl rfl rfl ⟨rfl, rfl, rfl, rfl, rfl⟩ rfl rfl rfl rfl rfl (by kernel_rfl) Tryz.func4 (by kernel_rfl)
  (of_decide_eq_true (by kernel_rfl)) (by unfold Func.isWrapper; first | (rw [if_pos (by decide +kernel)]; kernel_rfl) | (rw [if_neg (by decide +kernel)]; exact ⟨rfl, rfl⟩))
  (fun os started H enc _ => lifted os started H enc)
theorem proved : Rows.FnCutsIntoPiecesSaid := over
end Go.Proofs.YtppalpflejcjeaaGreat.fnCutsIntoPieces
namespace Go.Proofs.YtppalpflejcjeaaGreat
theorem fnCutsIntoPieces_holds : Rows.FnCutsIntoPiecesSaid := fnCutsIntoPieces.proved
#print axioms fnCutsIntoPieces_holds
end Go.Proofs.YtppalpflejcjeaaGreat
