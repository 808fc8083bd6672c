/- The statement FnTriangulationsCounted: whatever the arguments are, the law's function returns true and leaves them as they were. -/
import Derived.Test.YtaoeghfoifhhcaaGreatRows
import Derived.Test.YtaoeghfoifhhcaaGreatMCxWk8
import Derived.Test.YtaoeghfoifhhcaaGreatMGr2
import Derived.WalkKit
import Derived.ProofKit
import Derived.OpenShut
import Derived.ShutString
import Derived.ChangeOld
import Derived.Below
import Derived.SizedLaws
namespace Go.Proofs.YtaoeghfoifhhcaaGreat.fnTriangulationsCounted
open Go.ChangeShapes Go.WideShapes Go.ChangeAt Go.RowKit Go.Gm Go.Proofs.W
set_option linter.unusedVariables false
theorem own : ownKnob Tryz.prog.godebug = none := by kernel_rfl
set_option maxRecDepth 100000 in
theorem lifted (os : Os) (started : os.Started) (H : Type) (enc : TypeId × Value → H) :
  ReturnsInHanded {} Tryz.checked os 6 .any (Rows.fnTriangulationsCountedSpec.pre6 enc Tryz.prog Tryz.f6 Rows.fnTriangulationsCountedRow.domain false) (Rows.fnTriangulationsCountedSpec.post enc Tryz.prog Tryz.f6 false true false false) := by
 refine returnsInHanded_of_change_sized (C := Tryz.checked) own started (by kernel_rfl) Tryz.func6
  (ChangeSpec.witness6 (enc := enc) (C := Tryz.checked) false ⟨#[], #[.slice none 0 0, .slice none 0 0], []⟩ 8 (by kernel_rfl) (by kernel_rfl) (by kernel_rfl) (by kernel_rfl)) ?_
 intro W base args ds gs before hval hW _ hsz _
 exact law_row (lo := true) (m := 8) (tb := 4) (l := L0_sh.a) (F := L0) (by kernel_rfl) (by kernel_rfl) (by kernel_rfl) (by kernel_rfl) (by kernel_rfl) rfl
  (fun ds h => by
   have h : ds.length = 2 := h.trans (by kernel_rfl)
   match ds, h with
   | [_, _], _ => rfl)
  L0_ok L0_true hval hW hsz (by simp [GlobAt, globBlocks, globInts, globTabs])
theorem over : Rows.fnTriangulationsCountedRow.holds Tryz.pinned (OpenSpec.ofChange Rows.fnTriangulationsCountedSpec) :=
 OpenClaim.holds_of_wide 6 Tryz.f6 rfl rfl rfl rfl rfl rfl rfl ⟨rfl, rfl, rfl, rfl, rfl⟩ rfl rfl rfl rfl rfl (by kernel_rfl) Tryz.func6 (by kernel_rfl)
  (of_decide_eq_true (by kernel_rfl)) (by unfold Func.isWrapper; first | (rw [if_pos (by decide +kernel)]; kernel_rfl) | (rw [if_neg (by decide +kernel)]; exact ⟨rfl, rfl⟩))
  (fun os started H enc _ => lifted os started H enc)
theorem proved : Rows.FnTriangulationsCountedSaid := over
end Go.Proofs.YtaoeghfoifhhcaaGreat.fnTriangulationsCounted
namespace Go.Proofs.YtaoeghfoifhhcaaGreat
theorem fnTriangulationsCounted_holds : Rows.FnTriangulationsCountedSaid := fnTriangulationsCounted.proved
#print axioms fnTriangulationsCounted_holds
end Go.Proofs.YtaoeghfoifhhcaaGreat
