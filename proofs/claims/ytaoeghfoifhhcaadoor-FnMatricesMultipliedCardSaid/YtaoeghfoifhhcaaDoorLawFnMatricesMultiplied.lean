/- The card of the statement FnMatricesMultiplied: whatever the arguments are, the law's function returns true and leaves them as they were; the listed package variables are tied to the program's text. -/
import Derived.Test.YtaoeghfoifhhcaaDoorRows
import Derived.Test.YtaoeghfoifhhcaaDoorCards
import Derived.Test.YtaoeghfoifhhcaaDoorTie
import Derived.Test.YtaoeghfoifhhcaaDoorMxWk4
import Derived.Test.YtaoeghfoifhhcaaDoorGr3
import Derived.WalkKit
import Derived.ProofKit
import Derived.OpenShut
import Derived.ShutString
import Derived.ChangeOld
import Derived.Below
import Derived.SizedLaws
import Derived.Lay
import Derived.LaidOnce
import Derived.SevenTiedAt
namespace Go.Proofs.YtaoeghfoifhhcaaDoor.fnMatricesMultiplied
open Go.ChangeShapes Go.WideShapes Go.ChangeAt Go.RowKit Go.Gm Go.Proofs.W
set_option linter.unusedVariables false
theorem own : ownKnob Tryd.prog.godebug = none := by kernel_rfl
set_option maxRecDepth 100000 in
theorem lifted (os : Os) (started : os.Started) (H : Type) (enc : TypeId × Value → H) :
    ReturnsInHanded {} Tryd.checked os 3 .any (fun w args => (Rows.fnMatricesMultipliedSpec.pre enc Tryd.prog Tryd.f3 [] false w args ∧ laidMetH Tryd.prog Rows.fnMatricesMultipliedRow.laid w) ∧ sizedMet enc Tryd.prog Tryd.f3 (OpenSpec.ofChange Rows.fnMatricesMultipliedSpec) false w args)
      (Rows.fnMatricesMultipliedSpec.post enc Tryd.prog Tryd.f3 false true false false) := by
  refine law_card (C := Tryd.checked) (X := fun w => laidMetH Tryd.prog Rows.fnMatricesMultipliedRow.laid w) (fun _ _ hh h => h.of_heap hh) own started (by kernel_rfl) Tryd.func3
    (ChangeSpec.witness_shaped (enc := enc) (C := Tryd.checked) (os := os) (X := fun w _ => laidMetH Tryd.prog Rows.fnMatricesMultipliedRow.laid w) false (World.laidAll Tryd.prog os Rows.fnMatricesMultipliedRow.laid) #[.slice none 0 0, .slice none 0 0] 8 (World.laidAll_os _ _ _)
      (World.shaped_of_ZipB (by kernel_rfl) (by kernel_rfl)) (by kernel_rfl) (by kernel_rfl) (by kernel_rfl)
      (by rw [MakeChecks.laidMetH_plain _ _ _ (by kernel_rfl)]; exact laidMet_laidAll _ (by kernel_rfl) (by kernel_rfl))) ?_
  intro W base args ds gs before hval hW hsz hL hsh
  have i1 := globInt (g := 1) (t := 3) hsh (by decide +kernel) (by kernel_rfl) (by kernel_rfl) (by kernel_rfl) (by kernel_rfl)
  rw [MakeChecks.laidMetH_plain _ _ _ (by kernel_rfl)] at hL
  have t0 := tab_block (P := Tryd.prog) (W := W) (name := "internal/strconv.uint64pow10") (k := .u64) (zs := Lib.pow10Tab) (g := 0) (t := 94) (e := 45) (n := 20) (by kernel_rfl) (by kernel_rfl) (by kernel_rfl) (by kernel_rfl) (by kernel_rfl) (by kernel_rfl) (i := 2) (by kernel_rfl) hL
  have hglob : GlobAt W ∧ ∀ b ∈ globBlocks, b < W.heap.size := by
    refine ⟨⟨fun g hg => ?_, fun p hp => ?_⟩, fun b hb => ?_⟩
    · simp only [globInts, List.mem_cons, List.not_mem_nil, or_false] at hg
      rcases hg with rfl
      · exact i1.1
    · simp only [globTabs, List.mem_cons, List.not_mem_nil, or_false] at hp
      rcases hp with rfl
      · exact by have h := t0.1; unfold Lib.pow10Tab at h; rw [List.map_map] at h; exact h
    · simp only [globBlocks, globInts, globTabs, List.map_cons, List.map_nil, List.append_nil, List.nil_append, List.cons_append, List.mem_cons, List.not_mem_nil, or_false] at hb
      rcases hb with rfl | rfl
      · exact i1.2
      · exact t0.2
  exact law_row (lo := true) (m := 8) (tb := 4) (l := l_FnMatricesMultiplied_sh.a) (F := l_FnMatricesMultiplied) (by kernel_rfl) (by kernel_rfl) (by kernel_rfl) (by kernel_rfl) (by kernel_rfl) rfl
    (fun ds h => by
      have h : ds.length = 2 := h.trans (by kernel_rfl)
      match ds, h with
      | [_, _], _ => rfl)
    l_FnMatricesMultiplied_ok l_FnMatricesMultiplied_true hval hW hsz hglob
theorem over : Rows.fnMatricesMultipliedRow.holds Tryd.pinned (OpenSpec.ofChange Rows.fnMatricesMultipliedSpec) :=
  OpenClaim.holds_of_wide 3 Tryd.f3 rfl rfl rfl rfl rfl rfl rfl ⟨rfl, rfl, rfl, rfl, rfl⟩ rfl rfl rfl rfl rfl (by kernel_rfl) Tryd.func3 (by kernel_rfl)
    (of_decide_eq_true (by kernel_rfl)) (by unfold Func.isWrapper; first | (rw [if_pos (by decide +kernel)]; kernel_rfl) | (rw [if_neg (by decide +kernel)]; exact ⟨rfl, rfl⟩))
    (fun os started H enc _ => lifted os started H enc)
theorem proved : Rows.FnMatricesMultipliedCardSaid :=
  Claim7.holds_tied_plain_at .later [] [.data, .data, .data] true (true, "40e9954f625b70fe111b68985963604c2e7638cea2206ac06956fcda7315d4ce") false over (fun _ h => by cases h) (by kernel_rfl) (fun _ h => by cases h) fnMatricesMultiplied_row_tie rfl ⟨rfl, rfl⟩ (by kernel_rfl) rfl
    (fun f fn hf hfn => by
      obtain rfl : f = 3 := Option.some.inj ((show Tryd.prog.funcNamed "loop.example/g01236/laws.FnMatricesMultiplied" = some 3 by kernel_rfl).symm.trans hf) |>.symm
      obtain rfl : fn = Tryd.f3 := (Option.some.inj (Tryd.func3.symm.trans hfn)).symm
      exact ⟨by kernel_rfl, fun j t ht => by
        have hm : t ∈ Tryd.f3.params.toList := by simpa using Array.mem_of_getElem? ht
        have hall : (Tryd.f3.params.toList.all fun u => !Tryd.prog.wantsStandIn u) = true := by kernel_rfl
        exact (show Tryd.prog.wantsStandIn t = false by simpa using List.all_eq_true.1 hall t hm)⟩)
    (by kernel_rfl)
end Go.Proofs.YtaoeghfoifhhcaaDoor.fnMatricesMultiplied
namespace Go.Proofs.YtaoeghfoifhhcaaDoor
/-- The card, under a short name, for the claim. -/
theorem fnMatricesMultiplied_holds : Rows.FnMatricesMultipliedCardSaid := fnMatricesMultiplied.proved
#print axioms fnMatricesMultiplied_holds
end Go.Proofs.YtaoeghfoifhhcaaDoor
