/- The card of the statement FnFractionPolygons: whatever the arguments are, the law's function returns true and leaves them as they were; the listed package variables are tied to the program's text. -/
import Derived.Test.YtaoeghfoifhhcaaGreatDoorRows
import Derived.Test.YtaoeghfoifhhcaaGreatDoorCards
import Derived.Test.YtaoeghfoifhhcaaGreatDoorTie
import Derived.Test.YtaoeghfoifhhcaaGreatDoorFdWk5
import Derived.Test.YtaoeghfoifhhcaaGreatDoorGr3
import Derived.WalkKit
import Derived.ProofKit
import Derived.OpenShut
import Derived.ShutString
import Derived.ChangeOld
import Derived.Below
import Derived.SizedLaws
import Derived.Lay
import Derived.LaidOnce
import Derived.SevenTiedAt
namespace Go.Proofs.YtaoeghfoifhhcaaGreatDoor.fnFractionPolygons
open Go.ChangeShapes Go.WideShapes Go.ChangeAt Go.RowKit Go.Gm Go.Proofs.W
set_option linter.unusedVariables false
theorem own : ownKnob Tryz.prog.godebug = none := by kernel_rfl
set_option maxRecDepth 100000 in
theorem lifted (os : Os) (started : os.Started) (H : Type) (enc : TypeId × Value → H) :
    ReturnsInHanded {} Tryz.checked os 4 .any (fun w args => (Rows.fnFractionPolygonsSpec.pre enc Tryz.prog Tryz.f4 [] false w args ∧ laidMetH Tryz.prog Rows.fnFractionPolygonsRow.laid w) ∧ sizedMet enc Tryz.prog Tryz.f4 (OpenSpec.ofChange Rows.fnFractionPolygonsSpec) false w args)
      (Rows.fnFractionPolygonsSpec.post enc Tryz.prog Tryz.f4 false true false false) := by
  refine law_card (C := Tryz.checked) (X := fun w => laidMetH Tryz.prog Rows.fnFractionPolygonsRow.laid w) (fun _ _ hh h => h.of_heap hh) own started (by kernel_rfl) Tryz.func4
    (ChangeSpec.witness_shaped (enc := enc) (C := Tryz.checked) (os := os) (X := fun w _ => laidMetH Tryz.prog Rows.fnFractionPolygonsRow.laid w) false (World.laidAll Tryz.prog os Rows.fnFractionPolygonsRow.laid) #[.slice none 0 0, .slice none 0 0] 8 (World.laidAll_os _ _ _)
      (World.shaped_of_ZipB (by kernel_rfl) (by kernel_rfl)) (by kernel_rfl) (by kernel_rfl) (by kernel_rfl)
      (by rw [MakeChecks.laidMetH_plain _ _ _ (by kernel_rfl)]; exact laidMet_laidAll _ (by kernel_rfl) (by kernel_rfl))) ?_
  intro W base args ds gs before hval hW hsz hL hsh
  have i1 := globInt (g := 1) (t := 3) hsh (by decide +kernel) (by kernel_rfl) (by kernel_rfl) (by kernel_rfl) (by kernel_rfl)
  rw [MakeChecks.laidMetH_plain _ _ _ (by kernel_rfl)] at hL
  have t0 := tab_block (P := Tryz.prog) (W := W) (name := "internal/strconv.uint64pow10") (k := .u64) (zs := Lib.pow10Tab) (g := 0) (t := 211) (e := 89) (n := 20) (by kernel_rfl) (by kernel_rfl) (by kernel_rfl) (by kernel_rfl) (by kernel_rfl) (by kernel_rfl) (i := 2) (by kernel_rfl) hL
  have hglob : GlobAt W ∧ ∀ b ∈ globBlocks, b < W.heap.size := by
    refine ⟨⟨fun g hg => ?_, fun p hp => ?_⟩, fun b hb => ?_⟩
    · simp only [globInts, List.mem_cons, List.not_mem_nil, or_false] at hg
      rcases hg with rfl
      · exact i1.1
    · simp only [globTabs, List.mem_cons, List.not_mem_nil, or_false] at hp
      rcases hp with rfl
      · exact by have h := t0.1; unfold Lib.pow10Tab at h; rw [List.map_map] at h; exact h
    · simp only [globBlocks, globInts, globTabs, List.map_cons, List.map_nil, List.append_nil, List.nil_append, List.cons_append, List.mem_cons, List.not_mem_nil, or_false] at hb
      rcases hb with rfl | rfl
      · exact i1.2
      · exact t0.2
  exact law_row (lo := true) (m := 8) (tb := 4) (l := l_FnFractionPolygons_sh.a) (F := l_FnFractionPolygons) (by kernel_rfl) (by kernel_rfl) (by kernel_rfl) (by kernel_rfl) (by kernel_rfl) rfl
    (fun ds h => by
      have h : ds.length = 2 := h.trans (by kernel_rfl)
      match ds, h with
      | [_, _], _ => rfl)
    l_FnFractionPolygons_ok l_FnFractionPolygons_true hval hW hsz hglob
theorem over : Rows.fnFractionPolygonsRow.holds Tryz.pinned (OpenSpec.ofChange Rows.fnFractionPolygonsSpec) :=
  OpenClaim.holds_of_wide 4 Tryz.f4 rfl rfl rfl rfl rfl rfl rfl ⟨rfl, rfl, rfl, rfl, rfl⟩ rfl rfl rfl rfl rfl (by kernel_rfl) Tryz.func4 (by kernel_rfl)
    (of_decide_eq_true (by kernel_rfl)) (by unfold Func.isWrapper; first | (rw [if_pos (by decide +kernel)]; kernel_rfl) | (rw [if_neg (by decide +kernel)]; exact ⟨rfl, rfl⟩))
    (fun os started H enc _ => lifted os started H enc)
theorem proved : Rows.FnFractionPolygonsCardSaid :=
  Claim7.holds_tied_plain_at .later [] [.data, .data, .data] true (true, "0b903118ff48c4f91f51b519eb7555487aa4ee31b24e948d6461f672018b9b4b") false over (fun _ h => by cases h) (by kernel_rfl) (fun _ h => by cases h) fnFractionPolygons_row_tie rfl ⟨rfl, rfl⟩ (by kernel_rfl) rfl
    (fun f fn hf hfn => by
      obtain rfl : f = 4 := Option.some.inj ((show Tryz.prog.funcNamed "loop.example/g01236/laws.FnFractionPolygons" = some 4 by kernel_rfl).symm.trans hf) |>.symm
      obtain rfl : fn = Tryz.f4 := (Option.some.inj (Tryz.func4.symm.trans hfn)).symm
      exact ⟨by kernel_rfl, fun j t ht => by
        have hm : t ∈ Tryz.f4.params.toList := by simpa using Array.mem_of_getElem? ht
        have hall : (Tryz.f4.params.toList.all fun u => !Tryz.prog.wantsStandIn u) = true := by kernel_rfl
        exact (show Tryz.prog.wantsStandIn t = false by simpa using List.all_eq_true.1 hall t hm)⟩)
    (by kernel_rfl)
end Go.Proofs.YtaoeghfoifhhcaaGreatDoor.fnFractionPolygons
namespace Go.Proofs.YtaoeghfoifhhcaaGreatDoor
/-- The card, under a short name, for the claim. -/
theorem fnFractionPolygons_holds : Rows.FnFractionPolygonsCardSaid := fnFractionPolygons.proved
#print axioms fnFractionPolygons_holds
end Go.Proofs.YtaoeghfoifhhcaaGreatDoor
