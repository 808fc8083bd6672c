/- The card of the statement FnExactPuzzleText: whatever the arguments are, the law's function returns true and leaves them as they were; the listed package variables are tied to the program's text. -/
import Derived.Test.YtaanfhjiihekeaaDoorRows
import Derived.Test.YtaanfhjiihekeaaDoorCards
import Derived.Test.YtaanfhjiihekeaaDoorTie
import Derived.Test.YtaanfhjiihekeaaDoorPtWk1
import Derived.Test.YtaanfhjiihekeaaDoorGr3
import Derived.WalkKit
import Derived.ProofKit
import Derived.OpenShut
import Derived.ShutString
import Derived.ChangeOld
import Derived.Below
import Derived.SizedLaws
import Derived.Lay
import Derived.LaidOnce
import Derived.SevenTiedAt
namespace Go.Proofs.YtaanfhjiihekeaaDoor.fnExactPuzzleText
open Go.ChangeShapes Go.WideShapes Go.ChangeAt Go.RowKit Go.Gm Go.Proofs.W
set_option linter.unusedVariables false
theorem own : ownKnob Tryd.prog.godebug = none := by kernel_rfl
set_option maxRecDepth 100000 in
theorem lifted (os : Os) (started : os.Started) (H : Type) (enc : TypeId × Value → H) :
    ReturnsInHanded {} Tryd.checked os 4 .any (fun w args => (Rows.fnExactPuzzleTextSpec.pre enc Tryd.prog Tryd.f4 [] false w args ∧ laidMetH Tryd.prog Rows.fnExactPuzzleTextRow.laid w) ∧ sizedMet enc Tryd.prog Tryd.f4 (OpenSpec.ofChange Rows.fnExactPuzzleTextSpec) false w args)
      (Rows.fnExactPuzzleTextSpec.post enc Tryd.prog Tryd.f4 false true false false) := by
  refine law_card (C := Tryd.checked) (X := fun w => laidMetH Tryd.prog Rows.fnExactPuzzleTextRow.laid w) (fun _ _ hh h => h.of_heap hh) own started (by kernel_rfl) Tryd.func4
    (ChangeSpec.witness_shaped (enc := enc) (C := Tryd.checked) (os := os) (X := fun w _ => laidMetH Tryd.prog Rows.fnExactPuzzleTextRow.laid w) false (World.laidAll Tryd.prog os Rows.fnExactPuzzleTextRow.laid) #[.agg #[.slice none 0 0]] 8 (World.laidAll_os _ _ _)
      (World.shaped_of_ZipB (by kernel_rfl) (by kernel_rfl)) (by kernel_rfl) (by kernel_rfl) (by kernel_rfl)
      (by rw [MakeChecks.laidMetH_plain _ _ _ (by kernel_rfl)]; exact laidMet_laidAll _ (by kernel_rfl) (by kernel_rfl))) ?_
  intro W base args ds gs before hval hW hsz hL hsh
  have i0 := globInt (g := 0) (t := 3) hsh (by decide +kernel) (by kernel_rfl) (by kernel_rfl) (by kernel_rfl) (by kernel_rfl)
  have hglob : GlobAt W ∧ ∀ b ∈ globBlocks, b < W.heap.size := by
    refine ⟨⟨fun g hg => ?_, fun p hp => by simp [globTabs] at hp⟩, fun b hb => ?_⟩
    · simp only [globInts, List.mem_cons, List.not_mem_nil, or_false] at hg
      rcases hg with rfl
      · exact i0.1
    · simp only [globBlocks, globInts, globTabs, List.map_nil, List.append_nil, List.mem_cons, List.not_mem_nil, or_false] at hb
      rcases hb with rfl
      · exact i0.2
  exact law_row (lo := false) (m := 8) (tb := 4) (l := l_FnExactPuzzleText_sh.a) (F := l_FnExactPuzzleText) (by kernel_rfl) (by kernel_rfl) (by kernel_rfl) (by kernel_rfl) (by kernel_rfl) rfl
    (fun ds h => by
      have h : ds.length = 1 := h.trans (by kernel_rfl)
      match ds, h with
      | [_], _ => rfl)
    l_FnExactPuzzleText_ok l_FnExactPuzzleText_true hval hW hsz hglob
theorem over : Rows.fnExactPuzzleTextRow.holds Tryd.pinned (OpenSpec.ofChange Rows.fnExactPuzzleTextSpec) :=
  OpenClaim.holds_of_wide 4 Tryd.f4 rfl rfl rfl rfl rfl rfl rfl ⟨rfl, rfl, rfl, rfl, rfl⟩ rfl rfl rfl rfl rfl (by kernel_rfl) Tryd.func4 (by kernel_rfl)
    (of_decide_eq_true (by kernel_rfl)) (by unfold Func.isWrapper; first | (rw [if_pos (by decide +kernel)]; kernel_rfl) | (rw [if_neg (by decide +kernel)]; exact ⟨rfl, rfl⟩))
    (fun os started H enc _ => lifted os started H enc)
theorem proved : Rows.FnExactPuzzleTextCardSaid :=
  Claim7.holds_tied_plain_at .later [] [.data, .data, .data, .data, .pinned] true (true, "0331b3596901daecb6544b1c58cf060f152d52e4c47fe7cf106bb9239819095f") false over (fun _ h => by cases h) (by kernel_rfl) (fun _ h => by cases h) fnExactPuzzleText_row_tie rfl ⟨rfl, rfl⟩ (by kernel_rfl) rfl
    (fun f fn hf hfn => by
      obtain rfl : f = 4 := Option.some.inj ((show Tryd.prog.funcNamed "loop.example/g01236/laws.FnExactPuzzleText" = some 4 by kernel_rfl).symm.trans hf) |>.symm
      obtain rfl : fn = Tryd.f4 := (Option.some.inj (Tryd.func4.symm.trans hfn)).symm
      exact ⟨by kernel_rfl, fun j t ht => by
        have hm : t ∈ Tryd.f4.params.toList := by simpa using Array.mem_of_getElem? ht
        have hall : (Tryd.f4.params.toList.all fun u => !Tryd.prog.wantsStandIn u) = true := by kernel_rfl
        exact (show Tryd.prog.wantsStandIn t = false by simpa using List.all_eq_true.1 hall t hm)⟩)
    (by kernel_rfl)
end Go.Proofs.YtaanfhjiihekeaaDoor.fnExactPuzzleText
namespace Go.Proofs.YtaanfhjiihekeaaDoor
/-- The card, under a short name, for the claim. -/
theorem fnExactPuzzleText_holds : Rows.FnExactPuzzleTextCardSaid := fnExactPuzzleText.proved
#print axioms fnExactPuzzleText_holds
end Go.Proofs.YtaanfhjiihekeaaDoor
