/- The card of the statement FnPuzzlesFilled: whatever the arguments are, the law's function returns true and leaves them as they were; the listed package variables are tied to the program's text. -/
import Derived.Test.YtpkbjabnchfgjaaGreatDoorRows
import Derived.Test.YtpkbjabnchfgjaaGreatDoorCards
import Derived.Test.YtpkbjabnchfgjaaGreatDoorTie
import Derived.Test.YtpkbjabnchfgjaaGreatDoorWPfWk6
import Derived.Test.YtpkbjabnchfgjaaGreatDoorWGr3
import Derived.WalkKit
import Derived.ProofKit
import Derived.OpenShut
import Derived.ShutString
import Derived.ChangeOld
import Derived.Below
import Derived.SizedLaws
import Derived.Lay
import Derived.LaidOnce
import Derived.SevenTiedAt
namespace Go.Proofs.YtpkbjabnchfgjaaGreatDoor.fnPuzzlesFilled
open Go.ChangeShapes Go.WideShapes Go.ChangeAt Go.RowKit Go.Gm Go.Proofs.W
set_option linter.unusedVariables false
theorem own : ownKnob Tryz.prog.godebug = none := by kernel_rfl
set_option maxRecDepth 100000 in
theorem zbjo (os : Os) (started : os.Started) (H : Type) (enc : TypeId × Value → H) :
  ReturnsInHanded {} Tryz.checked os 3 .any (fun w args => (Rows.fnPuzzlesFilledSpec.pre enc Tryz.prog Tryz.f3 [] false w args ∧ laidMetH Tryz.prog Rows.fnPuzzlesFilledRow.laid w) ∧ sizedMet enc Tryz.prog Tryz.f3 (OpenSpec.ofChange Rows.fnPuzzlesFilledSpec) false w args)
   (Rows.fnPuzzlesFilledSpec.post enc Tryz.prog Tryz.f3 false true false false) := by
 refine za0u (C := Tryz.checked) (X := fun w => laidMetH Tryz.prog Rows.fnPuzzlesFilledRow.laid w) (fun _ _ hh h => h.of_heap hh) own started (by kernel_rfl) Tryz.func3
  (ChangeSpec.witness_shaped (enc := enc) (C := Tryz.checked) (os := os) (X := fun w _ => laidMetH Tryz.prog Rows.fnPuzzlesFilledRow.laid w) false (World.laidAll Tryz.prog os Rows.fnPuzzlesFilledRow.laid) #[.slice none 0 0, .slice none 0 0] 8 (World.laidAll_os _ _ _)
   (World.shaped_of_ZipB (by kernel_rfl) (by kernel_rfl)) (by kernel_rfl) (by kernel_rfl) (by kernel_rfl)
   (by rw [MakeChecks.laidMetH_plain _ _ _ (by kernel_rfl)]; exact laidMet_laidAll _ (by kernel_rfl) (by kernel_rfl))) ?_
 intro W base args ds gs before hval hW hsz hL hsh
 have i0 := zbcw (g := 0) (t := 3) hsh (by decide +kernel) (by kernel_rfl) (by kernel_rfl) (by kernel_rfl) (by kernel_rfl)
 rw [MakeChecks.laidMetH_plain _ _ _ (by kernel_rfl)] at hL
 have t3 := zaus (P := Tryz.prog) (W := W) (name := "internal/strconv.uint64pow10") (k := .u64) (zs := Lib.pow10Tab) (g := 3) (t := 186) (e := 75) (n := 20) (by kernel_rfl) (by kernel_rfl) (by kernel_rfl) (by kernel_rfl) (by kernel_rfl) (by kernel_rfl) (i := 2) (by kernel_rfl) hL
 have hglob : zaal W ∧ ∀ b ∈ zgf, b < W.heap.size := by
  refine ⟨⟨fun g hg => ?_, fun p hp => ?_⟩, fun b hb => ?_⟩
  ·simp only [zly, List.mem_cons, List.not_mem_nil, or_false] at hg
   rcases hg with rfl
   ·exact i0.1
  ·simp only [globTabs, List.mem_cons, List.not_mem_nil, or_false] at hp
   rcases hp with rfl
   ·exact by have h := t3.1; unfold Lib.pow10Tab at h; rw [List.map_map] at h; exact h
  ·simp only [zgf, zly, globTabs, qu, List.map_nil, kq, qw, List.cons_append, List.mem_cons, List.not_mem_nil, or_false] at hb
   rcases hb with rfl | rfl
   ·exact i0.2
   ·exact t3.2
 exact zbc0 (lo := true) (m := 8) (tb := 4) (l := L0_sh.a) (F := L0) (by kernel_rfl) (by kernel_rfl) (by kernel_rfl) (by kernel_rfl) (by kernel_rfl) rfl
  (fun ds h => by
   have h : ds.length = 2 := h.trans (by kernel_rfl)
   match ds, h with
   | [_, _], _ => rfl)
  zbki zbb7 hval hW hsz hglob
theorem over : Rows.fnPuzzlesFilledRow.holds Tryz.pinned (OpenSpec.ofChange Rows.fnPuzzlesFilledSpec) :=
 OpenClaim.holds_of_wide 3 Tryz.f3 rfl rfl rfl rfl rfl rfl rfl ⟨rfl, rfl, rfl, rfl, rfl⟩ rfl rfl rfl rfl rfl (by kernel_rfl) Tryz.func3 (by kernel_rfl)
  (ku (by kernel_rfl)) (by unfold Func.isWrapper; first | (rw [if_pos (by decide +kernel)]; kernel_rfl) | (rw [if_neg (by decide +kernel)]; exact ⟨rfl, rfl⟩))
  (fun os started H enc _ => zbjo os started H enc)
theorem proved : Rows.FnPuzzlesFilledCardSaid :=
 Claim7.holds_tied_plain_at .later [] [.data, .data, .data, .data, .pinned] true (true, "41b53c09c7787a9c32d384b877c8ad598ca28a61a8b60676a43cd1f08e6d9e85") false over (fun _ h => by cases h) (by kernel_rfl) (fun _ h => by cases h) fnPuzzlesFilled_row_tie rfl ⟨rfl, rfl⟩ (by kernel_rfl) rfl
  (fun f fn hf hfn => by
   obtain rfl : f = 3 := Option.some.inj ((show Tryz.prog.funcNamed "loop.example/g01236/laws.FnPuzzlesFilled" = some 3 by kernel_rfl).symm.trans hf) |>.symm
   obtain rfl : fn = Tryz.f3 := (Option.some.inj (Tryz.func3.symm.trans hfn)).symm
   exact ⟨by kernel_rfl, fun j t ht => by
    have hm : t ∈ Tryz.f3.params.toList := by simpa using Array.mem_of_getElem? ht
    have hall : (Tryz.f3.params.toList.all fun u => !Tryz.prog.wantsStandIn u) = true := by kernel_rfl
    exact (show Tryz.prog.wantsStandIn t = false by simpa using qt.1 hall t hm)⟩)
  (by kernel_rfl)
end Go.Proofs.YtpkbjabnchfgjaaGreatDoor.fnPuzzlesFilled
namespace Go.Proofs.YtpkbjabnchfgjaaGreatDoor
theorem fnPuzzlesFilled_holds : Rows.FnPuzzlesFilledCardSaid := fnPuzzlesFilled.proved
#print axioms fnPuzzlesFilled_holds
end Go.Proofs.YtpkbjabnchfgjaaGreatDoor
