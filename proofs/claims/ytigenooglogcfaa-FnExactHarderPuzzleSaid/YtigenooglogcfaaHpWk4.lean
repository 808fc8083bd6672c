/- Functions of the program, walked, and what they compute. -/
import Derived.Test.YtigenooglogcfaaHpWk3
set_option linter.unusedVariables false
set_option linter.unusedSimpArgs false
set_option maxRecDepth 100000
set_option maxHeartbeats 4000000
namespace Go.Proofs.W
open Go Go.Gm Go.Proofs
open Go.RowKit Go.Shelf
def i_HarderPuzzle_sh : FSh := ⟨[(.ag [(.sl (.int .i64) false false)])], []⟩

def i_HarderPuzzle_L5_sh : LSh := ⟨(fun ex => match ex with | .norm => [(2, none), (4, none), (23, none), (24, none)] | .exit i => if i = 0 then [(2, none), (4, none)] else [] | .ret => [(2, none), (3, none)]), [(2, (.one (.pf 0 0 0))), (4, (.one (.pf 1 0 0))), (23, (.one (.si .i64))), (24, (.one (.si .i64)))], [(.rcd 0 [(.nl true true)]), (.rcd 0 [(.rw 2 0)]), (.row 0 (.int .i64))], [⟨(.exit 0), [(2, (.one (.pf 0 0 0))), (4, (.one (.pf 1 0 0)))], [(.rcd 0 [(.nl true true)]), (.rcd 0 [(.rw 2 0)]), (.row 0 (.int .i64))]⟩], [], []⟩
noncomputable def i_HarderPuzzle_L5_step : ((Unit × Unit × Int × Int) × (Unit × Unit × List (Int))) → T (((Unit × Unit × Int × Int) × (Unit × Unit × List (Int))) ⊕ ((Unit × Unit) × (Unit × Unit × List (Int)))) := fun (((), (), t23, t24), ((), (), out_r)) =>
  (.test (decide (t24 < t23))
  (.test (decide ((0 + (List.length out_r)) ≤ (List.length out_r)))
   (.sub (i_Puzzle_with ((win out_r 0 (List.length out_r)), (t24, (0 : Int)))) fun z0 =>
    (.test (decide ((0 + (List.length z0.2)) ≤ (List.length z0.2)))
    (.sub (i_Puzzle_solutions (win z0.2 0 (List.length z0.2))) fun z1 =>
     (.test (((List.length z1.2) : Int) == 1)
     (.test (decide ((0 = 0) ∧ ((List.length z0.2) = (List.length z0.2))))
      (.ret (Sum.inl (((), ((), (t23, (w64 (t24 + 1))))), ((), ((), z0.2)))))
      .fail)
     (.test (decide ((0 = 0) ∧ ((List.length out_r) = (List.length out_r))))
      (.ret (Sum.inl (((), ((), (t23, (w64 (t24 + 1))))), ((), ((), out_r)))))
      .fail)))
    .fail))
   .fail)
  (.test (decide ((0 = 0) ∧ ((List.length out_r) = (List.length out_r))))
   (.ret (Sum.inr (((), ()), ((), ((), out_r)))))
   .fail))
noncomputable def i_HarderPuzzle_L5 (v : ((Unit × Unit × Int × Int) × (Unit × Unit × List (Int)))) : Option ((Unit × Unit) × (Unit × Unit × List (Int))) := loopO (fun v => (i_HarderPuzzle_L5_step v).run) v

def i_HarderPuzzle_w_fo : List FO := [⟨[(.ag [(.nl true true)]), (.one .sb)], []⟩, ⟨[(.ag [(.rw 0 0)]), (.one .sb)], [(.row 0 (.int .i64))]⟩]
noncomputable def i_HarderPuzzle_t : List (Int) → T ((Unit × Bool) ⊕ ((Unit × Bool) × List (Int))) := fun p_0 =>
  (.sub (i_IsPuzzle p_0) fun z0 =>
  (.test (! z0)
  (.ret (Sum.inl ((), false)))
  (.sub (i_Puzzle_solutions p_0) fun z1 =>
   (.test (((List.length z1.2) : Int) != 1)
   (.ret (Sum.inl ((), false)))
   (.sub (slices_Clone_int p_0) fun z2 =>
    (.test (decide ((0 = 0) ∧ ((List.length z2.2) = (List.length z2.2))))
    (.sub (i_HarderPuzzle_L5 (((), ((), (((List.length z2.2) : Int), (0 : Int)))), ((), ((), z2.2)))) fun z3 =>
     (.test (decide ((0 = 0) ∧ ((List.length z3.2.2.2) = (List.length z3.2.2.2))))
     (.ret (Sum.inr (((), true), z3.2.2.2)))
     .fail))
    .fail))))))
noncomputable def i_HarderPuzzle_w (v : List (Int)) : Option ((Unit × Bool) ⊕ ((Unit × Bool) × List (Int))) := (i_HarderPuzzle_t v).run
noncomputable def i_HarderPuzzle_E : TEnv := ((((E0.add1 n_i_IsPuzzle i_IsPuzzle_sh i_IsPuzzle_fo i_IsPuzzle).add1 n_i_Puzzle_solutions i_Puzzle_solutions_sh i_Puzzle_solutions_fo i_Puzzle_solutions).add1 n_slices_Clone_int slices_Clone_int_sh slices_Clone_int_fo slices_Clone_int).add1 n_i_Puzzle_with i_Puzzle_with_sh i_Puzzle_with_fo i_Puzzle_with)
theorem i_HarderPuzzle_Eok : (i_HarderPuzzle_E).OK := ((((E0ok.add1 i_IsPuzzle_ok).add1 i_Puzzle_solutions_ok).add1 slices_Clone_int_ok).add1 i_Puzzle_with_ok)
noncomputable def i_HarderPuzzle_told : Nat → Option SealT := fun id => if id = 5 then some (LSh.told i_HarderPuzzle_L5_sh 0 (i_HarderPuzzle_L5_step)) else none
theorem i_HarderPuzzle_L5_ok : ToldOK Try.prog 0 (loopAt (bodyOf fn_i_HarderPuzzle) [0]) (LSh.told i_HarderPuzzle_L5_sh 0 (i_HarderPuzzle_L5_step)) :=
  loop_ok (E := i_HarderPuzzle_E) (i_HarderPuzzle_Eok) (told := i_HarderPuzzle_told) (l := i_HarderPuzzle_L5_sh) (step := i_HarderPuzzle_L5_step) (loopsOK_of (ls := []) (by kernel_rfl) trivial) (by kernel_rfl) (fun v => by kernel_rfl)
theorem i_HarderPuzzle_w_ok : FOK Try.prog n_i_HarderPuzzle i_HarderPuzzle_sh i_HarderPuzzle_w_fo i_HarderPuzzle_w :=
  fn_ok (E := i_HarderPuzzle_E) (i_HarderPuzzle_Eok) (told := i_HarderPuzzle_told) (fl := []) (c := bodyOf fn_i_HarderPuzzle) (s := i_HarderPuzzle_sh) (l := i_HarderPuzzle_w_fo) (tree := i_HarderPuzzle_t) fnat_i_HarderPuzzle (by kernel_rfl) (by kernel_rfl) (by kernel_rfl) (loopsOK_of (ls := [loopAt (bodyOf fn_i_HarderPuzzle) [0]]) (by kernel_rfl) ⟨.inr ⟨_, by kernel_rfl, i_HarderPuzzle_L5_ok⟩, trivial⟩) (fun v => by kernel_rfl)
def i_HarderPuzzle_fo : List FO := [⟨[(.ag [(.rw 0 0)]), (.one .sb)], [(.row 0 (.int .i64))]⟩]
def i_HarderPuzzle_m : ((Unit × Bool) ⊕ ((Unit × Bool) × List (Int))) → ((Unit × Bool) × List (Int)) := fun o => match o with | (.inl a) => (a, []) | (.inr x) => x
noncomputable def i_HarderPuzzle (v : List (Int)) : Option ((Unit × Bool) × List (Int)) := (i_HarderPuzzle_w v).map i_HarderPuzzle_m
theorem i_HarderPuzzle_ok : FOK Try.prog n_i_HarderPuzzle i_HarderPuzzle_sh i_HarderPuzzle_fo i_HarderPuzzle :=
  FOK.own (l' := i_HarderPuzzle_fo) i_HarderPuzzle_w_ok i_HarderPuzzle_m [(.int .i64)] (by decide) (fun o => match o with | (.inl a) => .inr (by kernel_rfl) | (.inr x) => .inl (by kernel_rfl))

theorem i_HarderPuzzle_loop (p : List Int) (hp : isPz p = true) : i_HarderPuzzle_L5 (((), ((), ((p.length : Int), (0 : Int)))), ((), ((), p))) = some (((), ()), ((), ((), (List.range p.length).foldl hardS p))) := by
  have hpl := isPz_len hp
  have h := loop_fold (step := fun v => (i_HarderPuzzle_L5_step v).run) (xs := List.range p.length) (fun k (o : List Int) => o.length = p.length ∧ isPz o = true) (fun k o => (((), ((), ((p.length : Int), (k : Int)))), ((), ((), o)))) hardS (fun o => (((), ()), ((), ((), o))))
    (fun k o x hP hx => by
      obtain ⟨hk, e⟩ := List.getElem?_eq_some_iff.1 hx
      simp only [List.getElem_range] at e
      subst e
      rw [List.length_range] at hk
      obtain ⟨hl, hz⟩ := hP
      refine ⟨?_, by rw [hardS_len, hl], hardS_pz hz k⟩
      have c0 : (k : Int) < (p.length : Int) := by omega
      have w1 : w64 ((k : Int) + 1) = ((k + 1 : Nat) : Int) := by rw [w64_id (by omega) (by omega)]; omega
      have hw := i_Puzzle_with_eq o (k : Int) 0 (by omega) (by omega) (by omega)
      rw [Int.toNat_natCast] at hw
      have hs := i_Puzzle_solutions_eq (o.set k 0) (isPz_set hz k)
      unfold hardS
      by_cases h1 : (solL (o.set k 0)).length = 1
      · have e1 : (((solL (o.set k 0)).length : Int) == 1) = true := by rw [h1]; rfl
        simp only [i_HarderPuzzle_L5_step, T.run_test, T.run_sub, T.run_ret, T.run_fail, c0, decide_true, if_true, Nat.zero_add, Nat.le_refl, win_all, hw, Option.bind_some, hs, e1, and_self, w1, if_pos h1]
      · have e1 : (((solL (o.set k 0)).length : Int) == 1) = false := by
          rw [beq_eq_false_iff_ne]; omega
        simp only [i_HarderPuzzle_L5_step, T.run_test, T.run_sub, T.run_ret, T.run_fail, c0, decide_true, if_true, Nat.zero_add, Nat.le_refl, win_all, hw, Option.bind_some, hs, e1, and_self, w1, if_neg h1, Bool.false_eq_true, if_false])
    (fun o hs => by simp [i_HarderPuzzle_L5_step, T.run])
    p ⟨rfl, hp⟩
  simp only [Int.natCast_zero] at h
  simp only [i_HarderPuzzle_L5]
  exact h.1
theorem i_HarderPuzzle_eq (p : List Int) (hl : p.length < 4611686018427387904) : i_HarderPuzzle p = some (((), (hardR p).1), (hardR p).2) := by
  unfold i_HarderPuzzle i_HarderPuzzle_w hardR
  rw [i_HarderPuzzle_t, T.run_sub, i_IsPuzzle_eq p hl, Option.bind_some, T.run_test]
  cases hp : isPz p with
  | false => simp [T.run, i_HarderPuzzle_m]
  | true =>
    have hpl := isPz_len hp
    have hc : slices_Clone_int p = some ((), p) := by
      unfold slices_Clone_int
      rw [if_pos]
      exact ⟨by unfold maxLen; omega, by omega⟩
    rw [if_neg (by simp), T.run_sub, i_Puzzle_solutions_eq p hp, Option.bind_some, T.run_test]
    by_cases h1 : (solL p).length = 1
    · have e1 : (((solL p).length : Int) != 1) = false := by rw [h1]; rfl
      have e2 : ((solL p).length == 1) = true := by rw [h1]; rfl
      rw [e1, e2, if_neg (by simp), T.run_sub, hc, Option.bind_some, T.run_test, if_pos (by simp), T.run_sub, i_HarderPuzzle_loop p hp, Option.bind_some, T.run_test, if_pos (by simp), T.run_ret]
      rfl
    · have e1 : (((solL p).length : Int) != 1) = true := by rw [bne_iff_ne]; omega
      have e2 : ((solL p).length == 1) = false := by rw [beq_eq_false_iff_ne]; exact h1
      rw [e1, e2, if_pos rfl, T.run_ret]
      rfl


def l_eqIntS_sh : FSh := ⟨[(.one (.sl (.int .i64) false false)), (.one (.sl (.int .i64) false false))], []⟩

def l_eqIntS_L4_sh : LSh := ⟨(fun ex => match ex with | .norm => [(0, none), (1, none), (5, none)] | .exit i => if i = 0 then [] else [] | .ret => [(4, none)]), [(0, (.one (.sl (.int .i64) false false))), (1, (.one (.sl (.int .i64) false false))), (5, (.one (.si .i64)))], [], [⟨.ret, [(4, (.one .sb))], []⟩, ⟨(.exit 0), [], []⟩], [], []⟩
noncomputable def l_eqIntS_L4_step : (List (Int) × List (Int) × Int) → T ((List (Int) × List (Int) × Int) ⊕ (Bool ⊕ Unit)) := fun (a, b, i) =>
  (.test (decide (i < ((List.length a) : Int)))
  (.test (decide ((0 ≤ i) ∧ (i < ((List.length a) : Int))))
   (.sub (a[(Int.toNat i)]?) fun z0 =>
    (.test (decide ((0 ≤ i) ∧ (i < ((List.length b) : Int))))
    (.sub (b[(Int.toNat i)]?) fun z1 =>
     (.test (z0 != z1)
     (.ret (Sum.inr (Sum.inl false)))
     (.ret (Sum.inl (a, (b, (w64 (i + 1))))))))
    .fail))
   .fail)
  (.ret (Sum.inr (Sum.inr ()))))
noncomputable def l_eqIntS_L4 (v : (List (Int) × List (Int) × Int)) : Option (Bool ⊕ Unit) := loopO (fun v => (l_eqIntS_L4_step v).run) v

def l_eqIntS_fo : List FO := [⟨[(.one .sb)], []⟩]
noncomputable def l_eqIntS_t : (List (Int) × List (Int)) → T Bool := fun (a, b) =>
  (.test (((List.length a) : Int) != ((List.length b) : Int))
  (.ret false)
  (.sub (l_eqIntS_L4 (a, (b, (0 : Int)))) fun z0 =>
   (.test (Sum.isLeft z0)
   (.sub (Sum.getLeft? z0) fun z1 =>
    (.ret z1))
   (.sub (Sum.getRight? z0) fun z2 =>
    (.ret true)))))
noncomputable def l_eqIntS (v : (List (Int) × List (Int))) : Option Bool := (l_eqIntS_t v).run
noncomputable def l_eqIntS_E : TEnv := E0
theorem l_eqIntS_Eok : (l_eqIntS_E).OK := E0ok
noncomputable def l_eqIntS_told : Nat → Option SealT := fun id => if id = 4 then some (LSh.told l_eqIntS_L4_sh 0 (l_eqIntS_L4_step)) else none
theorem l_eqIntS_L4_ok : ToldOK Try.prog 0 (loopAt (bodyOf fn_l_eqIntS) [0]) (LSh.told l_eqIntS_L4_sh 0 (l_eqIntS_L4_step)) :=
  loop_ok (E := l_eqIntS_E) (l_eqIntS_Eok) (told := l_eqIntS_told) (l := l_eqIntS_L4_sh) (step := l_eqIntS_L4_step) (loopsOK_of (ls := []) (by kernel_rfl) trivial) (by kernel_rfl) (fun v => by kernel_rfl)
theorem l_eqIntS_ok : FOK Try.prog n_l_eqIntS l_eqIntS_sh l_eqIntS_fo l_eqIntS :=
  fn_ok (E := l_eqIntS_E) (l_eqIntS_Eok) (told := l_eqIntS_told) (fl := []) (c := bodyOf fn_l_eqIntS) (s := l_eqIntS_sh) (l := l_eqIntS_fo) (tree := l_eqIntS_t) fnat_l_eqIntS (by kernel_rfl) (by kernel_rfl) (by kernel_rfl) (loopsOK_of (ls := [loopAt (bodyOf fn_l_eqIntS) [0]]) (by kernel_rfl) ⟨.inr ⟨_, by kernel_rfl, l_eqIntS_L4_ok⟩, trivial⟩) (fun v => by kernel_rfl)

theorem l_eqIntS_eq (a b : List Int) (hl : a.length < 4611686018427387904) : l_eqIntS (a, b) = some (decide (a = b)) := by
  by_cases hab : a.length = b.length
  · have h := loop_any (step := fun v => (l_eqIntS_L4_step v).run) (xs := a.zip b) (fun p => p.1 != p.2) (fun k => (a, b, (k : Int))) (.inl false) (.inr ())
      (fun k x hx => by
        have hk := getElem?_lt hx
        rw [List.length_zip, hab, Nat.min_self] at hk
        rw [List.getElem?_zip_eq_some] at hx
        simp only [l_eqIntS_L4_step, T.run, Option.bind_some, Int.toNat_natCast, hx.1, hx.2]
        rw [w64_id (by omega) (by omega)]
        have hka : k < a.length := by omega
        cases x.1 != x.2 <;> simp [hk, hka])
      (by simp [l_eqIntS_L4_step, T.run, hab])
    simp only [l_eqIntS, l_eqIntS_t, T.run, l_eqIntS_L4]
    simp only [Int.natCast_zero] at h
    rw [h, hab]
    have e : (a.zip b).any (fun p => p.1 != p.2) = !decide (a = b) := zip_any_ne a b hab
    rw [e]
    cases decide (a = b) <;> simp
  · simp only [l_eqIntS, l_eqIntS_t, T.run]
    have : a ≠ b := fun e => hab (by rw [e])
    simp [this]
    omega


def l_eqPuzzle_sh : FSh := ⟨[(.ag [(.sl (.int .i64) false false)]), (.ag [(.sl (.int .i64) false false)])], []⟩

def l_eqPuzzle_fo : List FO := [⟨[(.one .sb)], []⟩]
noncomputable def l_eqPuzzle_t : (List (Int) × List (Int)) → T Bool := fun (a_0, b_0) =>
  (.sub (l_eqIntS (a_0, b_0)) fun z0 =>
  (.test (! z0)
  (.ret false)
  (.ret true)))
noncomputable def l_eqPuzzle (v : (List (Int) × List (Int))) : Option Bool := (l_eqPuzzle_t v).run
noncomputable def l_eqPuzzle_E : TEnv := (E0.add1 n_l_eqIntS l_eqIntS_sh l_eqIntS_fo l_eqIntS)
theorem l_eqPuzzle_Eok : (l_eqPuzzle_E).OK := (E0ok.add1 l_eqIntS_ok)
noncomputable def l_eqPuzzle_told : Nat → Option SealT := fun id => none
theorem l_eqPuzzle_ok : FOK Try.prog n_l_eqPuzzle l_eqPuzzle_sh l_eqPuzzle_fo l_eqPuzzle :=
  fn_ok (E := l_eqPuzzle_E) (l_eqPuzzle_Eok) (told := l_eqPuzzle_told) (fl := []) (c := bodyOf fn_l_eqPuzzle) (s := l_eqPuzzle_sh) (l := l_eqPuzzle_fo) (tree := l_eqPuzzle_t) fnat_l_eqPuzzle (by kernel_rfl) (by kernel_rfl) (by kernel_rfl) (loopsOK_of (ls := []) (by kernel_rfl) trivial) (fun v => by kernel_rfl)

theorem l_eqPuzzle_eq (a b : List Int) (hl : a.length < 4611686018427387904) : l_eqPuzzle (a, b) = some (decide (a = b)) := by
  simp only [l_eqPuzzle, l_eqPuzzle_t, T.run, l_eqIntS_eq a b hl, Option.bind_some]
  cases decide (a = b) <;> rfl


def l_markIntS_sh : FSh := ⟨[(.one (.rw 0 0)), (.one (.si .i64))], [(.row 0 (.int .i64))]⟩

def l_markIntS_L2_sh : LSh := ⟨(fun ex => match ex with | .norm => [(0, none), (1, none), (5, none)] | .exit i => if i = 0 then [(1, none)] else [] | .ret => [(4, none)]), [(0, (.one (.rw 0 0))), (1, (.one (.si .i64))), (5, (.one (.si .i64)))], [(.row 0 (.int .i64))], [⟨(.exit 0), [(1, (.one (.si .i64)))], [(.row 0 (.int .i64))]⟩], [], []⟩
noncomputable def l_markIntS_L2_step : ((Unit × Int × Int) × List (Int)) → T (((Unit × Int × Int) × List (Int)) ⊕ (Int × List (Int))) := fun (((), k, i), a) =>
  (.test (decide (i < ((List.length a) : Int)))
  (.test (decide ((0 ≤ i) ∧ (i < ((List.length a) : Int))))
   (.sub (a[(0 + (Int.toNat i))]?) fun z0 =>
    (.test (decide ((0 = 0) ∧ ((List.length a) = (List.length (List.set a (0 + (Int.toNat i)) k)))))
    (.ret (Sum.inl (((), ((w64 (k + 1)), (w64 (i + 1)))), (List.set a (0 + (Int.toNat i)) k))))
    .fail))
   .fail)
  (.ret (Sum.inr (k, a))))
noncomputable def l_markIntS_L2 (v : ((Unit × Int × Int) × List (Int))) : Option (Int × List (Int)) := loopO (fun v => (l_markIntS_L2_step v).run) v

def l_markIntS_fo : List FO := [⟨[(.one (.si .i64))], [(.row 0 (.int .i64))]⟩]
noncomputable def l_markIntS_t : ((Unit × Int) × List (Int)) → T (Int × List (Int)) := fun (((), k), a) =>
  (.test (decide ((0 = 0) ∧ ((List.length a) = (List.length a))))
  (.sub (l_markIntS_L2 (((), (k, (0 : Int))), a)) fun z0 =>
   (.ret (z0.1, z0.2)))
  .fail)
noncomputable def l_markIntS (v : ((Unit × Int) × List (Int))) : Option (Int × List (Int)) := (l_markIntS_t v).run
noncomputable def l_markIntS_E : TEnv := E0
theorem l_markIntS_Eok : (l_markIntS_E).OK := E0ok
noncomputable def l_markIntS_told : Nat → Option SealT := fun id => if id = 2 then some (LSh.told l_markIntS_L2_sh 1 (l_markIntS_L2_step)) else none
theorem l_markIntS_L2_ok : ToldOK Try.prog 1 (loopAt (bodyOf fn_l_markIntS) [0]) (LSh.told l_markIntS_L2_sh 1 (l_markIntS_L2_step)) :=
  loop_ok (E := l_markIntS_E) (l_markIntS_Eok) (told := l_markIntS_told) (l := l_markIntS_L2_sh) (step := l_markIntS_L2_step) (loopsOK_of (ls := []) (by kernel_rfl) trivial) (by kernel_rfl) (fun v => by kernel_rfl)
theorem l_markIntS_ok : FOK Try.prog n_l_markIntS l_markIntS_sh l_markIntS_fo l_markIntS :=
  fn_ok (E := l_markIntS_E) (l_markIntS_Eok) (told := l_markIntS_told) (fl := []) (c := bodyOf fn_l_markIntS) (s := l_markIntS_sh) (l := l_markIntS_fo) (tree := l_markIntS_t) fnat_l_markIntS (by kernel_rfl) (by kernel_rfl) (by kernel_rfl) (loopsOK_of (ls := [loopAt (bodyOf fn_l_markIntS) [0]]) (by kernel_rfl) ⟨.inr ⟨_, by kernel_rfl, l_markIntS_L2_ok⟩, trivial⟩) (fun v => by kernel_rfl)

theorem l_markIntS_L2_eq (k : Int) (l : List Int) (hk : 0 ≤ k ∧ k < 1000000000000) (hl : l.length < 1000000000000000) : ∀ n i, i + n = l.length →
    l_markIntS_L2 (((), (k + i, (i : Int))), iot k i ++ l.drop i) = some (k + l.length, iot k l.length) := by
  intro n
  induction n with
  | zero =>
    intro i hi
    obtain rfl : i = l.length := by omega
    rw [List.drop_length, List.append_nil]
    simp only [l_markIntS_L2]
    exact loopO_done (by simp [l_markIntS_L2_step, T.run, iot_len])
  | succ n ih =>
    intro i hi
    have hlt : i < l.length := by omega
    have hd : l.drop i = l[i] :: l.drop (i + 1) := List.drop_eq_getElem_cons hlt
    have hlen : (iot k i ++ l.drop i).length = l.length := by rw [List.length_append, iot_len, List.length_drop]; omega
    have hget : (iot k i ++ l.drop i)[i]? = some l[i] := by
      rw [List.getElem?_append_right (by rw [iot_len]; omega), iot_len, Nat.sub_self, hd]; rfl
    have hset : List.set (iot k i ++ l.drop i) i (k + i) = iot k (i + 1) ++ l.drop (i + 1) := by
      rw [List.set_append_right _ _ (by rw [iot_len]; omega), iot_len, Nat.sub_self, hd, iot_succ, List.append_assoc]; rfl
    simp only [l_markIntS_L2] at ih ⊢
    have hst : (l_markIntS_L2_step (((), (k + i, (i : Int))), iot k i ++ l.drop i)).run = some (.inl (((), (k + (i + 1 : Nat), ((i + 1 : Nat) : Int))), iot k (i + 1) ++ l.drop (i + 1))) := by
      simp only [l_markIntS_L2_step, T.run, hlen, Int.toNat_natCast, Nat.zero_add, hget, Option.bind_some, hset]
      rw [w64_id (z := k + i + 1) (by omega) (by omega), w64_id (z := (i : Int) + 1) (by omega) (by omega)]
      have h1 : (i : Int) < (l.length : Int) := by omega
      have h2 : (0 : Int) ≤ i ∧ (i : Int) < (l.length : Int) := by omega
      simp only [h1, h2, decide_true, if_true]
      have h3 : (iot k (i + 1) ++ l.drop (i + 1)).length = l.length := by rw [List.length_append, iot_len, List.length_drop]; omega
      simp [h3, Int.add_assoc]
    rw [loopO_next hst]
    exact ih (i + 1) (by omega)
theorem l_markIntS_eq (k : Int) (l : List Int) (hk : 0 ≤ k ∧ k < 1000000000000) (hl : l.length < 1000000000000000) : l_markIntS (((), k), l) = some (k + l.length, iot k l.length) := by
  have h := l_markIntS_L2_eq k l hk hl l.length 0 (by omega)
  simp only [l_markIntS, l_markIntS_t, T.run]
  have e : iot k 0 ++ l.drop 0 = l := by simp [iot]
  rw [e, show ((0 : Nat) : Int) = 0 from rfl, Int.add_zero] at h
  simp [h]


def l_markPuzzle_sh : FSh := ⟨[(.ag [(.rw 0 0)]), (.one (.si .i64))], [(.row 0 (.int .i64))]⟩

def l_markPuzzle_fo : List FO := [⟨[(.one (.si .i64))], [(.row 0 (.int .i64))]⟩]
noncomputable def l_markPuzzle_t : ((Unit × Int) × List (Int)) → T (Int × List (Int)) := fun (((), k), a_r) =>
  (.test (decide ((0 = 0) ∧ ((List.length a_r) = (List.length a_r))))
  (.sub (l_markIntS (((), k), a_r)) fun z0 =>
   (.ret (z0.1, z0.2)))
  .fail)
noncomputable def l_markPuzzle (v : ((Unit × Int) × List (Int))) : Option (Int × List (Int)) := (l_markPuzzle_t v).run
noncomputable def l_markPuzzle_E : TEnv := (E0.add1 n_l_markIntS l_markIntS_sh l_markIntS_fo l_markIntS)
theorem l_markPuzzle_Eok : (l_markPuzzle_E).OK := (E0ok.add1 l_markIntS_ok)
noncomputable def l_markPuzzle_told : Nat → Option SealT := fun id => none
theorem l_markPuzzle_ok : FOK Try.prog n_l_markPuzzle l_markPuzzle_sh l_markPuzzle_fo l_markPuzzle :=
  fn_ok (E := l_markPuzzle_E) (l_markPuzzle_Eok) (told := l_markPuzzle_told) (fl := []) (c := bodyOf fn_l_markPuzzle) (s := l_markPuzzle_sh) (l := l_markPuzzle_fo) (tree := l_markPuzzle_t) fnat_l_markPuzzle (by kernel_rfl) (by kernel_rfl) (by kernel_rfl) (loopsOK_of (ls := []) (by kernel_rfl) trivial) (fun v => by kernel_rfl)

theorem l_markPuzzle_eq (k : Int) (l : List Int) (hk : 0 ≤ k ∧ k < 1000000000000) (hl : l.length < 1000000000000000) : l_markPuzzle (((), k), l) = some (k + l.length, iot k l.length) := by
  simp [l_markPuzzle, l_markPuzzle_t, T.run, l_markIntS_eq k l hk hl]


def l_heldIntS_sh : FSh := ⟨[(.one (.sl (.int .i64) false false)), (.one (.si .i64))], []⟩

def l_heldIntS_L2_sh : LSh := ⟨(fun ex => match ex with | .norm => [(0, none), (1, none), (5, none)] | .exit i => if i = 0 then [(1, none)] else [] | .ret => [(4, none)]), [(0, (.one (.sl (.int .i64) false false))), (1, (.one (.si .i64))), (5, (.one (.si .i64)))], [], [⟨.ret, [(4, (.one (.si .i64)))], []⟩, ⟨(.exit 0), [(1, (.one (.si .i64)))], []⟩], [], []⟩
noncomputable def l_heldIntS_L2_step : (List (Int) × Int × Int) → T ((List (Int) × Int × Int) ⊕ (Int ⊕ Int)) := fun (a, k, i) =>
  (.test (decide (i < ((List.length a) : Int)))
  (.test (decide ((0 ≤ i) ∧ (i < ((List.length a) : Int))))
   (.sub (a[(Int.toNat i)]?) fun z0 =>
    (.test (z0 != k)
    (.ret (Sum.inr (Sum.inl (-1))))
    (.ret (Sum.inl (a, ((w64 (k + 1)), (w64 (i + 1))))))))
   .fail)
  (.ret (Sum.inr (Sum.inr k))))
noncomputable def l_heldIntS_L2 (v : (List (Int) × Int × Int)) : Option (Int ⊕ Int) := loopO (fun v => (l_heldIntS_L2_step v).run) v

def l_heldIntS_fo : List FO := [⟨[(.one (.si .i64))], []⟩]
noncomputable def l_heldIntS_t : (List (Int) × Int) → T Int := fun (a, k) =>
  (.sub (l_heldIntS_L2 (a, (k, (0 : Int)))) fun z0 =>
  (.test (Sum.isLeft z0)
  (.sub (Sum.getLeft? z0) fun z1 =>
   (.ret z1))
  (.sub (Sum.getRight? z0) fun z2 =>
   (.ret z2))))
noncomputable def l_heldIntS (v : (List (Int) × Int)) : Option Int := (l_heldIntS_t v).run
noncomputable def l_heldIntS_E : TEnv := E0
theorem l_heldIntS_Eok : (l_heldIntS_E).OK := E0ok
noncomputable def l_heldIntS_told : Nat → Option SealT := fun id => if id = 2 then some (LSh.told l_heldIntS_L2_sh 0 (l_heldIntS_L2_step)) else none
theorem l_heldIntS_L2_ok : ToldOK Try.prog 0 (loopAt (bodyOf fn_l_heldIntS) [0]) (LSh.told l_heldIntS_L2_sh 0 (l_heldIntS_L2_step)) :=
  loop_ok (E := l_heldIntS_E) (l_heldIntS_Eok) (told := l_heldIntS_told) (l := l_heldIntS_L2_sh) (step := l_heldIntS_L2_step) (loopsOK_of (ls := []) (by kernel_rfl) trivial) (by kernel_rfl) (fun v => by kernel_rfl)
theorem l_heldIntS_ok : FOK Try.prog n_l_heldIntS l_heldIntS_sh l_heldIntS_fo l_heldIntS :=
  fn_ok (E := l_heldIntS_E) (l_heldIntS_Eok) (told := l_heldIntS_told) (fl := []) (c := bodyOf fn_l_heldIntS) (s := l_heldIntS_sh) (l := l_heldIntS_fo) (tree := l_heldIntS_t) fnat_l_heldIntS (by kernel_rfl) (by kernel_rfl) (by kernel_rfl) (loopsOK_of (ls := [loopAt (bodyOf fn_l_heldIntS) [0]]) (by kernel_rfl) ⟨.inr ⟨_, by kernel_rfl, l_heldIntS_L2_ok⟩, trivial⟩) (fun v => by kernel_rfl)

theorem l_heldIntS_eq (k : Int) (n : Nat) (hk : 0 ≤ k ∧ k < 1000000000000) (hl : n < 1000000000000000) : l_heldIntS (iot k n, k) = some (k + n) := by
  have h := loop_count (step := fun v => (l_heldIntS_L2_step v).run) (n := n) (fun i (_ : Unit) => (iot k n, (k + (i : Int), (i : Int)))) (fun _ _ => Sum.inl ()) (fun _ => Sum.inr (k + (n : Int)))
    (by
      intro i s hi
      simp only [l_heldIntS_L2_step, T.run, iot_len, Int.toNat_natCast, iot_get k hi, Option.bind_some]
      rw [w64_id (z := k + i + 1) (by omega) (by omega), w64_id (z := (i : Int) + 1) (by omega) (by omega)]
      have h1 : (i : Int) < (n : Int) := by omega
      have h2 : (0 : Int) ≤ i ∧ (i : Int) < (n : Int) := by omega
      simp [h1, h2, Int.add_assoc])
    (by intro s; simp [l_heldIntS_L2_step, T.run, iot_len]) 0 () (Nat.zero_le _)
  rw [show ((0 : Nat) : Int) = 0 from rfl, Int.add_zero] at h
  have hf : ∀ l : List Nat, forE (fun (_ : Unit) (_ : Nat) => (Sum.inl () : Unit ⊕ (Int ⊕ Int))) (fun _ => Sum.inr (k + (n : Int))) l () = Sum.inr (k + (n : Int)) := by
    intro l
    induction l with
    | nil => rfl
    | cons x t ih => rw [forE_cons]; exact ih
  rw [hf] at h
  simp only [l_heldIntS, l_heldIntS_t, T.run, l_heldIntS_L2]
  rw [h]
  simp [Sum.isLeft]


def l_heldPuzzle_sh : FSh := ⟨[(.ag [(.sl (.int .i64) false false)]), (.one (.si .i64))], []⟩

def l_heldPuzzle_fo : List FO := [⟨[(.one (.si .i64))], []⟩]
noncomputable def l_heldPuzzle_t : (List (Int) × Int) → T Int := fun (a_0, k) =>
  (.sub (l_heldIntS (a_0, k)) fun z0 =>
  (.test (decide (z0 < 0))
  (.ret (-1))
  (.ret z0)))
noncomputable def l_heldPuzzle (v : (List (Int) × Int)) : Option Int := (l_heldPuzzle_t v).run
noncomputable def l_heldPuzzle_E : TEnv := (E0.add1 n_l_heldIntS l_heldIntS_sh l_heldIntS_fo l_heldIntS)
theorem l_heldPuzzle_Eok : (l_heldPuzzle_E).OK := (E0ok.add1 l_heldIntS_ok)
noncomputable def l_heldPuzzle_told : Nat → Option SealT := fun id => none
theorem l_heldPuzzle_ok : FOK Try.prog n_l_heldPuzzle l_heldPuzzle_sh l_heldPuzzle_fo l_heldPuzzle :=
  fn_ok (E := l_heldPuzzle_E) (l_heldPuzzle_Eok) (told := l_heldPuzzle_told) (fl := []) (c := bodyOf fn_l_heldPuzzle) (s := l_heldPuzzle_sh) (l := l_heldPuzzle_fo) (tree := l_heldPuzzle_t) fnat_l_heldPuzzle (by kernel_rfl) (by kernel_rfl) (by kernel_rfl) (loopsOK_of (ls := []) (by kernel_rfl) trivial) (fun v => by kernel_rfl)

theorem l_heldPuzzle_eq (k : Int) (n : Nat) (hk : 0 ≤ k ∧ k < 1000000000000) (hl : n < 1000000000000000) : l_heldPuzzle (iot k n, k) = some (k + n) := by
  have : ¬ (k + (n : Int) < 0) := by omega
  simp [l_heldPuzzle, l_heldPuzzle_t, T.run, l_heldIntS_eq k n hk hl, this]


def l_FnExactHarderPuzzle_sh : FSh := ⟨[(.ag [(.sl (.int .i64) false false)])], []⟩

def l_FnExactHarderPuzzle_fo : List FO := [⟨[(.one .sb)], []⟩]
noncomputable def l_FnExactHarderPuzzle_t : List (Int) → T Bool := fun aP_0 =>
  (.sub (l_szPuzzle (aP_0, (1048576 : Int))) fun z0 =>
  (.test (decide (z0 < 0))
  (.ret true)
  (.sub (l_toPuzzle aP_0) fun z1 =>
   (.test (decide ((0 + (List.length z1.2)) ≤ (List.length z1.2)))
   (.sub (s_HarderPuzzle (win z1.2 0 (List.length z1.2))) fun z2 =>
    (.sub (l_toPuzzle aP_0) fun z3 =>
    (.test (decide ((0 + (List.length z3.2)) ≤ (List.length z3.2)))
    (.sub (i_HarderPuzzle (win z3.2 0 (List.length z3.2))) fun z4 =>
     (.test (decide ((0 + (List.length z4.2)) ≤ (List.length z4.2)))
     (.test (decide ((0 + (List.length z2.2)) ≤ (List.length z2.2)))
      (.sub (l_eqPuzzle ((win z4.2 0 (List.length z4.2)), (win z2.2 0 (List.length z2.2)))) fun z5 =>
       (.test (! z5)
       (.ret false)
       (.test (! (z4.1.2 == z2.1.2))
        (.ret false)
        (.sub (l_toPuzzle aP_0) fun z6 =>
         (.test (decide ((0 + (List.length z3.2)) ≤ (List.length z3.2)))
         (.test (decide ((0 + (List.length z6.2)) ≤ (List.length z6.2)))
          (.sub (l_eqPuzzle ((win z3.2 0 (List.length z3.2)), (win z6.2 0 (List.length z6.2)))) fun z7 =>
           (.test (! z7)
           (.ret false)
           (.test (decide ((0 = 0) ∧ ((List.length z3.2) = (List.length z3.2))))
            (.sub (l_markPuzzle (((), (1 : Int)), z3.2)) fun z8 =>
             (.test (decide (z8.1 < 0))
             (.ret false)
             (.test (decide ((0 + (List.length z4.2)) ≤ (List.length z4.2)))
              (.test (decide ((0 + (List.length z2.2)) ≤ (List.length z2.2)))
               (.sub (l_eqPuzzle ((win z4.2 0 (List.length z4.2)), (win z2.2 0 (List.length z2.2)))) fun z9 =>
                (.test (! z9)
                (.ret false)
                (.test (! (z4.1.2 == z2.1.2))
                 (.ret false)
                 (.test (decide ((0 = 0) ∧ ((List.length z4.2) = (List.length z4.2))))
                  (.sub (l_markPuzzle (((), (1 : Int)), z4.2)) fun z10 =>
                   (.test (decide ((0 + (List.length z4.2)) ≤ (List.length z10.2)))
                   (.sub (l_heldPuzzle ((win z10.2 0 (List.length z4.2)), (1 : Int))) fun z11 =>
                    (.test (decide (z11 < 0))
                    (.ret false)
                    (.test (z11 != z10.1)
                     (.ret false)
                     (.sub (l_toPuzzle aP_0) fun z12 =>
                      (.test (decide ((0 + (List.length z12.2)) ≤ (List.length z12.2)))
                      (.sub (i_HarderPuzzle (win z12.2 0 (List.length z12.2))) fun z13 =>
                       (.test (decide ((0 + (List.length z13.2)) ≤ (List.length z13.2)))
                       (.test (decide ((0 + (List.length z2.2)) ≤ (List.length z2.2)))
                        (.sub (l_eqPuzzle ((win z13.2 0 (List.length z13.2)), (win z2.2 0 (List.length z2.2)))) fun z14 =>
                         (.test (! z14)
                         (.ret false)
                         (.test (! (z13.1.2 == z2.1.2))
                          (.ret false)
                          (.test (decide ((0 + (List.length z4.2)) ≤ (List.length z10.2)))
                           (.sub (l_heldPuzzle ((win z10.2 0 (List.length z4.2)), (1 : Int))) fun z15 =>
                            (.test (decide (z15 < 0))
                            (.ret false)
                            (.test (z15 != z10.1)
                             (.ret false)
                             (.ret true))))
                           .fail))))
                        .fail)
                       .fail))
                      .fail)))))
                   .fail))
                  .fail))))
               .fail)
              .fail)))
            .fail)))
          .fail)
         .fail)))))
      .fail)
     .fail))
    .fail)))
   .fail))))
noncomputable def l_FnExactHarderPuzzle (v : List (Int)) : Option Bool := (l_FnExactHarderPuzzle_t v).run
noncomputable def l_FnExactHarderPuzzle_E : TEnv := (((((((E0.add1 n_l_szPuzzle l_szPuzzle_sh l_szPuzzle_fo l_szPuzzle).add1 n_l_toPuzzle l_toPuzzle_sh l_toPuzzle_fo l_toPuzzle).add1 n_s_HarderPuzzle s_HarderPuzzle_sh s_HarderPuzzle_fo s_HarderPuzzle).add1 n_i_HarderPuzzle i_HarderPuzzle_sh i_HarderPuzzle_fo i_HarderPuzzle).add1 n_l_eqPuzzle l_eqPuzzle_sh l_eqPuzzle_fo l_eqPuzzle).add1 n_l_markPuzzle l_markPuzzle_sh l_markPuzzle_fo l_markPuzzle).add1 n_l_heldPuzzle l_heldPuzzle_sh l_heldPuzzle_fo l_heldPuzzle)
theorem l_FnExactHarderPuzzle_Eok : (l_FnExactHarderPuzzle_E).OK := (((((((E0ok.add1 l_szPuzzle_ok).add1 l_toPuzzle_ok).add1 s_HarderPuzzle_ok).add1 i_HarderPuzzle_ok).add1 l_eqPuzzle_ok).add1 l_markPuzzle_ok).add1 l_heldPuzzle_ok)
noncomputable def l_FnExactHarderPuzzle_told : Nat → Option SealT := fun id => none
theorem l_FnExactHarderPuzzle_ok : FOK Try.prog n_l_FnExactHarderPuzzle l_FnExactHarderPuzzle_sh l_FnExactHarderPuzzle_fo l_FnExactHarderPuzzle :=
  fn_ok (E := l_FnExactHarderPuzzle_E) (l_FnExactHarderPuzzle_Eok) (told := l_FnExactHarderPuzzle_told) (fl := []) (c := bodyOf fn_l_FnExactHarderPuzzle) (s := l_FnExactHarderPuzzle_sh) (l := l_FnExactHarderPuzzle_fo) (tree := l_FnExactHarderPuzzle_t) fnat_l_FnExactHarderPuzzle (by kernel_rfl) (by kernel_rfl) (by kernel_rfl) (loopsOK_of (ls := []) (by kernel_rfl) trivial) (fun v => by kernel_rfl)

theorem l_FnExactHarderPuzzle_true (l : List Int) (hs : smallL ASh.small [.ag [.sl (.int .i64) false false]] l) : l_FnExactHarderPuzzle l = some true := by
  have hl0 : l.length < 140737488355328 := hs.1
  have hl : l.length < 4611686018427387904 := by omega
  have hl2 : (hardR l).2.length ≤ 9 := by
    unfold hardR
    split
    · rename_i h; rw [Bool.and_eq_true] at h; have := isPz_len h.1; simp only [hard_foldl_len]; omega
    · simp
  have hr := i_HarderPuzzle_eq l hl
  have hsp := s_HarderPuzzle_eq l hl
  generalize hardR l = r at *
  obtain ⟨ok, r⟩ := r
  simp only at hl2 hr hsp
  rw [l_FnExactHarderPuzzle, l_FnExactHarderPuzzle_t, T.run_sub, l_szPuzzle_eq l _ (by decide) hl, Option.bind_some, T.run_test]
  split
  · rfl
  · rename_i hsz
    have hlen : l.length < 10000000000000 := by omega
    have hl1 : r.length < 4611686018427387904 := by omega
    have hm := l_markPuzzle_eq 1 r (by omega) (by omega)
    have hml := l_markPuzzle_eq 1 l (by omega) (by omega)
    have hh := l_heldPuzzle_eq 1 r.length (by omega) (by omega)
    have hw : win (iot 1 r.length) 0 r.length = iot 1 r.length := by have := win_all (iot 1 r.length); rwa [iot_len] at this
    have hx : ¬ ((1 : Int) + r.length < 0) := by omega
    have hx2 : ¬ ((1 : Int) + l.length < 0) := by omega
    simp (config := { maxSteps := 10000000 }) [T.run, hsz, l_toPuzzle_eq l hlen, win_all, hr, hsp, l_eqPuzzle_eq r r hl1, l_eqPuzzle_eq l l hl, hm, hml, iot_len, hw, hh, hx, hx2]


end Go.Proofs.W
