/- Functions of the program, walked, and what they compute. -/
import Derived.Test.YtigenooglogcfaaSnWk3
set_option linter.unusedVariables false
set_option linter.unusedSimpArgs false
set_option maxRecDepth 100000
set_option maxHeartbeats 4000000
namespace Go.Proofs.W
open Go Go.Gm Go.Proofs
open Go.RowKit Go.Shelf
def i_SureNumbers_sh : FSh := ⟨[(.ag [(.sl (.int .i64) false false)])], []⟩

def i_SureNumbers_L9_sh : LSh := ⟨(fun ex => match ex with | .norm => [(6, none), (8, none), (21, none), (22, none), (23, none), (28, none), (29, none)] | .exit i => if i = 2 then [(6, none), (21, none), (22, none), (23, none)] else if i = 1 then [(6, none), (21, none), (22, none), (23, none)] else if i = 0 then [(6, none)] else [] | .ret => [(2, none), (3, none)]), [(6, (.one (.rw 0 0))), (8, (.one (.sl (.int .i64) false true))), (21, (.one (.rw 1 0))), (22, (.one (.si .i64))), (23, (.one (.si .i64))), (28, (.one (.si .i64))), (29, (.one (.si .i64)))], [(.row 0 (.int .i64)), (.row 0 (.list true (.int .i64)))], [⟨(.exit 2), [(6, (.one (.rw 0 0))), (21, (.one (.rw 1 0))), (22, (.one (.si .i64))), (23, (.one (.si .i64)))], [(.row 0 (.int .i64)), (.row 0 (.list true (.int .i64)))]⟩], [], []⟩
noncomputable def i_SureNumbers_L9_step : ((Unit × List (Int) × Unit × Int × Int × Int × Int) × (List (Int) × List (List (Int)))) → T (((Unit × List (Int) × Unit × Int × Int × Int × Int) × (List (Int) × List (List (Int)))) ⊕ ((Unit × Unit × Int × Int) × (List (Int) × List (List (Int))))) := fun (((), next, (), t22, t23, t28, t29), (out, t21)) =>
  (.test (decide (t29 < t28))
  (.test (decide ((0 ≤ t29) ∧ (t29 < ((List.length out) : Int))))
   (.sub (out[(0 + (Int.toNat t29))]?) fun z0 =>
    (.test (decide ((0 ≤ t29) ∧ (t29 < ((List.length next) : Int))))
    (.sub (next[(Int.toNat t29)]?) fun z1 =>
     (.test (z0 != z1)
     (.test (decide ((0 ≤ t29) ∧ (t29 < ((List.length out) : Int))))
      (.sub (out[(0 + (Int.toNat t29))]?) fun z2 =>
       (.test (decide ((0 = 0) ∧ ((List.length out) = (List.length (List.set out (0 + (Int.toNat t29)) (0 : Int))))))
       (.test (decide ((0 = 0) ∧ ((List.length t21) = (List.length t21))))
        (.ret (Sum.inl (((), (next, ((), (t22, (t23, (t28, (w64 (t29 + 1)))))))), ((List.set out (0 + (Int.toNat t29)) (0 : Int)), t21))))
        .fail)
       .fail))
      .fail)
     (.test (decide ((0 = 0) ∧ ((List.length out) = (List.length out))))
      (.test (decide ((0 = 0) ∧ ((List.length t21) = (List.length t21))))
       (.ret (Sum.inl (((), (next, ((), (t22, (t23, (t28, (w64 (t29 + 1)))))))), (out, t21))))
       .fail)
      .fail)))
    .fail))
   .fail)
  (.test (decide ((0 = 0) ∧ ((List.length out) = (List.length out))))
   (.test (decide ((0 = 0) ∧ ((List.length t21) = (List.length t21))))
    (.ret (Sum.inr (((), ((), (t22, t23))), (out, t21))))
    .fail)
   .fail))
noncomputable def i_SureNumbers_L9 (v : ((Unit × List (Int) × Unit × Int × Int × Int × Int) × (List (Int) × List (List (Int))))) : Option ((Unit × Unit × Int × Int) × (List (Int) × List (List (Int)))) := loopO (fun v => (i_SureNumbers_L9_step v).run) v

def i_SureNumbers_L6_sh : LSh := ⟨(fun ex => match ex with | .norm => [(6, none), (21, none), (22, none), (23, none)] | .exit i => if i = 0 then [(6, none)] else [] | .ret => [(2, none), (3, none)]), [(6, (.one (.rw 0 0))), (21, (.one (.rw 1 0))), (22, (.one (.si .i64))), (23, (.one (.si .i64)))], [(.row 0 (.int .i64)), (.row 0 (.list true (.int .i64)))], [⟨(.exit 0), [(6, (.one (.rw 0 0)))], [(.row 0 (.int .i64))]⟩], [], []⟩
noncomputable def i_SureNumbers_L6_step : ((Unit × Unit × Int × Int) × (List (Int) × List (List (Int)))) → T (((Unit × Unit × Int × Int) × (List (Int) × List (List (Int)))) ⊕ (Unit × List (Int))) := fun (((), (), t22, t23), (out, t21)) =>
  (.test (decide (t23 < t22))
  (.test (decide ((0 ≤ t23) ∧ (t23 < ((List.length t21) : Int))))
   (.sub (t21[(0 + (Int.toNat t23))]?) fun z0 =>
    (.test (decide ((0 = 0) ∧ ((List.length out) = (List.length out))))
    (.test (decide ((0 = 0) ∧ ((List.length t21) = (List.length t21))))
     (.sub (i_SureNumbers_L9 (((), (z0, ((), (t22, (t23, (((List.length out) : Int), (0 : Int))))))), (out, t21))) fun z1 =>
      (.test (decide ((0 = 0) ∧ ((List.length z1.2.1) = (List.length z1.2.1))))
      (.test (decide ((0 = 0) ∧ ((List.length z1.2.2) = (List.length z1.2.2))))
       (.ret (Sum.inl (((), ((), (z1.1.2.2.1, (w64 (z1.1.2.2.2 + 1))))), (z1.2.1, z1.2.2))))
       .fail)
      .fail))
     .fail)
    .fail))
   .fail)
  (.test (decide ((0 = 0) ∧ ((List.length out) = (List.length out))))
   (.ret (Sum.inr ((), out)))
   .fail))
noncomputable def i_SureNumbers_L6 (v : ((Unit × Unit × Int × Int) × (List (Int) × List (List (Int))))) : Option (Unit × List (Int)) := loopO (fun v => (i_SureNumbers_L6_step v).run) v

def i_SureNumbers_fo : List FO := [⟨[(.one (.rw 0 0)), (.one .sb)], [(.row 0 (.int .i64))]⟩]
noncomputable def i_SureNumbers_t : List (Int) → T ((Unit × Bool) × List (Int)) := fun p_0 =>
  (.sub (i_someSolutions p_0) fun z0 =>
  (.test (! z0.1.2)
  (.test true
   (.ret (((), false), ([] : List (Int))))
   .fail)
  (.test (decide (((0 : Int) ≤ (0 : Int)) ∧ (0 < ((List.length z0.2) : Int))))
   (.sub (z0.2[0]?) fun z1 =>
    (.sub (slices_Clone_int z1) fun z2 =>
    (.test (decide ((0 = 0) ∧ ((List.length z2.2) = (List.length z2.2))))
    (.test (decide ((0 = 0) ∧ ((List.length z0.2) = (List.length z0.2))))
     (.sub (i_SureNumbers_L6 (((), ((), (((List.length z0.2) : Int), (0 : Int)))), (z2.2, z0.2))) fun z3 =>
      (.test (decide ((0 = 0) ∧ ((List.length z3.2) = (List.length z3.2))))
      (.ret (((), true), z3.2))
      .fail))
     .fail)
    .fail)))
   .fail)))
noncomputable def i_SureNumbers (v : List (Int)) : Option ((Unit × Bool) × List (Int)) := (i_SureNumbers_t v).run
noncomputable def i_SureNumbers_E : TEnv := ((E0.add1 n_i_someSolutions i_someSolutions_sh i_someSolutions_fo i_someSolutions).add1 n_slices_Clone_int slices_Clone_int_sh slices_Clone_int_fo slices_Clone_int)
theorem i_SureNumbers_Eok : (i_SureNumbers_E).OK := ((E0ok.add1 i_someSolutions_ok).add1 slices_Clone_int_ok)
noncomputable def i_SureNumbers_told : Nat → Option SealT := fun id => if id = 9 then some (LSh.told i_SureNumbers_L9_sh 0 (i_SureNumbers_L9_step)) else if id = 6 then some (LSh.told i_SureNumbers_L6_sh 0 (i_SureNumbers_L6_step)) else none
theorem i_SureNumbers_L9_ok : ToldOK Try.prog 0 (loopAt (bodyOf fn_i_SureNumbers) [0, 0]) (LSh.told i_SureNumbers_L9_sh 0 (i_SureNumbers_L9_step)) :=
  loop_ok (E := i_SureNumbers_E) (i_SureNumbers_Eok) (told := i_SureNumbers_told) (l := i_SureNumbers_L9_sh) (step := i_SureNumbers_L9_step) (loopsOK_of (ls := []) (by kernel_rfl) trivial) (by kernel_rfl) (fun v => by kernel_rfl)
theorem i_SureNumbers_L6_ok : ToldOK Try.prog 0 (loopAt (bodyOf fn_i_SureNumbers) [0]) (LSh.told i_SureNumbers_L6_sh 0 (i_SureNumbers_L6_step)) :=
  loop_ok (E := i_SureNumbers_E) (i_SureNumbers_Eok) (told := i_SureNumbers_told) (l := i_SureNumbers_L6_sh) (step := i_SureNumbers_L6_step) (loopsOK_of (ls := [loopAt (bodyOf fn_i_SureNumbers) [0, 0]]) (by kernel_rfl) ⟨.inr ⟨_, by kernel_rfl, i_SureNumbers_L9_ok⟩, trivial⟩) (by kernel_rfl) (fun v => by kernel_rfl)
theorem i_SureNumbers_ok : FOK Try.prog n_i_SureNumbers i_SureNumbers_sh i_SureNumbers_fo i_SureNumbers :=
  fn_ok (E := i_SureNumbers_E) (i_SureNumbers_Eok) (told := i_SureNumbers_told) (fl := []) (c := bodyOf fn_i_SureNumbers) (s := i_SureNumbers_sh) (l := i_SureNumbers_fo) (tree := i_SureNumbers_t) fnat_i_SureNumbers (by kernel_rfl) (by kernel_rfl) (by kernel_rfl) (loopsOK_of (ls := [loopAt (bodyOf fn_i_SureNumbers) [0]]) (by kernel_rfl) ⟨.inr ⟨_, by kernel_rfl, i_SureNumbers_L6_ok⟩, trivial⟩) (fun v => by kernel_rfl)

theorem i_SureNumbers_one (q s : List Int) (t21 : List (List Int)) (t22 t23 : Int) (hl : s.length < 1000000) (hq : q.length = s.length) : i_SureNumbers_L9 (((), (q, ((), (t22, (t23, ((s.length : Int), (0 : Int))))))), (s, t21)) = some (((), ((), (t22, t23))), (sureQ s q, t21)) := by
  have h := loop_fold (step := fun v => (i_SureNumbers_L9_step v).run) (xs := List.range s.length) (fun k (o : List Int) => o.length = s.length) (fun k o => (((), (q, ((), (t22, (t23, ((s.length : Int), (k : Int))))))), (o, t21))) (sureG q) (fun o => (((), ((), (t22, t23))), (o, t21)))
    (fun k o x hP hx => by
      obtain ⟨hk, e⟩ := List.getElem?_eq_some_iff.1 hx
      simp only [List.getElem_range] at e
      subst e
      rw [List.length_range] at hk
      refine ⟨?_, by rw [sureG_len, hP]⟩
      have g0 := set_getD (l := o) (p := k) (by omega)
      have g1 := set_getD (l := q) (p := k) (by omega)
      have c0 : (k : Int) < (s.length : Int) := by omega
      have c1 : (0 : Int) ≤ (k : Int) ∧ (k : Int) < (o.length : Int) := by omega
      have c2 : (0 : Int) ≤ (k : Int) ∧ (k : Int) < (q.length : Int) := by omega
      have w1 : w64 ((k : Int) + 1) = ((k + 1 : Nat) : Int) := by rw [w64_id (by omega) (by omega)]; omega
      unfold sureG
      by_cases hz : o.getD k 0 = q.getD k 0
      · have e2 : (o.getD k 0 != q.getD k 0) = false := by simp only [hz]; simp
        rw [if_neg (fun hne => hne hz)]
        simp only [i_SureNumbers_L9_step, T.run, c0, c1, c2, decide_true, if_true, and_self, Int.toNat_natCast, Nat.zero_add, g0, g1, Option.bind_some, e2, Bool.false_eq_true, if_false, w1]
      · have e2 : (o.getD k 0 != q.getD k 0) = true := by rw [bne_iff_ne]; exact hz
        rw [if_pos hz]
        simp only [i_SureNumbers_L9_step, T.run, c0, c1, c2, decide_true, if_true, and_self, Int.toNat_natCast, Nat.zero_add, g0, g1, Option.bind_some, e2, List.length_set, w1])
    (fun o hs => by simp [i_SureNumbers_L9_step, T.run])
    s rfl
  simp only [Int.natCast_zero] at h
  simp only [i_SureNumbers_L9]
  exact h.1
theorem i_SureNumbers_all (n : Nat) (t : List (List Int)) (s : List Int) (hn : n < 1000) (hl : t.length < 1000000000) (hs : s.length = n) (ht : ∀ q ∈ t, q.length = n) : i_SureNumbers_L6 (((), ((), ((t.length : Int), (0 : Int)))), (s, t)) = some ((), t.foldl sureQ s) := by
  have h := loop_fold (step := fun v => (i_SureNumbers_L6_step v).run) (xs := t) (fun k (o : List Int) => o.length = n) (fun k o => (((), ((), ((t.length : Int), (k : Int)))), (o, t))) sureQ (fun o => ((), o))
    (fun k o x hP hx => by
      have hlt := getElem?_lt hx
      refine ⟨?_, by rw [sureQ_len, hP]⟩
      have c0 : (k : Int) < (t.length : Int) := by omega
      have c1 : (0 : Int) ≤ (k : Int) ∧ (k : Int) < (t.length : Int) := by omega
      have w1 : w64 ((k : Int) + 1) = ((k + 1 : Nat) : Int) := by rw [w64_id (by omega) (by omega)]; omega
      have h1 := i_SureNumbers_one x o t (t.length : Int) (k : Int) (by omega) (by rw [ht x (List.mem_of_getElem? hx), hP])
      simp only [i_SureNumbers_L6_step, T.run, c0, c1, decide_true, if_true, and_self, true_and, Int.toNat_natCast, Nat.zero_add, hx, Option.bind_some, h1, w1])
    (fun o hs => by simp [i_SureNumbers_L6_step, T.run])
    s hs
  simp only [Int.natCast_zero] at h
  simp only [i_SureNumbers_L6]
  exact h.1
theorem i_SureNumbers_eq (p : List Int) (hl : p.length < 4611686018427387904) : i_SureNumbers p = some (((), (surR p).1), (surR p).2) := by
  have hsome : i_someSolutions p = some (((), ((solR p).1 && decide (((solR p).2.length : Int) > 0))), (solR p).2) := by
    rw [i_someSolutions, i_someSolutions_t, T.run_sub, i_Solutions_eq p hl, Option.bind_some, T.run_test]
    cases (solR p).1 <;> simp [T.run]
  rw [i_SureNumbers, i_SureNumbers_t, T.run_sub, hsome, Option.bind_some, T.run_test]
  unfold surR
  have hm : ∀ q ∈ (solR p).2, q.length = p.length ∧ p.length ≤ 9 := fun q h => solR_mem h
  have h3 := solR_len p
  generalize solR p = r at *
  obtain ⟨ok, l⟩ := r
  simp only at hm h3
  cases ok with
  | false => simp [T.run]
  | true =>
    cases l with
    | nil => simp [T.run]
    | cons q t =>
      have hq := hm q (by simp)
      have hc : slices_Clone_int q = some ((), q) := by
        unfold slices_Clone_int
        rw [if_pos]
        exact ⟨by unfold maxLen; omega, by omega⟩
      have h6 := i_SureNumbers_all p.length (q :: t) q (by omega) (by omega) hq.1 (fun x hx => (hm x hx).1)
      have hpos : decide ((((q :: t).length : Nat) : Int) > 0) = true := decide_eq_true (by rw [List.length_cons]; omega)
      simp only [T.run, hpos, Bool.and_self, Bool.not_true, Bool.false_eq_true, if_false]
      simp [hc]
      simp at h6
      rw [h6]
      simp
      try omega


def l_eqIntS_sh : FSh := ⟨[(.one (.sl (.int .i64) false false)), (.one (.sl (.int .i64) false false))], []⟩

def l_eqIntS_L4_sh : LSh := ⟨(fun ex => match ex with | .norm => [(0, none), (1, none), (5, none)] | .exit i => if i = 0 then [] else [] | .ret => [(4, none)]), [(0, (.one (.sl (.int .i64) false false))), (1, (.one (.sl (.int .i64) false false))), (5, (.one (.si .i64)))], [], [⟨.ret, [(4, (.one .sb))], []⟩, ⟨(.exit 0), [], []⟩], [], []⟩
noncomputable def l_eqIntS_L4_step : (List (Int) × List (Int) × Int) → T ((List (Int) × List (Int) × Int) ⊕ (Bool ⊕ Unit)) := fun (a, b, i) =>
  (.test (decide (i < ((List.length a) : Int)))
  (.test (decide ((0 ≤ i) ∧ (i < ((List.length a) : Int))))
   (.sub (a[(Int.toNat i)]?) fun z0 =>
    (.test (decide ((0 ≤ i) ∧ (i < ((List.length b) : Int))))
    (.sub (b[(Int.toNat i)]?) fun z1 =>
     (.test (z0 != z1)
     (.ret (Sum.inr (Sum.inl false)))
     (.ret (Sum.inl (a, (b, (w64 (i + 1))))))))
    .fail))
   .fail)
  (.ret (Sum.inr (Sum.inr ()))))
noncomputable def l_eqIntS_L4 (v : (List (Int) × List (Int) × Int)) : Option (Bool ⊕ Unit) := loopO (fun v => (l_eqIntS_L4_step v).run) v

def l_eqIntS_fo : List FO := [⟨[(.one .sb)], []⟩]
noncomputable def l_eqIntS_t : (List (Int) × List (Int)) → T Bool := fun (a, b) =>
  (.test (((List.length a) : Int) != ((List.length b) : Int))
  (.ret false)
  (.sub (l_eqIntS_L4 (a, (b, (0 : Int)))) fun z0 =>
   (.test (Sum.isLeft z0)
   (.sub (Sum.getLeft? z0) fun z1 =>
    (.ret z1))
   (.sub (Sum.getRight? z0) fun z2 =>
    (.ret true)))))
noncomputable def l_eqIntS (v : (List (Int) × List (Int))) : Option Bool := (l_eqIntS_t v).run
noncomputable def l_eqIntS_E : TEnv := E0
theorem l_eqIntS_Eok : (l_eqIntS_E).OK := E0ok
noncomputable def l_eqIntS_told : Nat → Option SealT := fun id => if id = 4 then some (LSh.told l_eqIntS_L4_sh 0 (l_eqIntS_L4_step)) else none
theorem l_eqIntS_L4_ok : ToldOK Try.prog 0 (loopAt (bodyOf fn_l_eqIntS) [0]) (LSh.told l_eqIntS_L4_sh 0 (l_eqIntS_L4_step)) :=
  loop_ok (E := l_eqIntS_E) (l_eqIntS_Eok) (told := l_eqIntS_told) (l := l_eqIntS_L4_sh) (step := l_eqIntS_L4_step) (loopsOK_of (ls := []) (by kernel_rfl) trivial) (by kernel_rfl) (fun v => by kernel_rfl)
theorem l_eqIntS_ok : FOK Try.prog n_l_eqIntS l_eqIntS_sh l_eqIntS_fo l_eqIntS :=
  fn_ok (E := l_eqIntS_E) (l_eqIntS_Eok) (told := l_eqIntS_told) (fl := []) (c := bodyOf fn_l_eqIntS) (s := l_eqIntS_sh) (l := l_eqIntS_fo) (tree := l_eqIntS_t) fnat_l_eqIntS (by kernel_rfl) (by kernel_rfl) (by kernel_rfl) (loopsOK_of (ls := [loopAt (bodyOf fn_l_eqIntS) [0]]) (by kernel_rfl) ⟨.inr ⟨_, by kernel_rfl, l_eqIntS_L4_ok⟩, trivial⟩) (fun v => by kernel_rfl)

theorem l_eqIntS_eq (a b : List Int) (hl : a.length < 4611686018427387904) : l_eqIntS (a, b) = some (decide (a = b)) := by
  by_cases hab : a.length = b.length
  · have h := loop_any (step := fun v => (l_eqIntS_L4_step v).run) (xs := a.zip b) (fun p => p.1 != p.2) (fun k => (a, b, (k : Int))) (.inl false) (.inr ())
      (fun k x hx => by
        have hk := getElem?_lt hx
        rw [List.length_zip, hab, Nat.min_self] at hk
        rw [List.getElem?_zip_eq_some] at hx
        simp only [l_eqIntS_L4_step, T.run, Option.bind_some, Int.toNat_natCast, hx.1, hx.2]
        rw [w64_id (by omega) (by omega)]
        have hka : k < a.length := by omega
        cases x.1 != x.2 <;> simp [hk, hka])
      (by simp [l_eqIntS_L4_step, T.run, hab])
    simp only [l_eqIntS, l_eqIntS_t, T.run, l_eqIntS_L4]
    simp only [Int.natCast_zero] at h
    rw [h, hab]
    have e : (a.zip b).any (fun p => p.1 != p.2) = !decide (a = b) := zip_any_ne a b hab
    rw [e]
    cases decide (a = b) <;> simp
  · simp only [l_eqIntS, l_eqIntS_t, T.run]
    have : a ≠ b := fun e => hab (by rw [e])
    simp [this]
    omega


def l_eqPuzzle_sh : FSh := ⟨[(.ag [(.sl (.int .i64) false false)]), (.ag [(.sl (.int .i64) false false)])], []⟩

def l_eqPuzzle_fo : List FO := [⟨[(.one .sb)], []⟩]
noncomputable def l_eqPuzzle_t : (List (Int) × List (Int)) → T Bool := fun (a_0, b_0) =>
  (.sub (l_eqIntS (a_0, b_0)) fun z0 =>
  (.test (! z0)
  (.ret false)
  (.ret true)))
noncomputable def l_eqPuzzle (v : (List (Int) × List (Int))) : Option Bool := (l_eqPuzzle_t v).run
noncomputable def l_eqPuzzle_E : TEnv := (E0.add1 n_l_eqIntS l_eqIntS_sh l_eqIntS_fo l_eqIntS)
theorem l_eqPuzzle_Eok : (l_eqPuzzle_E).OK := (E0ok.add1 l_eqIntS_ok)
noncomputable def l_eqPuzzle_told : Nat → Option SealT := fun id => none
theorem l_eqPuzzle_ok : FOK Try.prog n_l_eqPuzzle l_eqPuzzle_sh l_eqPuzzle_fo l_eqPuzzle :=
  fn_ok (E := l_eqPuzzle_E) (l_eqPuzzle_Eok) (told := l_eqPuzzle_told) (fl := []) (c := bodyOf fn_l_eqPuzzle) (s := l_eqPuzzle_sh) (l := l_eqPuzzle_fo) (tree := l_eqPuzzle_t) fnat_l_eqPuzzle (by kernel_rfl) (by kernel_rfl) (by kernel_rfl) (loopsOK_of (ls := []) (by kernel_rfl) trivial) (fun v => by kernel_rfl)

theorem l_eqPuzzle_eq (a b : List Int) (hl : a.length < 4611686018427387904) : l_eqPuzzle (a, b) = some (decide (a = b)) := by
  simp only [l_eqPuzzle, l_eqPuzzle_t, T.run, l_eqIntS_eq a b hl, Option.bind_some]
  cases decide (a = b) <;> rfl


def l_markIntS_sh : FSh := ⟨[(.one (.rw 0 0)), (.one (.si .i64))], [(.row 0 (.int .i64))]⟩

def l_markIntS_L2_sh : LSh := ⟨(fun ex => match ex with | .norm => [(0, none), (1, none), (5, none)] | .exit i => if i = 0 then [(1, none)] else [] | .ret => [(4, none)]), [(0, (.one (.rw 0 0))), (1, (.one (.si .i64))), (5, (.one (.si .i64)))], [(.row 0 (.int .i64))], [⟨(.exit 0), [(1, (.one (.si .i64)))], [(.row 0 (.int .i64))]⟩], [], []⟩
noncomputable def l_markIntS_L2_step : ((Unit × Int × Int) × List (Int)) → T (((Unit × Int × Int) × List (Int)) ⊕ (Int × List (Int))) := fun (((), k, i), a) =>
  (.test (decide (i < ((List.length a) : Int)))
  (.test (decide ((0 ≤ i) ∧ (i < ((List.length a) : Int))))
   (.sub (a[(0 + (Int.toNat i))]?) fun z0 =>
    (.test (decide ((0 = 0) ∧ ((List.length a) = (List.length (List.set a (0 + (Int.toNat i)) k)))))
    (.ret (Sum.inl (((), ((w64 (k + 1)), (w64 (i + 1)))), (List.set a (0 + (Int.toNat i)) k))))
    .fail))
   .fail)
  (.ret (Sum.inr (k, a))))
noncomputable def l_markIntS_L2 (v : ((Unit × Int × Int) × List (Int))) : Option (Int × List (Int)) := loopO (fun v => (l_markIntS_L2_step v).run) v

def l_markIntS_fo : List FO := [⟨[(.one (.si .i64))], [(.row 0 (.int .i64))]⟩]
noncomputable def l_markIntS_t : ((Unit × Int) × List (Int)) → T (Int × List (Int)) := fun (((), k), a) =>
  (.test (decide ((0 = 0) ∧ ((List.length a) = (List.length a))))
  (.sub (l_markIntS_L2 (((), (k, (0 : Int))), a)) fun z0 =>
   (.ret (z0.1, z0.2)))
  .fail)
noncomputable def l_markIntS (v : ((Unit × Int) × List (Int))) : Option (Int × List (Int)) := (l_markIntS_t v).run
noncomputable def l_markIntS_E : TEnv := E0
theorem l_markIntS_Eok : (l_markIntS_E).OK := E0ok
noncomputable def l_markIntS_told : Nat → Option SealT := fun id => if id = 2 then some (LSh.told l_markIntS_L2_sh 1 (l_markIntS_L2_step)) else none
theorem l_markIntS_L2_ok : ToldOK Try.prog 1 (loopAt (bodyOf fn_l_markIntS) [0]) (LSh.told l_markIntS_L2_sh 1 (l_markIntS_L2_step)) :=
  loop_ok (E := l_markIntS_E) (l_markIntS_Eok) (told := l_markIntS_told) (l := l_markIntS_L2_sh) (step := l_markIntS_L2_step) (loopsOK_of (ls := []) (by kernel_rfl) trivial) (by kernel_rfl) (fun v => by kernel_rfl)
theorem l_markIntS_ok : FOK Try.prog n_l_markIntS l_markIntS_sh l_markIntS_fo l_markIntS :=
  fn_ok (E := l_markIntS_E) (l_markIntS_Eok) (told := l_markIntS_told) (fl := []) (c := bodyOf fn_l_markIntS) (s := l_markIntS_sh) (l := l_markIntS_fo) (tree := l_markIntS_t) fnat_l_markIntS (by kernel_rfl) (by kernel_rfl) (by kernel_rfl) (loopsOK_of (ls := [loopAt (bodyOf fn_l_markIntS) [0]]) (by kernel_rfl) ⟨.inr ⟨_, by kernel_rfl, l_markIntS_L2_ok⟩, trivial⟩) (fun v => by kernel_rfl)

theorem l_markIntS_L2_eq (k : Int) (l : List Int) (hk : 0 ≤ k ∧ k < 1000000000000) (hl : l.length < 1000000000000000) : ∀ n i, i + n = l.length →
    l_markIntS_L2 (((), (k + i, (i : Int))), iot k i ++ l.drop i) = some (k + l.length, iot k l.length) := by
  intro n
  induction n with
  | zero =>
    intro i hi
    obtain rfl : i = l.length := by omega
    rw [List.drop_length, List.append_nil]
    simp only [l_markIntS_L2]
    exact loopO_done (by simp [l_markIntS_L2_step, T.run, iot_len])
  | succ n ih =>
    intro i hi
    have hlt : i < l.length := by omega
    have hd : l.drop i = l[i] :: l.drop (i + 1) := List.drop_eq_getElem_cons hlt
    have hlen : (iot k i ++ l.drop i).length = l.length := by rw [List.length_append, iot_len, List.length_drop]; omega
    have hget : (iot k i ++ l.drop i)[i]? = some l[i] := by
      rw [List.getElem?_append_right (by rw [iot_len]; omega), iot_len, Nat.sub_self, hd]; rfl
    have hset : List.set (iot k i ++ l.drop i) i (k + i) = iot k (i + 1) ++ l.drop (i + 1) := by
      rw [List.set_append_right _ _ (by rw [iot_len]; omega), iot_len, Nat.sub_self, hd, iot_succ, List.append_assoc]; rfl
    simp only [l_markIntS_L2] at ih ⊢
    have hst : (l_markIntS_L2_step (((), (k + i, (i : Int))), iot k i ++ l.drop i)).run = some (.inl (((), (k + (i + 1 : Nat), ((i + 1 : Nat) : Int))), iot k (i + 1) ++ l.drop (i + 1))) := by
      simp only [l_markIntS_L2_step, T.run, hlen, Int.toNat_natCast, Nat.zero_add, hget, Option.bind_some, hset]
      rw [w64_id (z := k + i + 1) (by omega) (by omega), w64_id (z := (i : Int) + 1) (by omega) (by omega)]
      have h1 : (i : Int) < (l.length : Int) := by omega
      have h2 : (0 : Int) ≤ i ∧ (i : Int) < (l.length : Int) := by omega
      simp only [h1, h2, decide_true, if_true]
      have h3 : (iot k (i + 1) ++ l.drop (i + 1)).length = l.length := by rw [List.length_append, iot_len, List.length_drop]; omega
      simp [h3, Int.add_assoc]
    rw [loopO_next hst]
    exact ih (i + 1) (by omega)
theorem l_markIntS_eq (k : Int) (l : List Int) (hk : 0 ≤ k ∧ k < 1000000000000) (hl : l.length < 1000000000000000) : l_markIntS (((), k), l) = some (k + l.length, iot k l.length) := by
  have h := l_markIntS_L2_eq k l hk hl l.length 0 (by omega)
  simp only [l_markIntS, l_markIntS_t, T.run]
  have e : iot k 0 ++ l.drop 0 = l := by simp [iot]
  rw [e, show ((0 : Nat) : Int) = 0 from rfl, Int.add_zero] at h
  simp [h]


def l_markPuzzle_sh : FSh := ⟨[(.ag [(.rw 0 0)]), (.one (.si .i64))], [(.row 0 (.int .i64))]⟩

def l_markPuzzle_fo : List FO := [⟨[(.one (.si .i64))], [(.row 0 (.int .i64))]⟩]
noncomputable def l_markPuzzle_t : ((Unit × Int) × List (Int)) → T (Int × List (Int)) := fun (((), k), a_r) =>
  (.test (decide ((0 = 0) ∧ ((List.length a_r) = (List.length a_r))))
  (.sub (l_markIntS (((), k), a_r)) fun z0 =>
   (.ret (z0.1, z0.2)))
  .fail)
noncomputable def l_markPuzzle (v : ((Unit × Int) × List (Int))) : Option (Int × List (Int)) := (l_markPuzzle_t v).run
noncomputable def l_markPuzzle_E : TEnv := (E0.add1 n_l_markIntS l_markIntS_sh l_markIntS_fo l_markIntS)
theorem l_markPuzzle_Eok : (l_markPuzzle_E).OK := (E0ok.add1 l_markIntS_ok)
noncomputable def l_markPuzzle_told : Nat → Option SealT := fun id => none
theorem l_markPuzzle_ok : FOK Try.prog n_l_markPuzzle l_markPuzzle_sh l_markPuzzle_fo l_markPuzzle :=
  fn_ok (E := l_markPuzzle_E) (l_markPuzzle_Eok) (told := l_markPuzzle_told) (fl := []) (c := bodyOf fn_l_markPuzzle) (s := l_markPuzzle_sh) (l := l_markPuzzle_fo) (tree := l_markPuzzle_t) fnat_l_markPuzzle (by kernel_rfl) (by kernel_rfl) (by kernel_rfl) (loopsOK_of (ls := []) (by kernel_rfl) trivial) (fun v => by kernel_rfl)

theorem l_markPuzzle_eq (k : Int) (l : List Int) (hk : 0 ≤ k ∧ k < 1000000000000) (hl : l.length < 1000000000000000) : l_markPuzzle (((), k), l) = some (k + l.length, iot k l.length) := by
  simp [l_markPuzzle, l_markPuzzle_t, T.run, l_markIntS_eq k l hk hl]


def l_heldIntS_sh : FSh := ⟨[(.one (.sl (.int .i64) false false)), (.one (.si .i64))], []⟩

def l_heldIntS_L2_sh : LSh := ⟨(fun ex => match ex with | .norm => [(0, none), (1, none), (5, none)] | .exit i => if i = 0 then [(1, none)] else [] | .ret => [(4, none)]), [(0, (.one (.sl (.int .i64) false false))), (1, (.one (.si .i64))), (5, (.one (.si .i64)))], [], [⟨.ret, [(4, (.one (.si .i64)))], []⟩, ⟨(.exit 0), [(1, (.one (.si .i64)))], []⟩], [], []⟩
noncomputable def l_heldIntS_L2_step : (List (Int) × Int × Int) → T ((List (Int) × Int × Int) ⊕ (Int ⊕ Int)) := fun (a, k, i) =>
  (.test (decide (i < ((List.length a) : Int)))
  (.test (decide ((0 ≤ i) ∧ (i < ((List.length a) : Int))))
   (.sub (a[(Int.toNat i)]?) fun z0 =>
    (.test (z0 != k)
    (.ret (Sum.inr (Sum.inl (-1))))
    (.ret (Sum.inl (a, ((w64 (k + 1)), (w64 (i + 1))))))))
   .fail)
  (.ret (Sum.inr (Sum.inr k))))
noncomputable def l_heldIntS_L2 (v : (List (Int) × Int × Int)) : Option (Int ⊕ Int) := loopO (fun v => (l_heldIntS_L2_step v).run) v

def l_heldIntS_fo : List FO := [⟨[(.one (.si .i64))], []⟩]
noncomputable def l_heldIntS_t : (List (Int) × Int) → T Int := fun (a, k) =>
  (.sub (l_heldIntS_L2 (a, (k, (0 : Int)))) fun z0 =>
  (.test (Sum.isLeft z0)
  (.sub (Sum.getLeft? z0) fun z1 =>
   (.ret z1))
  (.sub (Sum.getRight? z0) fun z2 =>
   (.ret z2))))
noncomputable def l_heldIntS (v : (List (Int) × Int)) : Option Int := (l_heldIntS_t v).run
noncomputable def l_heldIntS_E : TEnv := E0
theorem l_heldIntS_Eok : (l_heldIntS_E).OK := E0ok
noncomputable def l_heldIntS_told : Nat → Option SealT := fun id => if id = 2 then some (LSh.told l_heldIntS_L2_sh 0 (l_heldIntS_L2_step)) else none
theorem l_heldIntS_L2_ok : ToldOK Try.prog 0 (loopAt (bodyOf fn_l_heldIntS) [0]) (LSh.told l_heldIntS_L2_sh 0 (l_heldIntS_L2_step)) :=
  loop_ok (E := l_heldIntS_E) (l_heldIntS_Eok) (told := l_heldIntS_told) (l := l_heldIntS_L2_sh) (step := l_heldIntS_L2_step) (loopsOK_of (ls := []) (by kernel_rfl) trivial) (by kernel_rfl) (fun v => by kernel_rfl)
theorem l_heldIntS_ok : FOK Try.prog n_l_heldIntS l_heldIntS_sh l_heldIntS_fo l_heldIntS :=
  fn_ok (E := l_heldIntS_E) (l_heldIntS_Eok) (told := l_heldIntS_told) (fl := []) (c := bodyOf fn_l_heldIntS) (s := l_heldIntS_sh) (l := l_heldIntS_fo) (tree := l_heldIntS_t) fnat_l_heldIntS (by kernel_rfl) (by kernel_rfl) (by kernel_rfl) (loopsOK_of (ls := [loopAt (bodyOf fn_l_heldIntS) [0]]) (by kernel_rfl) ⟨.inr ⟨_, by kernel_rfl, l_heldIntS_L2_ok⟩, trivial⟩) (fun v => by kernel_rfl)

theorem l_heldIntS_eq (k : Int) (n : Nat) (hk : 0 ≤ k ∧ k < 1000000000000) (hl : n < 1000000000000000) : l_heldIntS (iot k n, k) = some (k + n) := by
  have h := loop_count (step := fun v => (l_heldIntS_L2_step v).run) (n := n) (fun i (_ : Unit) => (iot k n, (k + (i : Int), (i : Int)))) (fun _ _ => Sum.inl ()) (fun _ => Sum.inr (k + (n : Int)))
    (by
      intro i s hi
      simp only [l_heldIntS_L2_step, T.run, iot_len, Int.toNat_natCast, iot_get k hi, Option.bind_some]
      rw [w64_id (z := k + i + 1) (by omega) (by omega), w64_id (z := (i : Int) + 1) (by omega) (by omega)]
      have h1 : (i : Int) < (n : Int) := by omega
      have h2 : (0 : Int) ≤ i ∧ (i : Int) < (n : Int) := by omega
      simp [h1, h2, Int.add_assoc])
    (by intro s; simp [l_heldIntS_L2_step, T.run, iot_len]) 0 () (Nat.zero_le _)
  rw [show ((0 : Nat) : Int) = 0 from rfl, Int.add_zero] at h
  have hf : ∀ l : List Nat, forE (fun (_ : Unit) (_ : Nat) => (Sum.inl () : Unit ⊕ (Int ⊕ Int))) (fun _ => Sum.inr (k + (n : Int))) l () = Sum.inr (k + (n : Int)) := by
    intro l
    induction l with
    | nil => rfl
    | cons x t ih => rw [forE_cons]; exact ih
  rw [hf] at h
  simp only [l_heldIntS, l_heldIntS_t, T.run, l_heldIntS_L2]
  rw [h]
  simp [Sum.isLeft]


def l_FnExactSureNumbers_sh : FSh := ⟨[(.ag [(.sl (.int .i64) false false)])], []⟩

def l_FnExactSureNumbers_fo : List FO := [⟨[(.one .sb)], []⟩]
noncomputable def l_FnExactSureNumbers_t : List (Int) → T Bool := fun aP_0 =>
  (.sub (l_szPuzzle (aP_0, (1048576 : Int))) fun z0 =>
  (.test (decide (z0 < 0))
  (.ret true)
  (.sub (l_toPuzzle aP_0) fun z1 =>
   (.test (decide ((0 + (List.length z1.2)) ≤ (List.length z1.2)))
   (.sub (s_SureNumbers (win z1.2 0 (List.length z1.2))) fun z2 =>
    (.sub (l_toPuzzle aP_0) fun z3 =>
    (.test (decide ((0 + (List.length z3.2)) ≤ (List.length z3.2)))
    (.sub (i_SureNumbers (win z3.2 0 (List.length z3.2))) fun z4 =>
     (.test (decide ((0 + (List.length z4.2)) ≤ (List.length z4.2)))
     (.test (decide ((0 + (List.length z2.2)) ≤ (List.length z2.2)))
      (.sub (l_eqIntS ((win z4.2 0 (List.length z4.2)), (win z2.2 0 (List.length z2.2)))) fun z5 =>
       (.test (! z5)
       (.ret false)
       (.test (! (z4.1.2 == z2.1.2))
        (.ret false)
        (.sub (l_toPuzzle aP_0) fun z6 =>
         (.test (decide ((0 + (List.length z3.2)) ≤ (List.length z3.2)))
         (.test (decide ((0 + (List.length z6.2)) ≤ (List.length z6.2)))
          (.sub (l_eqPuzzle ((win z3.2 0 (List.length z3.2)), (win z6.2 0 (List.length z6.2)))) fun z7 =>
           (.test (! z7)
           (.ret false)
           (.test (decide ((0 = 0) ∧ ((List.length z3.2) = (List.length z3.2))))
            (.sub (l_markPuzzle (((), (1 : Int)), z3.2)) fun z8 =>
             (.test (decide (z8.1 < 0))
             (.ret false)
             (.test (decide ((0 + (List.length z4.2)) ≤ (List.length z4.2)))
              (.test (decide ((0 + (List.length z2.2)) ≤ (List.length z2.2)))
               (.sub (l_eqIntS ((win z4.2 0 (List.length z4.2)), (win z2.2 0 (List.length z2.2)))) fun z9 =>
                (.test (! z9)
                (.ret false)
                (.test (! (z4.1.2 == z2.1.2))
                 (.ret false)
                 (.test (decide ((0 = 0) ∧ ((List.length z4.2) = (List.length z4.2))))
                  (.sub (l_markIntS (((), (1 : Int)), z4.2)) fun z10 =>
                   (.test (decide ((0 + (List.length z4.2)) ≤ (List.length z10.2)))
                   (.sub (l_heldIntS ((win z10.2 0 (List.length z4.2)), (1 : Int))) fun z11 =>
                    (.test (decide (z11 < 0))
                    (.ret false)
                    (.test (z11 != z10.1)
                     (.ret false)
                     (.sub (l_toPuzzle aP_0) fun z12 =>
                      (.test (decide ((0 + (List.length z12.2)) ≤ (List.length z12.2)))
                      (.sub (i_SureNumbers (win z12.2 0 (List.length z12.2))) fun z13 =>
                       (.test (decide ((0 + (List.length z13.2)) ≤ (List.length z13.2)))
                       (.test (decide ((0 + (List.length z2.2)) ≤ (List.length z2.2)))
                        (.sub (l_eqIntS ((win z13.2 0 (List.length z13.2)), (win z2.2 0 (List.length z2.2)))) fun z14 =>
                         (.test (! z14)
                         (.ret false)
                         (.test (! (z13.1.2 == z2.1.2))
                          (.ret false)
                          (.test (decide ((0 + (List.length z4.2)) ≤ (List.length z10.2)))
                           (.sub (l_heldIntS ((win z10.2 0 (List.length z4.2)), (1 : Int))) fun z15 =>
                            (.test (decide (z15 < 0))
                            (.ret false)
                            (.test (z15 != z10.1)
                             (.ret false)
                             (.ret true))))
                           .fail))))
                        .fail)
                       .fail))
                      .fail)))))
                   .fail))
                  .fail))))
               .fail)
              .fail)))
            .fail)))
          .fail)
         .fail)))))
      .fail)
     .fail))
    .fail)))
   .fail))))
noncomputable def l_FnExactSureNumbers (v : List (Int)) : Option Bool := (l_FnExactSureNumbers_t v).run
noncomputable def l_FnExactSureNumbers_E : TEnv := (((((((((E0.add1 n_l_szPuzzle l_szPuzzle_sh l_szPuzzle_fo l_szPuzzle).add1 n_l_toPuzzle l_toPuzzle_sh l_toPuzzle_fo l_toPuzzle).add1 n_s_SureNumbers s_SureNumbers_sh s_SureNumbers_fo s_SureNumbers).add1 n_i_SureNumbers i_SureNumbers_sh i_SureNumbers_fo i_SureNumbers).add1 n_l_eqIntS l_eqIntS_sh l_eqIntS_fo l_eqIntS).add1 n_l_eqPuzzle l_eqPuzzle_sh l_eqPuzzle_fo l_eqPuzzle).add1 n_l_markPuzzle l_markPuzzle_sh l_markPuzzle_fo l_markPuzzle).add1 n_l_markIntS l_markIntS_sh l_markIntS_fo l_markIntS).add1 n_l_heldIntS l_heldIntS_sh l_heldIntS_fo l_heldIntS)
theorem l_FnExactSureNumbers_Eok : (l_FnExactSureNumbers_E).OK := (((((((((E0ok.add1 l_szPuzzle_ok).add1 l_toPuzzle_ok).add1 s_SureNumbers_ok).add1 i_SureNumbers_ok).add1 l_eqIntS_ok).add1 l_eqPuzzle_ok).add1 l_markPuzzle_ok).add1 l_markIntS_ok).add1 l_heldIntS_ok)
noncomputable def l_FnExactSureNumbers_told : Nat → Option SealT := fun id => none
theorem l_FnExactSureNumbers_ok : FOK Try.prog n_l_FnExactSureNumbers l_FnExactSureNumbers_sh l_FnExactSureNumbers_fo l_FnExactSureNumbers :=
  fn_ok (E := l_FnExactSureNumbers_E) (l_FnExactSureNumbers_Eok) (told := l_FnExactSureNumbers_told) (fl := []) (c := bodyOf fn_l_FnExactSureNumbers) (s := l_FnExactSureNumbers_sh) (l := l_FnExactSureNumbers_fo) (tree := l_FnExactSureNumbers_t) fnat_l_FnExactSureNumbers (by kernel_rfl) (by kernel_rfl) (by kernel_rfl) (loopsOK_of (ls := []) (by kernel_rfl) trivial) (fun v => by kernel_rfl)

theorem l_FnExactSureNumbers_true (l : List Int) (hs : smallL ASh.small [.ag [.sl (.int .i64) false false]] l) : l_FnExactSureNumbers l = some true := by
  have hl0 : l.length < 140737488355328 := hs.1
  have hl : l.length < 4611686018427387904 := by omega
  have hl2 := surR_len l
  have hr := i_SureNumbers_eq l hl
  have hsp : s_SureNumbers l = some (((), (surR l).1), (surR l).2) := by
    simp [s_SureNumbers, s_SureNumbers_t, T.run, s_pzSure_eq l hl]
  generalize surR l = r at *
  obtain ⟨ok, r⟩ := r
  simp only at hl2 hr hsp
  rw [l_FnExactSureNumbers, l_FnExactSureNumbers_t, T.run_sub, l_szPuzzle_eq l _ (by decide) hl, Option.bind_some, T.run_test]
  split
  · rfl
  · rename_i hsz
    have hlen : l.length < 10000000000000 := by omega
    have hl1 : r.length < 4611686018427387904 := by omega
    have hm := l_markIntS_eq 1 r (by omega) (by omega)
    have hml := l_markPuzzle_eq 1 l (by omega) (by omega)
    have hh := l_heldIntS_eq 1 r.length (by omega) (by omega)
    have hw : win (iot 1 r.length) 0 r.length = iot 1 r.length := by have := win_all (iot 1 r.length); rwa [iot_len] at this
    have hx : ¬ ((1 : Int) + r.length < 0) := by omega
    have hx2 : ¬ ((1 : Int) + l.length < 0) := by omega
    simp (config := { maxSteps := 10000000 }) [T.run, hsz, l_toPuzzle_eq l hlen, win_all, hr, hsp, l_eqIntS_eq r r hl1, l_eqPuzzle_eq l l hl, hm, hml, iot_len, hw, hh, hx, hx2]


end Go.Proofs.W
