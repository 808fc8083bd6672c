/- Functions of the program, walked, and what they compute. -/
import Derived.Test.YtcpjedchcfpbdaaTcWk2
set_option linter.unusedVariables false
set_option linter.unusedSimpArgs false
set_option maxRecDepth 100000
set_option maxHeartbeats 4000000
namespace Go.Proofs.W
open Go Go.Gm Go.Proofs
open Go.RowKit Go.Shelf

theorem frac_loop (l : List Int) (s : Int) (hs : s = 1 ∨ s = -1) (h30 : ∀ x ∈ l, -30 ≤ x ∧ x ≤ 30) (h10 : l.length ≤ 10) : ∀ (n : Nat), n ≤ l.length → (∀ i, 1 ≤ i → i ≤ n → kr s (l.drop i) ≠ 0) →
    i_fraction_L3 (l, (s, (kr s (l.drop n), (kt s (l.drop n), (n : Int) - 1)))) = some (.inr (kr s l, kt s l)) := by
  intro n
  induction n with
  | zero =>
    intro _ _
    rw [List.drop_zero]
    simp only [i_fraction_L3]
    exact loopO_done (by simp [i_fraction_L3_step, T.run])
  | succ n ih =>
    intro hn hz
    have hlt : n < l.length := by omega
    have hx := h30 l[n] (List.getElem_mem hlt)
    have ih := ih (by omega) fun i h1 h2 => hz i h1 (by omega)
    have hd : l.drop n = l[n] :: l.drop (n + 1) := List.drop_eq_getElem_cons hlt
    obtain ⟨⟨b1, b2⟩, b3, b4⟩ := kr_B hs (l.drop (n + 1)) fun x hx => h30 x (List.mem_of_mem_drop hx)
    have hp := pw_le (k := (l.drop (n + 1)).length) (by rw [List.length_drop]; omega)
    have hm := mul_le hx.1 hx.2 b1 b2
    have hne := hz (n + 1) (by omega) (Nat.le_refl _)
    rw [hd, kr_cons, kt_cons] at ih
    have w1 : w64 (l[n] * kr s (l.drop (n + 1))) = l[n] * kr s (l.drop (n + 1)) := w64_id (by omega) (by omega)
    have w2 : w64 (s * kt s (l.drop (n + 1))) = s * kt s (l.drop (n + 1)) := by rcases hs with rfl | rfl <;> exact w64_id (by omega) (by omega)
    have w3 : w64 (l[n] * kr s (l.drop (n + 1)) + s * kt s (l.drop (n + 1))) = l[n] * kr s (l.drop (n + 1)) + s * kt s (l.drop (n + 1)) := by rcases hs with rfl | rfl <;> exact w64_id (by omega) (by omega)
    have w4 : w64 ((n : Int) - 1) = (n : Int) - 1 := w64_id (by omega) (by omega)
    have e0 : ((n + 1 : Nat) : Int) - 1 = (n : Int) := by omega
    have c1 : (n : Int) ≥ 0 := by omega
    have c2 : (0 : Int) ≤ n ∧ (n : Int) < (l.length : Int) := by omega
    have c3 : (kr s (l.drop (n + 1)) == 0) = false := by rw [beq_eq_false_iff_ne]; exact hne
    rw [e0]
    simp only [i_fraction_L3] at ih ⊢
    rw [← ih]
    refine loopO_next ?_
    simp only [i_fraction_L3_step, T.run, Int.toNat_natCast, List.getElem?_eq_getElem hlt, Option.bind_some, w1, w2, w3, w4, c1, c2, c3, decide_true, if_true, Bool.false_eq_true, if_false, and_self]
theorem frac_val (l : List Int) (s : Int) (hs : s = 1 ∨ s = -1) (ht : isTerms l = true) (hne : l ≠ []) (hz : ∀ i, 1 ≤ i → i < l.length → kr s (l.drop i) ≠ 0) (hk : 0 ≤ kt s l) : i_fraction (l, s) = some (kr s l, (kt s l, true)) := by
  rw [isTerms_iff] at ht
  have hpos : 0 < l.length := List.length_pos_iff.2 hne
  have hlt : l.length - 1 < l.length := by omega
  have h := frac_loop l s hs ht.2 ht.1 (l.length - 1) (by omega) fun i h1 h2 => hz i h1 (by omega)
  have hd : l.drop (l.length - 1) = [l[l.length - 1]] := by
    rw [List.drop_eq_getElem_cons hlt, List.drop_of_length_le (by omega)]
  rw [hd] at h
  rw [show kr s [l[l.length - 1]] = l[l.length - 1] from rfl, show kt s [l[l.length - 1]] = 1 from rfl] at h
  have e2 : ((l.length - 1 : Nat) : Int) - 1 = (l.length : Int) - 2 := by omega
  rw [e2] at h
  have w1 : w64 ((l.length : Int) - 1) = (l.length : Int) - 1 := w64_id (by omega) (by omega)
  have w2 : w64 ((l.length : Int) - 2) = (l.length : Int) - 2 := w64_id (by omega) (by omega)
  have e1 : ((l.length : Int) - 1).toNat = l.length - 1 := by omega
  have c1 : (0 : Int) ≤ (l.length : Int) - 1 ∧ (l.length : Int) - 1 < (l.length : Int) := by omega
  have c2 : ¬ (kt s l < 0) := by omega
  simp only [i_fraction, i_fraction_t, T.run, w1, w2, e1, List.getElem?_eq_getElem hlt, Option.bind_some, c1, and_self, decide_true, if_true, h, Sum.isLeft, Bool.false_eq_true, if_false, Sum.getRight?, c2, decide_false]
theorem areFrom_low (l : List Int) (hl : l.length < 4611686018427387904) : i_areFrom (l, -30) = some (isTerms l && decide (l ≠ [])) := by
  simp only [i_areFrom, i_areFrom_t, T.run, i_IsTermList_eq l hl, Option.bind_some]
  have : decide ((l.length : Int) > 0) = decide (l ≠ []) := by cases l <;> simp
  rw [this]
  cases ht : isTerms l with
  | false => simp
  | true =>
    by_cases h : l = []
    · simp [h]
    · obtain ⟨m, e, hm⟩ := slices_Min_int_eq l h hl
      have : decide (m ≥ -30) = true := by
        rw [decide_eq_true_eq, ge_iff_le, hm]
        rw [isTerms_iff] at ht
        exact fun x hx => (ht.2 x hx).1
      simp [h, e, this]
theorem minus_F : ∀ (n : Nat) (num den : Int) (out : List Int), out.length + n = 11 → 1 ≤ num → num ≤ 1000000000000000 → 1 ≤ den → den ≤ 1000000000000000 → cop num den →
    ∃ ext : List Int, i_minusTerms_L2 ((num, (den, ())), out) = some ((), out ++ ext) ∧ (isTerms (out ++ ext) = true → MinusOf num den ext) := by
  intro n
  induction n with
  | zero =>
    intro num den out hn h1 h2 h3 h4 hc
    refine ⟨[], ?_, ?_⟩
    · simp only [i_minusTerms_L2]
      have : ¬ ((out.length : Int) ≤ 10) := by omega
      exact loopO_done (by simp [i_minusTerms_L2_step, T.run, this])
    · intro h
      rw [List.append_nil, isTerms_iff] at h
      omega
  | succ n ih =>
    intro num den out hn h1 h2 h3 h4 hc
    obtain ⟨q1, q2, q3, q4⟩ := upQ_B h1 h3
    have hd0 : den ≠ 0 := by omega
    have w1 : w64 (num + den) = num + den := w64_id (by omega) (by omega)
    have w2 : w64 (num + den - 1) = num + den - 1 := w64_id (by omega) (by omega)
    have w3 : Int.tdiv (num + den - 1) den = upQ num den := Int.tdiv_eq_ediv_of_nonneg (by omega)
    have w4 : w64 (upQ num den) = upQ num den := w64_id (by omega) (by omega)
    have w5 : w64 (upQ num den * den) = upQ num den * den := w64_id (by omega) (by omega)
    have w6 : w64 (upQ num den * den - num) = upQ num den * den - num := w64_id (by omega) (by omega)
    have hlen : 2 * ((out.length + 1) * 9) ≤ 140737488355328 := by omega
    have hle : (out.length : Int) ≤ 10 := by omega
    by_cases hz : upQ num den * den = num
    · refine ⟨[upQ num den], ?_, fun _ => MinusOf.last h1 h3 hc hz⟩
      simp only [i_minusTerms_L2]
      have w7 : w64 num = num := w64_id (by omega) (by omega)
      exact loopO_done (by simp [i_minusTerms_L2_step, T.run, w1, w2, w3, w4, w5, w6, w7, win_all, win_one, win_sing, hlen, hle, hd0, hz])
    · obtain ⟨ext, e2, e3⟩ := ih den (upQ num den * den - num) (out ++ [upQ num den]) (by simp; omega) h3 h4 (by omega) (by omega) (cop_step hc)
      have es : out ++ [upQ num den] ++ ext = out ++ (upQ num den :: ext) := by simp
      rw [es] at e2 e3
      refine ⟨upQ num den :: ext, ?_, fun h => MinusOf.cons h1 h3 (by omega) (e3 h)⟩
      simp only [i_minusTerms_L2] at e2 ⊢
      rw [← e2]
      exact loopO_next (by simp [i_minusTerms_L2_step, T.run, w1, w2, w3, w4, w5, w6, win_all, win_one, win_sing, hlen, hle, hd0, hz])
theorem minus_val (num den : Int) (h1 : 1 ≤ num) (h2 : num ≤ 1000000000000000) (h3 : 1 ≤ den) (h4 : den ≤ 1000000000000000) (hc : cop num den) : ∃ ext : List Int,
    i_minusTerms (num, den) = some (((), isTerms ext), ext) ∧ (isTerms ext = true → MinusOf num den ext) := by
  obtain ⟨ext, e2, e3⟩ := minus_F 11 num den [] rfl h1 h2 h3 h4 hc
  obtain ⟨ext', e1, e4, _⟩ := minus_both num den h1 h2 h3 h4
  rw [List.nil_append] at e2 e3
  have hi : i_minusTerms (num, den) = some (((), isTerms ext), ext) := by
    have hx : ext.length ≤ 11 := by
      simp only [i_minusTerms, i_minusTerms_t, T.run, List.replicate_zero, e2, win_all, Option.bind_some] at e4
      cases hq : i_IsTermList ext with
      | none => rw [hq] at e4; simp at e4
      | some b => rw [hq] at e4; simp at e4; rw [e4.2]; exact e1
    simp [i_minusTerms, i_minusTerms_t, T.run, e2, win_all, i_IsTermList_eq ext (by omega)]
  exact ⟨ext, hi, e3⟩
theorem MinusTerms_val (num den : Int) (r : Bool × List Int) (h : i_MinusTerms (num, den) = some (((), r.1), r.2)) (hr : r.1 = true) : lowP num den = true ∧ isTerms r.2 = true ∧ MinusOf num den r.2 := by
  simp only [i_MinusTerms, i_MinusTerms_t, T.run, i_isLowest_eq, Option.bind_some] at h
  cases hl : lowP num den with
  | false =>
    rw [hl] at h
    simp at h
    rw [h.1] at hr
    cases hr
  | true =>
    have hl' := hl
    simp only [lowP, Bool.and_eq_true, inB_iff, decide_eq_true_eq] at hl'
    obtain ⟨ext, e2, e3⟩ := minus_val num den (by omega) (by omega) (by omega) (by omega) (cop_of_gcd (by omega) (by omega) hl'.2.2)
    simp only [hl, e2, i_listed_eq, Option.bind_some] at h
    cases ht : isTerms ext with
    | false => rw [ht] at h; simp [Sum.isLeft] at h; rw [h.1] at hr; cases hr
    | true =>
      rw [ht] at h
      simp [Sum.isLeft] at h
      rw [← h.2]
      exact ⟨rfl, ht, e3 ht⟩
theorem plus_F : ∀ (n : Nat) (num den : Int) (out : List Int), den.toNat ≤ n → 1 ≤ num → num ≤ 1000000 → 0 ≤ den → den ≤ 1000000 → out.length + den.toNat ≤ 2000000 → cop num den →
    ∃ ext : List Int, i_PlusTerms_L4 ((num, (den, ())), out) = some ((), out ++ ext) ∧ (den = 0 → ext = []) ∧ (0 < den → PlusOf num den ext) := by
  intro n
  induction n with
  | zero =>
    intro num den out hn h1 h2 h3 h4 h5 hc
    obtain rfl : den = 0 := by omega
    refine ⟨[], ?_, fun _ => rfl, fun h => by omega⟩
    simp only [i_PlusTerms_L4]; exact loopO_done (by simp [i_PlusTerms_L4_step, T.run])
  | succ n ih =>
    intro num den out hn h1 h2 h3 h4 h5 hc
    by_cases h0 : den = 0
    · subst h0
      refine ⟨[], ?_, fun _ => rfl, fun h => by omega⟩
      simp only [i_PlusTerms_L4]; exact loopO_done (by simp [i_PlusTerms_L4_step, T.run])
    · have hp : den > 0 := by omega
      obtain ⟨_, g2, g3⟩ := gcd_toNat_step (a := num) (by omega) (show 0 < den by omega)
      have eq : Int.tdiv num den = num / den := Int.tdiv_eq_ediv_of_nonneg (by omega)
      have er : Int.tmod num den = num % den := Int.tmod_eq_emod_of_nonneg (by omega)
      have hq : w64 (Int.tdiv num den) = Int.tdiv num den := by
        have := Int.ediv_le_self den (show 0 ≤ num by omega)
        have := Int.ediv_nonneg (show 0 ≤ num by omega) h3
        rw [w64_id (by omega) (by omega)]
      have hdm := Int.ediv_mul_add_emod num den
      have hlen : 2 * ((out.length + 1) * 9) ≤ 140737488355328 := by omega
      have hcm : cop den (Int.tmod num den) := by
        rw [er]
        have := cop_mod (q := num / den) hc
        rwa [show num - num / den * den = num % den by omega] at this
      obtain ⟨ext, e2, e3, e4⟩ := ih den (Int.tmod num den) (out ++ [Int.tdiv num den]) (by omega) (by omega) h4 g2 (by omega) (by simp; omega) hcm
      have es : out ++ [Int.tdiv num den] ++ ext = out ++ (Int.tdiv num den :: ext) := by simp
      rw [es] at e2
      refine ⟨Int.tdiv num den :: ext, ?_, fun h => absurd h h0, fun _ => ?_⟩
      · simp only [i_PlusTerms_L4] at e2 ⊢
        rw [← e2]
        exact loopO_next (by simp [i_PlusTerms_L4_step, T.run, h0, hp, hq, win_all, win_one, win_sing, hlen])
      · by_cases hr : Int.tmod num den = 0
        · rw [e3 hr]
          exact PlusOf.last (by omega) hc (by rw [eq]; omega)
        · exact PlusOf.cons (by omega) (by omega) (by rw [er]; exact Int.emod_lt_of_pos _ hp) (by rw [eq, er]; omega) (e4 (by omega))
theorem PlusTerms_val (num den : Int) (r : Bool × List Int) (h : i_PlusTerms (num, den) = some (((), r.1), r.2)) (hr : r.1 = true) : lowP num den = true ∧ den ≤ num ∧ isTerms r.2 = true ∧ PlusOf num den r.2 := by
  simp only [i_PlusTerms, i_PlusTerms_t, T.run, i_isLowest_eq, Option.bind_some] at h
  cases hl : lowP num den with
  | false =>
    rw [hl] at h
    simp at h
    rw [h.1] at hr
    cases hr
  | true =>
    have hl' := hl
    simp only [lowP, Bool.and_eq_true, inB_iff, decide_eq_true_eq] at hl'
    by_cases hlt : num < den
    · simp [hl, hlt] at h
      rw [h.1] at hr
      cases hr
    · obtain ⟨ext, e2, _, e3⟩ := plus_F den.toNat num den [] (Nat.le_refl _) (by omega) (by omega) (by omega) (by omega) (by simp; omega) (cop_of_gcd (by omega) (by omega) hl'.2.2)
      obtain ⟨ext', e1, e2', _⟩ := plus_loops den.toNat num den [] (Nat.le_refl _) (by omega) (by omega) (by omega) (by omega) (by simp; omega)
      rw [List.nil_append] at e2 e2' e1
      rw [e2] at e2'
      simp only [Option.some.injEq, Prod.mk.injEq, true_and] at e2'
      subst e2'
      have hll : ext.length < 4611686018427387904 := by omega
      simp only [hl, hlt, decide_false, Bool.false_eq_true, if_false, Bool.not_true, if_true, List.replicate_zero, e2, Option.bind_some, win_all, i_IsTermList_eq _ hll, i_listed_eq] at h
      cases ht : isTerms ext with
      | false => rw [ht] at h; simp [Sum.isLeft] at h; rw [h.1] at hr; cases hr
      | true =>
        rw [ht] at h
        simp [Sum.isLeft] at h
        rw [← h.2]
        exact ⟨rfl, by omega, ht, e3 (by omega)⟩
theorem FractionOfPlus_val (l : List Int) (hl : l.length < 4611686018427387904) : i_FractionOfPlus l = some (if posT l then (kr 1 l, (kt 1 l, true)) else (0, (0, false))) := by
  rw [i_FractionOfPlus, i_FractionOfPlus_t, T.run_sub, i_areFrom_eq l hl, Option.bind_some, T.run_test]
  cases hp : posT l with
  | false => simp [T.run]
  | true =>
    have hp' := hp
    simp only [posT, Bool.and_eq_true, decide_eq_true_eq, List.all_eq_true, inB_iff] at hp'
    have hf := frac_val l 1 (.inl rfl) hp'.1 hp'.2.1 (fun i _ _ => by
      have := (kr_one (l.drop i) fun x hx => (hp'.2.2 x (List.mem_of_mem_drop hx)).1).1
      omega) (kr_one l fun x hx => (hp'.2.2 x hx).1).2
    simp [T.run, hf]
theorem FractionOfMinus_val {l : List Int} {num den : Int} (hd : 0 ≤ den) (ht : isTerms l = true) (h : MinusOf num den l) : i_FractionOfMinus l = some (num, (den, true)) := by
  have hl := (isTerms_iff.1 ht).1
  have hf := frac_val l (-1) (.inr rfl) ht h.ne (fun i h1 h2 => by
    have h3 := (kr_two (l.drop i) fun x hx => by
      refine h.two x ?_
      rw [← List.drop_one]
      rw [show i = 1 + (i - 1) by omega, ← List.drop_drop] at hx
      exact List.mem_of_mem_drop hx)
    omega) (by rw [h.t]; exact hd)
  rw [h.k, h.t] at hf
  have ha := areFrom_low l (by omega)
  have hne := h.ne
  simp [i_FractionOfMinus, i_FractionOfMinus_t, T.run, ha, ht, hne, hf]
theorem PutOne_val (l : List Int) (at' : Int) (hl : l.length < 4611686018427387904) (r : Bool × List Int) (h : i_PutOne (l, at') = some (((), r.1), r.2)) (hr : r.1 = true) :
    ∃ L x y R, l = L ++ x :: y :: R ∧ at' = (L.length : Int) + 1 ∧ isTerms l = true ∧ isTerms r.2 = true ∧ r.2 = L ++ (x + 1) :: 1 :: (y + 1) :: R := by
  have no : i_PutOne (l, at') = some (((), false), []) → False := fun h2 => by
    rw [h] at h2
    simp at h2
    rw [h2.1] at hr
    cases hr
  cases ht : isTerms l with
  | false => exact (no (by simp only [i_PutOne, i_PutOne_t, T.run, i_IsTermList_eq l hl, ht, Option.bind_some]; simp)).elim
  | true =>
    have ht' := isTerms_iff.1 ht
    have w1 : w64 ((l.length : Int) - 1) = (l.length : Int) - 1 := w64_id (by omega) (by omega)
    cases ha : inB 1 ((l.length : Int) - 1) at' with
    | false => exact (no (by simp only [i_PutOne, i_PutOne_t, T.run, i_IsTermList_eq l hl, i_within_eq, w1, ht, ha, Option.bind_some]; simp)).elim
    | true =>
      rw [inB_iff] at ha
      obtain ⟨k, rfl⟩ : ∃ k : Nat, at' = (k : Int) + 1 := ⟨(at' - 1).toNat, by omega⟩
      obtain ⟨L, x, y, R, rfl, hk⟩ := at_split1 l k (by omega)
      subst hk
      have hx := ht'.2 x (by simp)
      have hy := ht'.2 y (by simp)
      have hlen : (L ++ x :: y :: R).length = L.length + R.length + 2 := by simp; omega
      have hp := put_i L R x y (by omega) (by omega) (by omega) ht
      cases hr2 : isTerms (L ++ (x + 1) :: 1 :: (y + 1) :: R) with
      | false => rw [hr2, if_neg (by simp)] at hp; exact (no hp).elim
      | true =>
        rw [hr2, if_pos rfl, h] at hp
        simp only [Option.some.injEq, Prod.mk.injEq] at hp
        refine ⟨L, x, y, R, rfl, rfl, rfl, ?_, hp.2⟩
        rw [hp.2]; exact hr2
theorem TakeOne_put (L R : List Int) (x y : Int) (ht : isTerms (L ++ x :: y :: R) = true) (ht2 : isTerms (L ++ (x + 1) :: 1 :: (y + 1) :: R) = true) :
    i_TakeOne (L ++ (x + 1) :: 1 :: (y + 1) :: R, (L.length : Int) + 1) = some (((), true), L ++ x :: y :: R) := by
  have h2 := isTerms_iff.1 ht2
  have hx := h2.2 (x + 1) (by simp)
  have hy := h2.2 (y + 1) (by simp)
  have hlen : (L ++ (x + 1) :: 1 :: (y + 1) :: R).length = L.length + R.length + 3 := by simp; omega
  have hi := i_takeOne_eq L (x + 1) 1 (y + 1) R ((L.length : Int) + 1) rfl (by omega) (by omega) (by omega)
  rw [Int.add_sub_cancel, Int.add_sub_cancel, ht, if_pos rfl] at hi
  have t1 : ((L.length : Int) + 1).toNat = L.length + 1 := by omega
  have c0 : (0 : Int) ≤ (L.length : Int) + 1 ∧ (L.length : Int) + 1 < ((L ++ (x + 1) :: 1 :: (y + 1) :: R).length : Int) := by omega
  have ha : inB 1 (((L ++ (x + 1) :: 1 :: (y + 1) :: R).length : Int) - 2) ((L.length : Int) + 1) = true := by rw [inB_iff]; omega
  have w : w64 (((L ++ (x + 1) :: 1 :: (y + 1) :: R).length : Int) - 2) = ((L ++ (x + 1) :: 1 :: (y + 1) :: R).length : Int) - 2 := w64_id (by omega) (by omega)
  rw [i_TakeOne, i_TakeOne_t, T.run_sub, i_IsTermList_eq _ (by omega), ht2, Option.bind_some, T.run_test, if_neg (by simp), T.run_sub, w, i_within_eq, ha, Option.bind_some, T.run_test, if_neg (by simp), T.run_test, if_pos (decide_eq_true c0), T.run_sub, t1, at_get1, Option.bind_some, T.run_test, if_neg (by decide), T.run_sub, hi, Option.bind_some, T.run_test, if_pos (by simp), T.run_ret]
theorem reduce_F : ∀ (n : Nat) (out : List Int), out.length = n → isTerms out = true →
    ∃ r : Bool × List Int, i_ReduceOnes_L4 ((), out) = some (if r.1 then .inl ((), r.2) else .inr (((), false), [])) ∧ (r.1 = false → r.2 = []) ∧
      (r.1 = true → isTerms r.2 = true ∧ cont (-1) r.2 = cont (-1) out ∧ r.2.length ≤ out.length ∧ ∀ t, 1 ≤ t → t + 1 < r.2.length → r.2[t]? ≠ some 1) := by
  intro n
  induction n using Nat.strongRecOn with
  | ind n ih =>
    intro out hn ht
    have ht' := isTerms_iff.1 ht
    by_cases h2 : out.length ≤ 2
    · refine ⟨(true, out), ?_, by simp, fun _ => ⟨ht, rfl, Nat.le_refl _, fun t h1 h3 => by simp only at h3; omega⟩⟩
      simp only [i_ReduceOnes_L4]
      have : ¬ ((out.length : Int) > 2) := by omega
      exact loopO_done (by simp only [i_ReduceOnes_L4_step, T.run, this]; simp)
    · have g2 : (out.length : Int) > 2 := by omega
      have w1 : w64 ((out.length : Int) - 1) = ((out.length - 1 : Nat) : Int) := by rw [w64_id (by omega) (by omega)]; omega
      have c1 : (0 : Int) ≤ ((out.length - 1 : Nat) : Int) := by omega
      have c2 : 1 ≤ out.length - 1 ∧ out.length - 1 ≤ out.length := by omega
      have c3 : 1 + (out.length - 1 - 1) ≤ out.length := by omega
      have hml : (win out 1 (out.length - 1 - 1)).length = out.length - 2 := by unfold win; simp; omega
      have hidx := slices_Index_int_eq (win out 1 (out.length - 1 - 1)) 1 (by omega)
      have hget : ∀ t, t < out.length - 2 → (win out 1 (out.length - 1 - 1))[t]? = out[t + 1]? := by
        intro t h
        unfold win
        rw [List.getElem?_take, if_pos (by omega), List.getElem?_drop, Nat.add_comm]
      cases hf : (win out 1 (out.length - 1 - 1)).findIdx? (fun x => (1 : Int) == x) with
      | none =>
        have hi : idxI (fun x => (1 : Int) == x) (win out 1 (out.length - 1 - 1)) = -1 := by unfold idxI; rw [hf]
        refine ⟨(true, out), ?_, by simp, fun _ => ⟨ht, rfl, Nat.le_refl _, fun t h1 h3 h4 => ?_⟩⟩
        · simp only [i_ReduceOnes_L4]
          exact loopO_done (by simp only [i_ReduceOnes_L4_step, T.run, g2, w1, c1, c2, c3, Int.toNat_natCast, hidx, hi, decide_true, if_true, Option.bind_some, and_self]; simp)
        · simp only at h3 h4
          rw [List.findIdx?_eq_none_iff] at hf
          have hm := hget (t - 1) (by omega)
          rw [show t - 1 + 1 = t by omega, h4] at hm
          have := hf _ (List.mem_of_getElem? hm)
          simp at this
      | some p =>
        obtain ⟨hp, hp1, hp2⟩ := List.findIdx?_eq_some_iff_getElem.1 hf
        have hi : idxI (fun x => (1 : Int) == x) (win out 1 (out.length - 1 - 1)) = (p : Int) := by unfold idxI; rw [hf]
        have hpl : p < out.length - 2 := by omega
        have hmid : out[p + 1]? = some 1 := by
          have hm := hget p hpl
          rw [List.getElem?_eq_getElem hp] at hm
          have := (beq_iff_eq).1 hp1
          rw [← this] at hm
          exact hm.symm
        obtain ⟨L, x, m, y, R, e, hL⟩ := at_split out p (by omega)
        subst hL
        have hm1 : m = 1 := by
          rw [e, at_get1] at hmid
          exact Option.some.inj hmid
        subst hm1
        have hx := ht'.2 x (by rw [e]; simp)
        have hy := ht'.2 y (by rw [e]; simp)
        have hlen : out.length = L.length + R.length + 3 := by rw [e]; simp; omega
        have it := i_takeOne_eq L x 1 y R ((L.length : Int) + 1) rfl (by rw [← e]; omega) (by omega) (by omega)
        rw [← e] at it
        have hct := cont_take L R x y
        rw [← e] at hct
        have wi : w64 ((L.length : Int) + 1) = (L.length : Int) + 1 := w64_id (by omega) (by omega)
        have ci : ¬ ((L.length : Int) < 0) := by omega
        have stI : (i_ReduceOnes_L4_step ((), out)).run = some (if isTerms (L ++ (x - 1) :: (y - 1) :: R) then .inl ((), L ++ (x - 1) :: (y - 1) :: R) else .inr (.inr (((), false), []))) := by
          simp only [i_ReduceOnes_L4_step, T.run, g2, w1, c1, c2, c3, Int.toNat_natCast, hidx, hi, decide_true, if_true, Option.bind_some, and_self, ci, decide_false, Bool.false_eq_true, if_false, wi, win_all, it, Nat.zero_add, Nat.le_refl]
          cases isTerms (L ++ (x - 1) :: (y - 1) :: R) <;> simp
        simp only [i_ReduceOnes_L4] at ih ⊢
        have hnl : (L ++ (x - 1) :: (y - 1) :: R).length = L.length + R.length + 2 := by simp; omega
        cases hr : isTerms (L ++ (x - 1) :: (y - 1) :: R) with
        | true =>
          rw [hr] at stI
          obtain ⟨r, r1, r2, r3⟩ := ih (L ++ (x - 1) :: (y - 1) :: R).length (by omega) _ rfl hr
          refine ⟨r, by rw [loopO_next stI]; exact r1, r2, fun h => ?_⟩
          obtain ⟨a, b, c, d⟩ := r3 h
          exact ⟨a, b.trans hct.symm, by omega, d⟩
        | false =>
          rw [hr] at stI
          exact ⟨(false, []), loopO_done stI, fun _ => rfl, fun h => by cases h⟩
theorem ReduceOnes_val (l : List Int) (hl : l.length < 4611686018427387904) (r : Bool × List Int) (h : i_ReduceOnes l = some (((), r.1), r.2)) (hr : r.1 = true) :
    isTerms l = true ∧ isTerms r.2 = true ∧ cont (-1) r.2 = cont (-1) l ∧ r.2.length ≤ l.length ∧ ∀ t, 1 ≤ t → t + 1 < r.2.length → r.2[t]? ≠ some 1 := by
  simp only [i_ReduceOnes, i_ReduceOnes_t, T.run, i_IsTermList_eq l hl, Option.bind_some] at h
  cases ht : isTerms l with
  | false => rw [ht] at h; simp at h; rw [h.1] at hr; cases hr
  | true =>
    have ht' := isTerms_iff.1 ht
    have hc : slices_Clone_int l = some ((), l) := by
      unfold slices_Clone_int
      rw [if_pos]
      exact ⟨by unfold maxLen; omega, by omega⟩
    obtain ⟨⟨ok, q⟩, r1, r2, r3⟩ := reduce_F l.length l rfl ht
    simp only [ht, Bool.not_true, Bool.false_eq_true, if_false, hc, Option.bind_some, r1] at h
    cases ok with
    | true =>
      simp [Sum.isLeft] at h
      rw [← h.2]
      exact ⟨rfl, r3 rfl⟩
    | false => simp [Sum.isLeft] at h; rw [h.1] at hr; cases hr
theorem continuant_val (l : List Int) (sign : Int) (hs : sign = 1 ∨ sign = -1) (h : isTerms l = true) : i_continuant (l, sign) = some (cont sign l) := by
  rw [isTerms_iff] at h
  obtain ⟨hl, ht⟩ := h
  have h := loop_fold (step := fun v => (i_continuant_L3_step v).run) (xs := l) (fun k p => cfB k p) (fun k p => (sign, p.1, p.2, l, (l.length : Int), (k : Int))) (cf sign) (fun p => p.2)
    (fun k p x hP hx => by
      have hk := getElem?_lt hx
      have hb := cfB_step hs hP (ht x (List.mem_of_getElem? hx))
      have hp := pw_le (k := k + 1) (by omega)
      have hp2 := pw_succ k
      obtain ⟨h1, h2, h3, h4⟩ := hP
      obtain ⟨⟨g1, g2, g3, g4⟩, g5, g6⟩ := hb
      simp only [i_continuant_L3_step, T.run, Option.bind_some, Int.toNat_natCast, hx]
      simp only [cf] at g3 g4
      have e1 : w64 (x * p.2) = x * p.2 := w64_id (by omega) (by omega)
      have e2 : w64 (sign * p.1) = sign * p.1 := by rcases hs with rfl | rfl <;> exact w64_id (by omega) (by omega)
      rw [e1, e2, w64_id (by omega) (by omega), w64_id (by omega) (by omega)]
      exact ⟨by simp [hk, cf], ⟨g1, g2, g3, g4⟩⟩)
    (fun s hP => by simp [i_continuant_L3_step, T.run]) (0, 1) (by simp [cfB, pw])
  simp only [i_continuant, i_continuant_t, T.run, i_continuant_L3]
  simp only [Int.natCast_zero] at h
  rw [h.1]
  rfl
theorem ContinuantOf_val (l : List Int) (hl : l.length < 4611686018427387904) : i_ContinuantOf l = some (if isTerms l then (kr (-1) l, true) else (0, false)) := by
  rw [i_ContinuantOf, i_ContinuantOf_t, T.run_sub, i_IsTermList_eq l hl, Option.bind_some, T.run_test]
  cases h : isTerms l with
  | false => simp [T.run]
  | true => simp [T.run, continuant_val l (-1) (.inr rfl) h, cont_kr]
theorem PlusContinuantOf_val (l : List Int) (hl : l.length < 4611686018427387904) : i_PlusContinuantOf l = some (if isTerms l then (kr 1 l, true) else (0, false)) := by
  rw [i_PlusContinuantOf, i_PlusContinuantOf_t, T.run_sub, i_IsTermList_eq l hl, Option.bind_some, T.run_test]
  cases h : isTerms l with
  | false => simp [T.run]
  | true => simp [T.run, continuant_val l 1 (.inl rfl) h, cont_kr]
theorem dSame_val (a b : List Int) (hl : a.length < 4611686018427387904) : l_dSame (a, b) = some (decide (a = b)) := by
  by_cases hab : a.length = b.length
  · have h := loop_any (step := fun v => (l_dSame_L4_step v).run) (xs := a.zip b) (fun p => p.1 != p.2) (fun k => (a, b, (a.length : Int), (k : Int))) (.inl false) (.inr ())
      (fun k x hx => by
        have hk := getElem?_lt hx
        rw [List.length_zip, hab, Nat.min_self] at hk
        rw [List.getElem?_zip_eq_some] at hx
        simp only [l_dSame_L4_step, T.run, Option.bind_some, Int.toNat_natCast, hx.1, hx.2]
        rw [w64_id (by omega) (by omega)]
        have hka : k < a.length := by omega
        cases x.1 != x.2 <;> simp [hk, hka])
      (by simp [l_dSame_L4_step, T.run, hab])
    simp only [l_dSame, l_dSame_t, T.run, l_dSame_L4]
    simp only [Int.natCast_zero] at h
    rw [h, hab]
    have e : (a.zip b).any (fun p => p.1 != p.2) = !decide (a = b) := zip_any_ne a b hab
    rw [e]
    cases decide (a = b) <;> simp
  · simp only [l_dSame, l_dSame_t, T.run]
    have : a ≠ b := fun e => hab (by rw [e])
    simp [this]
    omega
/-- The plus continuants of a fraction. -/
theorem frac_plus (l : List Int) (h : posT l = true) : isTerms l = true ∧ l ≠ [] ∧ 1 ≤ kr 1 l ∧ kr 1 l ≤ 1000000000000000 ∧ 1 ≤ kt 1 l ∧ kt 1 l ≤ 1000000000000000 ∧ cop (kr 1 l) (kt 1 l) := by
  simp only [posT, Bool.and_eq_true, decide_eq_true_eq, List.all_eq_true, inB_iff] at h
  obtain ⟨ht, hne, h1⟩ := h
  have ht' := isTerms_iff.1 ht
  obtain ⟨b1, b2⟩ := kr_B (s := 1) (.inl rfl) l ht'.2
  have hp := pw_le (k := l.length) ht'.1
  obtain ⟨a1, a2⟩ := kr_one l fun x hx => (h1 x hx).1
  refine ⟨ht, hne, a1, by omega, ?_, by omega, kr_cop 1 (.inl rfl) l hne⟩
  cases l with
  | nil => exact absurd rfl hne
  | cons a l => exact (kr_one l fun x hx => (h1 x (List.mem_cons_of_mem _ hx)).1).1
theorem MinusOfPlus_val (l : List Int) (hl : l.length < 4611686018427387904) (r : Bool × List Int) (h : i_MinusOfPlus l = some (((), r.1), r.2)) (hr : r.1 = true) : posT l = true ∧ isTerms r.2 = true ∧ MinusOf (kr 1 l) (kt 1 l) r.2 := by
  rw [i_MinusOfPlus, i_MinusOfPlus_t, T.run_sub, FractionOfPlus_val l hl, Option.bind_some, T.run_test] at h
  cases hp : posT l with
  | false => rw [hp] at h; simp [T.run] at h; rw [h.1] at hr; cases hr
  | true =>
    obtain ⟨_, _, b1, b2, b3, b4, hc⟩ := frac_plus l hp
    obtain ⟨ext, e2, e3⟩ := minus_val (kr 1 l) (kt 1 l) b1 b2 b3 b4 hc
    simp only [hp, if_true, Bool.not_true, Bool.false_eq_true, if_false, T.run, e2, i_listed_eq, Option.bind_some] at h
    cases ht : isTerms ext with
    | false => rw [ht] at h; simp [Sum.isLeft] at h; rw [h.1] at hr; cases hr
    | true =>
      rw [ht] at h
      simp [Sum.isLeft] at h
      rw [← h.2]
      exact ⟨rfl, ht, e3 ht⟩



/-- The cursor over drawn bytes. -/
def curOK (k : Int) (c : List Int × Int × Int) : Prop := (∀ x ∈ c.1, 0 ≤ x ∧ x ≤ 255) ∧ 0 ≤ c.2.1 ∧ c.2.1 ≤ k
theorem curOK.mono {k m : Int} {c : List Int × Int × Int} (h : curOK k c) (hk : k ≤ m) : curOK m c := ⟨h.1, h.2.1, Int.le_trans h.2.2 hk⟩
theorem wu64_id {z : Int} (h1 : 0 ≤ z) (h2 : z ≤ 18446744073709551615) : wu64 z = z := by
  simp [wu64, IntKind.wrap, IntKind.bits, IntKind.signed]; omega
theorem mask_ok (n : Nat) : 0 ≤ w64 (wu64 ((n &&& 255 : Nat) : Int)) ∧ w64 (wu64 ((n &&& 255 : Nat) : Int)) ≤ 255 := by
  have h : n &&& 255 ≤ 255 := Nat.and_le_right
  generalize n &&& 255 = m at h
  rw [wu64_id (by omega) (by omega), w64_id (by omega) (by omega)]
  omega
theorem next_ok {k : Int} {c : List Int × Int × Int} (h : curOK k c) (hk : k < 1000000000000000) : ∃ v c', s_l1Cur_next ((), c) = some (v, c') ∧ (0 ≤ v ∧ v ≤ 255) ∧ curOK (k + 1) c' := by
  obtain ⟨c0, c1, c2⟩ := c
  obtain ⟨h1, h2, h3⟩ := h
  simp only at h1 h2 h3
  have w1 : w64 (c1 + 1) = c1 + 1 := w64_id (by omega) (by omega)
  rw [s_l1Cur_next, s_l1Cur_next_t]
  by_cases a : c1 < (c0.length : Int)
  · have hlt : c1.toNat < c0.length := by omega
    have hx := h1 c0[c1.toNat] (List.getElem_mem hlt)
    rw [T.run_test, if_pos (decide_eq_true a), T.run_test, if_pos (decide_eq_true (by omega)), T.run_sub, List.getElem?_eq_getElem hlt, Option.bind_some, T.run_test, if_pos (decide_eq_true (by rw [w1]; omega)), T.run_ret, w1]
    have w2 : w64 c0[c1.toNat] = c0[c1.toNat] := w64_id (by omega) (by omega)
    refine ⟨_, _, rfl, by rw [w2]; exact hx, h1, ?_, ?_⟩
    · show 0 ≤ c1 + 1; omega
    · show c1 + 1 ≤ k + 1; omega
  · rw [T.run_test, if_neg (by rw [decide_eq_true_eq]; exact a), T.run_test, if_neg (by rw [decide_eq_true_eq, w1]; omega), T.run_ret, w1]
    refine ⟨_, _, rfl, mask_ok _, h1, ?_, ?_⟩
    · show 0 ≤ c1 + 1; omega
    · show c1 + 1 ≤ k + 1; omega
theorem pick_ok {k : Int} {c : List Int × Int × Int} (n : Int) (h : curOK k c) (hk : k < 100000000000000) : ∃ v c', s_l1Cur_pick (((), n), c) = some (v, c') ∧ 0 ≤ v ∧ (1 ≤ n → v < n) ∧ (n ≤ 1 → v = 0) ∧ curOK (k + 2) c' := by
  obtain ⟨c0, c1, c2⟩ := c
  rw [s_l1Cur_pick, s_l1Cur_pick_t]
  by_cases a : n ≤ 1
  · rw [T.run_test, if_pos (decide_eq_true a), T.run_ret]
    exact ⟨0, _, rfl, Int.le_refl _, fun h => by omega, fun _ => rfl, h.mono (by omega)⟩
  · obtain ⟨v, ⟨d0, d1, d2⟩, e, hv, hc⟩ := next_ok h (by omega)
    rw [T.run_test, if_neg (by rw [decide_eq_true_eq]; exact a), T.run_sub, e, Option.bind_some, T.run_test]
    by_cases b : n > 200
    · obtain ⟨u, ⟨f0, f1, f2⟩, e2, hu, hc2⟩ := next_ok hc (by omega)
      rw [if_pos (decide_eq_true b), T.run_sub, e2, Option.bind_some, T.run_test, if_pos (decide_eq_true (by omega)), T.run_ret]
      have w : w64 (w64 (v * 256) + u) = v * 256 + u := by rw [w64_id (z := v * 256) (by omega) (by omega), w64_id (by omega) (by omega)]
      refine ⟨_, _, rfl, ?_, fun _ => ?_, fun h => absurd h a, hc2.mono (by omega)⟩
      · rw [w]; exact Int.tmod_nonneg _ (by omega)
      · rw [w]; exact Int.tmod_lt_of_pos _ (by omega)
    · rw [if_neg (by rw [decide_eq_true_eq]; exact b), T.run_test, if_pos (decide_eq_true (by omega)), T.run_ret]
      exact ⟨_, _, rfl, Int.tmod_nonneg _ (by omega), fun _ => Int.tmod_lt_of_pos _ (by omega), fun h => absurd h a, hc.mono (by omega)⟩
theorem among_ok {k : Int} {c : List Int × Int × Int} (l : List Int) (h : curOK k c) (hk : k < 100000000000000) (hl : 1 ≤ l.length) : ∃ v c', s_l1Cur_among (((), l), c) = some (v, c') ∧ v ∈ l ∧ curOK (k + 2) c' := by
  obtain ⟨c0, c1, c2⟩ := c
  obtain ⟨v, ⟨d0, d1, d2⟩, e, h0, h1, _, hc⟩ := pick_ok (l.length : Int) h hk
  have h1 := h1 (by omega)
  have hlt : v.toNat < l.length := by omega
  rw [s_l1Cur_among, s_l1Cur_among_t, T.run_sub, e, Option.bind_some, T.run_test, if_pos (decide_eq_true (by omega)), T.run_sub, List.getElem?_eq_getElem hlt, Option.bind_some, T.run_ret]
  exact ⟨_, _, rfl, List.getElem_mem hlt, hc⟩
theorem one_ok {k : Int} {c : List Int × Int × Int} (n : Int) (h : curOK k c) (hk : k < 100000000000000) : ∃ v c', s_l1Cur_one (((), n), c) = some (v, c') ∧ curOK (k + 2) c' := by
  obtain ⟨c0, c1, c2⟩ := c
  obtain ⟨v, ⟨d0, d1, d2⟩, e, _, _, _, hc⟩ := pick_ok n h hk
  rw [s_l1Cur_one, s_l1Cur_one_t, T.run_sub, e, Option.bind_some, T.run_ret]
  exact ⟨_, _, rfl, hc⟩
theorem terms_L3 (low high : Int) (hlo : -100 ≤ low ∧ low ≤ 100) (hhi : -100 ≤ high ∧ high ≤ 100) : ∀ (m : Nat) (K : Int) (c : List Int × Int × Int) (out : List Int), curOK K c → K + 2 * (m : Int) < 10000000000000 → m ≤ 100 → out.length + m ≤ 100 →
    ∃ c' out', s_l1Cur_terms_L3 (((), (low, (high, ((), (m : Int))))), (c, out)) = some (((), ()), (c', out')) ∧ out'.length ≤ out.length + m ∧ curOK (K + 2 * (m : Int)) c' := by
  intro m
  induction m with
  | zero =>
    intro K c out h hK hm hl
    obtain ⟨c0, c1, c2⟩ := c
    refine ⟨_, out, ?_, Nat.le_refl _, h.mono (by omega)⟩
    simp only [s_l1Cur_terms_L3]
    exact loopO_done (by simp [s_l1Cur_terms_L3_step, T.run])
  | succ m ih =>
    intro K c out h hK hm hl
    obtain ⟨c0, c1, c2⟩ := c
    obtain ⟨v, ⟨d0, d1, d2⟩, e, h0, h1, h2, hc⟩ := pick_ok (w64 (w64 (high - low) + 1)) h (by omega)
    obtain ⟨c', out', e2, h3, h4⟩ := ih (K + 2) (d0, d1, d2) (out ++ [w64 (low + v)]) hc (by omega) (by omega) (by simp; omega)
    refine ⟨c', out', ?_, by simp at h3; omega, h4.mono (by omega)⟩
    have c9 : ((m + 1 : Nat) : Int) > 0 := by omega
    have w1 : w64 (((m + 1 : Nat) : Int) - 1) = (m : Int) := by rw [w64_id (by omega) (by omega)]; omega
    have hlen : 2 * ((out.length + 1) * 9) ≤ 140737488355328 := by omega
    simp only [s_l1Cur_terms_L3] at e2 ⊢
    rw [← e2]
    refine loopO_next ?_
    rw [s_l1Cur_terms_L3_step, T.run_test, if_pos (decide_eq_true c9), T.run_sub, e, Option.bind_some]
    have wm : w64 (m : Int) = (m : Int) := w64_id (by omega) (by omega)
    simp [T.run, win_all, win_one, win_sing, hlen, wm]
theorem terms_L10 : ∀ (m : Nat) (K : Int) (c : List Int × Int × Int) (out : List Int), curOK K c → K + 2 * (m : Int) < 10000000000000 → m ≤ 100 → out.length ≤ 100 → 12 ≤ out.length + m →
    ∃ c' out', s_l1Cur_terms_L10 (((), ()), (c, out)) = some ((), (c', out')) ∧ out'.length ≤ out.length + m ∧ curOK (K + 2 * (m : Int) + 2) c' := by
  intro m
  induction m with
  | zero =>
    intro K c out h hK hm hl h12
    obtain ⟨c0, c1, c2⟩ := c
    obtain ⟨v, ⟨d0, d1, d2⟩, e, h0, h1, h2, hc⟩ := pick_ok 2 h (by omega)
    have h1 := h1 (by omega)
    have c9 : ¬ ((out.length : Int) < w64 (10 + v)) := by rw [w64_id (by omega) (by omega)]; omega
    refine ⟨_, out, ?_, Nat.le_refl _, hc.mono (by omega)⟩
    simp only [s_l1Cur_terms_L10]
    refine loopO_done ?_
    rw [s_l1Cur_terms_L10_step, T.run_sub, e, Option.bind_some, T.run_test, if_neg (by rw [decide_eq_true_eq]; exact c9), T.run_test, if_pos (by simp), T.run_ret]
  | succ m ih =>
    intro K c out h hK hm hl h12
    obtain ⟨c0, c1, c2⟩ := c
    obtain ⟨v, ⟨d0, d1, d2⟩, e, h0, h1, h2, hc⟩ := pick_ok 2 h (by omega)
    by_cases c9 : (out.length : Int) < w64 (10 + v)
    · have h1 := h1 (by omega)
      have c8 : out.length < 12 := by rw [w64_id (by omega) (by omega)] at c9; omega
      obtain ⟨c', out', e2, h3, h4⟩ := ih (K + 2) (d0, d1, d2) (out ++ [2]) hc (by omega) (by omega) (by simp; omega) (by simp; omega)
      refine ⟨c', out', ?_, by simp at h3; omega, h4.mono (by omega)⟩
      have hlen : 2 * ((out.length + 1) * 9) ≤ 140737488355328 := by omega
      simp only [s_l1Cur_terms_L10] at e2 ⊢
      rw [← e2]
      refine loopO_next ?_
      rw [s_l1Cur_terms_L10_step, T.run_sub, e, Option.bind_some, T.run_test, if_pos (decide_eq_true c9)]
      simp [T.run, win_all, win_one, win_sing, hlen]
    · refine ⟨_, out, ?_, by omega, hc.mono (by omega)⟩
      simp only [s_l1Cur_terms_L10]
      refine loopO_done ?_
      rw [s_l1Cur_terms_L10_step, T.run_sub, e, Option.bind_some, T.run_test, if_neg (by rw [decide_eq_true_eq]; exact c9), T.run_test, if_pos (by simp), T.run_ret]
theorem terms_L13 (c : List Int × Int × Int) : ∀ (m : Nat) (out : List Int), m ≤ 100 → out.length ≤ 100 → 12 ≤ out.length + m →
    ∃ out', s_l1Cur_terms_L13 ((), (c, out)) = some ((), (c, out')) ∧ out'.length ≤ out.length + m := by
  intro m
  induction m with
  | zero =>
    intro out hm hl h12
    obtain ⟨c0, c1, c2⟩ := c
    have c9 : ¬ ((out.length : Int) < 10) := by omega
    refine ⟨out, ?_, Nat.le_refl _⟩
    simp only [s_l1Cur_terms_L13]
    exact loopO_done (by simp [s_l1Cur_terms_L13_step, T.run, c9])
  | succ m ih =>
    intro out hm hl h12
    obtain ⟨c0, c1, c2⟩ := c
    by_cases c9 : (out.length : Int) < 10
    · obtain ⟨out', e2, h3⟩ := ih (out ++ [30]) (by omega) (by simp; omega) (by simp; omega)
      refine ⟨out', ?_, by simp at h3; omega⟩
      have hlen : 2 * ((out.length + 1) * 9) ≤ 140737488355328 := by omega
      simp only [s_l1Cur_terms_L13] at e2 ⊢
      rw [← e2]
      refine loopO_next ?_
      rw [s_l1Cur_terms_L13_step, T.run_test, if_pos (decide_eq_true c9)]
      simp [T.run, win_all, win_one, win_sing, hlen]
    · refine ⟨out, ?_, by omega⟩
      simp only [s_l1Cur_terms_L13]
      exact loopO_done (by simp [s_l1Cur_terms_L13_step, T.run, c9])
theorem terms_ok {k : Int} {c : List Int × Int × Int} (low high : Int) (hlo : -100 ≤ low ∧ low ≤ 100) (hhi : -100 ≤ high ∧ high ≤ 100) (h : curOK k c) (hk : k < 1000000000000) :
    ∃ c' l, s_l1Cur_terms (((), (low, high)), c) = some ((), (c', l)) ∧ l.length ≤ 50 ∧ curOK (k + 100) c' := by
  obtain ⟨c0, c1, c2⟩ := c
  obtain ⟨v, ⟨d0, d1, d2⟩, e, h0, h1, _, hc⟩ := pick_ok 8 h (by omega)
  have h1 := h1 (by omega)
  obtain ⟨m, rfl⟩ := Int.eq_ofNat_of_zero_le h0
  obtain ⟨⟨f0, f1, f2⟩, out, e3, h3, hc3⟩ := terms_L3 low high hlo hhi m (k + 2) (d0, d1, d2) [] hc (by omega) (by omega) (by simp; omega)
  simp only [List.length_nil] at h3
  obtain ⟨u, ⟨g0, g1, g2⟩, e4, h4, h5, _, hc4⟩ := pick_ok 14 hc3 (by omega)
  rw [s_l1Cur_terms, s_l1Cur_terms_t, T.run_sub, e, Option.bind_some, T.run_test, if_pos (by simp), T.run_sub, e3, Option.bind_some, T.run_sub, e4, Option.bind_some, T.run_test]
  have hlen : 2 * ((out.length + 1) * 9) ≤ 140737488355328 := by omega
  by_cases u0 : u = 0
  · obtain ⟨x, ⟨a0, a1, a2⟩, e5, _, hc5⟩ := among_ok [30, 31, -30, -9223372036854775808] hc4 (by omega) (by simp)
    have hw : win (List.set (List.set (List.set (List.set (List.replicate 4 (0 : Int)) 0 (30 : Int)) 1 (31 : Int)) 2 (-30)) 3 (-9223372036854775808)) 0 4 = [30, 31, -30, -9223372036854775808] := rfl
    rw [if_pos (by rw [u0]; rfl), T.run_test, if_pos rfl, T.run_sub, hw, e5, Option.bind_some]
    refine ⟨_, out ++ [x], ?_, by simp; omega, hc5.mono (by omega)⟩
    simp [T.run, win_all, win_one, win_sing, hlen]
  · rw [if_neg (by rw [beq_iff_eq]; exact u0), T.run_test]
    by_cases u1 : u = 1
    · obtain ⟨⟨a0, a1, a2⟩, out', e5, h6, hc5⟩ := terms_L10 12 _ (g0, g1, g2) out hc4 (by omega) (by omega) (by omega) (by omega)
      rw [if_pos (by rw [u1]; rfl), T.run_test, if_pos (by simp), T.run_sub, e5, Option.bind_some, T.run_test, if_pos (by simp), T.run_ret]
      exact ⟨_, out', rfl, by omega, hc5.mono (by omega)⟩
    · rw [if_neg (by rw [beq_iff_eq]; exact u1), T.run_test]
      by_cases u2 : u = 2
      · obtain ⟨out', e5, h6⟩ := terms_L13 (g0, g1, g2) 12 out (by omega) (by omega) (by omega)
        rw [if_pos (by rw [u2]; rfl), T.run_test, if_pos (by simp), T.run_sub, e5, Option.bind_some, T.run_test, if_pos (by simp), T.run_ret]
        exact ⟨_, out', rfl, by omega, hc4.mono (by omega)⟩
      · rw [if_neg (by rw [beq_iff_eq]; exact u2), T.run_test, if_pos (by simp), T.run_ret]
        exact ⟨_, out, rfl, by omega, hc4.mono (by omega)⟩
def bytesOK (code : List Int) : Prop := ∀ x ∈ code, 0 ≤ x ∧ x ≤ 255
theorem cur0 {code : List Int} (h : bytesOK code) : curOK 0 (code, ((0 : Int), (0 : Int))) := ⟨h, Int.le_refl _, Int.le_refl _⟩
theorem DrawPutOne_ok {code : List Int} (h : bytesOK code) : ∃ l at', s_DrawPutOne code = some (((), at'), l) ∧ l.length ≤ 50 := by
  obtain ⟨⟨f0, f1, f2⟩, l, e, hl, hc⟩ := terms_ok (-2) 4 (by omega) (by omega) (cur0 h) (by omega)
  obtain ⟨v, ⟨d0, d1, d2⟩, e2, _, _, _, hc2⟩ := pick_ok (w64 ((l.length : Int) + 2)) hc (by omega)
  obtain ⟨u, ⟨g0, g1, g2⟩, e3, _, _, _, hc3⟩ := pick_ok 2 hc2 (by omega)
  rw [s_DrawPutOne, s_DrawPutOne_t, T.run_sub, e, Option.bind_some, T.run_sub, e2, Option.bind_some, T.run_sub, e3, Option.bind_some, T.run_test, if_pos (by simp), T.run_ret]
  exact ⟨_, _, rfl, hl⟩
theorem DrawReduceOnes_ok {code : List Int} (h : bytesOK code) : ∃ l, s_DrawReduceOnes code = some ((), l) ∧ l.length ≤ 50 := by
  obtain ⟨⟨f0, f1, f2⟩, l, e, hl, hc⟩ := terms_ok 1 4 (by omega) (by omega) (cur0 h) (by omega)
  rw [s_DrawReduceOnes, s_DrawReduceOnes_t, T.run_sub, e, Option.bind_some, T.run_test, if_pos (by simp), T.run_ret]
  exact ⟨_, rfl, hl⟩
theorem DrawFractionOfPlus_ok {code : List Int} (h : bytesOK code) : ∃ l, s_DrawFractionOfPlus code = some ((), l) ∧ l.length ≤ 50 := by
  obtain ⟨⟨f0, f1, f2⟩, l, e, hl, hc⟩ := terms_ok 1 6 (by omega) (by omega) (cur0 h) (by omega)
  rw [s_DrawFractionOfPlus, s_DrawFractionOfPlus_t, T.run_sub, e, Option.bind_some, T.run_test, if_pos (by simp), T.run_ret]
  exact ⟨_, rfl, hl⟩
theorem DrawTakeOne_loop (list : List Int) (hl : list.length ≤ 50) : ∀ (m i : Nat) (K : Int) (c : List Int × Int × Int), i + m = list.length → curOK K c → K + 2 * (m : Int) < 10000000000 →
    ∃ r, s_DrawTakeOne_L4 (((), ((), ((), ((list.length : Int), (i : Int))))), (c, list)) = some r ∧ ((∃ a, r = .inl (((), a), list)) ∨ ∃ c', r = .inr (((), ()), (c', list)) ∧ curOK (K + 2 * (m : Int)) c') := by
  intro m
  induction m with
  | zero =>
    intro i K c hi h hK
    obtain ⟨c0, c1, c2⟩ := c
    refine ⟨_, ?_, .inr ⟨(c0, c1, c2), rfl, h.mono (by omega)⟩⟩
    simp only [s_DrawTakeOne_L4]
    have : ¬ ((i : Int) < (list.length : Int)) := by omega
    exact loopO_done (by simp [s_DrawTakeOne_L4_step, T.run, this])
  | succ m ih =>
    intro i K c hi h hK
    obtain ⟨c0, c1, c2⟩ := c
    have hlt : i < list.length := by omega
    have a1 : (i : Int) < (list.length : Int) := by omega
    have a2 : (0 : Int) ≤ (i : Int) ∧ (i : Int) < (list.length : Int) := by omega
    have w1 : w64 ((i : Int) + 1) = ((i + 1 : Nat) : Int) := by rw [w64_id (by omega) (by omega)]; omega
    have skip : ∀ c' : List Int × Int × Int, curOK (K + 2) c' → (s_DrawTakeOne_L4_step (((), ((), ((), ((list.length : Int), (i : Int))))), ((c0, c1, c2), list))).run = some (.inl (((), ((), ((), ((list.length : Int), ((i + 1 : Nat) : Int))))), (c', list))) →
        ∃ r, s_DrawTakeOne_L4 (((), ((), ((), ((list.length : Int), (i : Int))))), ((c0, c1, c2), list)) = some r ∧ ((∃ a, r = .inl (((), a), list)) ∨ ∃ c', r = .inr (((), ()), (c', list)) ∧ curOK (K + 2 * ((m + 1 : Nat) : Int)) c') := by
      intro c' hc' hst
      obtain ⟨r, e, hr⟩ := ih (i + 1) (K + 2) c' (by omega) hc' (by omega)
      simp only [s_DrawTakeOne_L4] at e ⊢
      refine ⟨r, by rw [loopO_next hst]; exact e, hr.imp id fun ⟨c2, e2, h2⟩ => ⟨c2, e2, h2.mono (by omega)⟩⟩
    by_cases hx : list[i] = 1
    · by_cases hp : i = 0
      · refine skip (c0, c1, c2) (h.mono (by omega)) ?_
        subst hp
        have ap : ¬ ((0 : Nat) : Int) > 0 := by omega
        simp only [s_DrawTakeOne_L4_step, T.run, a1, a2, decide_true, if_true, Nat.zero_add, Int.toNat_natCast, List.getElem?_eq_getElem hlt, Option.bind_some, hx, ap, decide_false, Bool.false_eq_true, if_false, w1, and_self]
        simp
      · have ap : (i : Int) > 0 := by omega
        obtain ⟨b, ⟨d0, d1, d2⟩, e, hc⟩ := one_ok 2 h (by omega)
        cases b with
        | true =>
          refine ⟨_, ?_, .inl ⟨(i : Int), rfl⟩⟩
          simp only [s_DrawTakeOne_L4]
          refine loopO_done ?_
          simp only [s_DrawTakeOne_L4_step, T.run, a1, a2, decide_true, if_true, Nat.zero_add, Int.toNat_natCast, List.getElem?_eq_getElem hlt, Option.bind_some, hx, ap, e, and_self]
          simp
        | false =>
          refine skip (d0, d1, d2) hc ?_
          simp only [s_DrawTakeOne_L4_step, T.run, a1, a2, decide_true, if_true, Nat.zero_add, Int.toNat_natCast, List.getElem?_eq_getElem hlt, Option.bind_some, hx, ap, e, and_self, w1, Bool.false_eq_true, if_false]
          simp
    · refine skip (c0, c1, c2) (h.mono (by omega)) ?_
      have hb : (list[i] == 1) = false := by rw [beq_eq_false_iff_ne]; exact hx
      simp only [s_DrawTakeOne_L4_step, T.run, a1, a2, decide_true, if_true, Nat.zero_add, Int.toNat_natCast, List.getElem?_eq_getElem hlt, Option.bind_some, hb, Bool.false_eq_true, if_false, w1, and_self]
theorem DrawTakeOne_ok {code : List Int} (h : bytesOK code) : ∃ l at', s_DrawTakeOne code = some (((), at'), l) ∧ l.length ≤ 50 := by
  obtain ⟨⟨f0, f1, f2⟩, l, e, hl, hc⟩ := terms_ok 1 3 (by omega) (by omega) (cur0 h) (by omega)
  obtain ⟨r, e2, hr⟩ := DrawTakeOne_loop l hl l.length 0 _ (f0, f1, f2) (by omega) hc (by omega)
  simp only [Int.natCast_zero] at e2
  rw [s_DrawTakeOne, s_DrawTakeOne_t, T.run_sub, e, Option.bind_some, T.run_test, if_pos (by simp), T.run_test, if_pos (by simp), T.run_sub, e2, Option.bind_some, T.run_test]
  rcases hr with ⟨a, rfl⟩ | ⟨⟨g0, g1, g2⟩, rfl, hc2⟩
  · exact ⟨l, a, by simp [T.run], hl⟩
  · obtain ⟨u, ⟨a0, a1, a2⟩, e3, _, _, _, _⟩ := pick_ok (w64 ((l.length : Int) + 2)) hc2 (by omega)
    refine ⟨l, w64 (u - 1), ?_, hl⟩
    rw [if_neg (by simp), T.run_sub, Sum.getRight?_inr, Option.bind_some, T.run_sub, e3, Option.bind_some, T.run_test, if_pos (by simp), T.run_ret]
theorem DrawMinusTerms_ok {code : List Int} (h : bytesOK code) : ∃ r, s_DrawMinusTerms code = some r := by
  obtain ⟨b, ⟨d0, d1, d2⟩, e, hc⟩ := one_ok 8 (cur0 h) (by omega)
  rw [s_DrawMinusTerms, s_DrawMinusTerms_t, T.run_sub, e, Option.bind_some, T.run_test]
  cases b with
  | true =>
    obtain ⟨x, ⟨a0, a1, a2⟩, e2, _, hc2⟩ := among_ok [0, 1, 1000000, 1000001, -1, 6] hc (by omega) (by simp)
    obtain ⟨y, ⟨g0, g1, g2⟩, e3, _, _⟩ := among_ok [0, 1, 999999, 1000000, 4, 4611686018427387904] hc2 (by omega) (by simp)
    have hw : win (List.set (List.set (List.set (List.set (List.set (List.set (List.replicate 6 (0 : Int)) 0 (0 : Int)) 1 (1 : Int)) 2 (1000000 : Int)) 3 (1000001 : Int)) 4 (-1)) 5 (6 : Int)) 0 6 = [0, 1, 1000000, 1000001, -1, 6] := rfl
    have hw2 : win (List.set (List.set (List.set (List.set (List.set (List.set (List.replicate 6 (0 : Int)) 0 (0 : Int)) 1 (1 : Int)) 2 (999999 : Int)) 3 (1000000 : Int)) 4 (4 : Int)) 5 (4611686018427387904 : Int)) 0 6 = [0, 1, 999999, 1000000, 4, 4611686018427387904] := rfl
    rw [if_pos rfl, T.run_test, if_pos rfl, T.run_sub, hw, e2, Option.bind_some, T.run_test, if_pos rfl, T.run_sub, hw2, e3, Option.bind_some, T.run_ret]
    exact ⟨_, rfl⟩
  | false =>
    obtain ⟨⟨f0, f1, f2⟩, l, e2, hl, hc2⟩ := terms_ok 1 5 (by omega) (by omega) hc (by omega)
    rw [if_neg (by simp), T.run_sub, e2, Option.bind_some, T.run_test, if_pos (by simp), T.run_sub, win_all]
    have hf : ∃ q : Int × (Int × Bool), s_FractionOfPlus l = some q := by
      rw [s_FractionOfPlus, s_FractionOfPlus_t, T.run_sub, s_ctPositive_eq l (by omega), Option.bind_some, T.run_test]
      cases hp : posT l with
      | false => exact ⟨_, rfl⟩
      | true =>
        obtain ⟨q, _, hq, _⟩ := fraction_both l hp
        rw [if_neg (by simp), T.run_sub, hq, Option.bind_some, T.run_ret]
        exact ⟨_, rfl⟩
    obtain ⟨⟨x, y, b⟩, hq⟩ := hf
    rw [hq, Option.bind_some, T.run_test]
    cases b with
    | false => exact ⟨_, rfl⟩
    | true =>
      rw [if_neg (by simp), T.run_sub, s_ctPair_eq, Option.bind_some, T.run_test]
      split
      · exact ⟨_, rfl⟩
      · obtain ⟨b, ⟨g0, g1, g2⟩, e3, _⟩ := one_ok 3 hc2 (by omega)
        rw [T.run_sub, e3, Option.bind_some, T.run_test]
        split <;> exact ⟨_, rfl⟩


def l_FnTermsChanged_sh : FSh := ⟨[(.one (.sl (.int .u8) false true)), (.one (.sl (.int .u8) false true))], []⟩

def l_FnTermsChanged_C9_sh : LSh := ⟨(fun ex => match ex with | .norm => [(1, none)] | .exit i => [] | .ret => [(4, none)]), [(1, (.one (.sl (.int .u8) false true))), (5, (.one (.rw 0 0))), (6, (.one (.si .i64))), (7, (.one (.rw 1 0))), (8, (.one .sb))], [(.row 0 (.int .i64)), (.row 0 (.int .i64))], [⟨.ret, [(4, (.one .sb))], []⟩, ⟨.norm, [(1, (.one (.sl (.int .u8) false true)))], []⟩], [], []⟩
noncomputable def l_FnTermsChanged_C9_step : ((List (Int) × Unit × Int × Unit × Bool) × (List (Int) × List (Int))) → T (Bool ⊕ List (Int)) := fun ((more, (), at', (), ok), (list, put)) =>
  (.test ok
  (.test (decide ((0 + (List.length list)) ≤ (List.length list)))
   (.sub (i_ContinuantOf (win list 0 (List.length list))) fun z0 =>
    (.test (decide ((0 + (List.length put)) ≤ (List.length put)))
    (.sub (i_ContinuantOf (win put 0 (List.length put))) fun z1 =>
     (.test (decide ((0 + (List.length put)) ≤ (List.length put)))
     (.sub (i_TakeOne ((win put 0 (List.length put)), at')) fun z2 =>
      (.test (! z0.2)
      (.ret (Sum.inl false))
      (.test (! z1.2)
       (.ret (Sum.inl false))
       (.test (z0.1 != z1.1)
        (.ret (Sum.inl false))
        (.test (! z2.1.2)
         (.ret (Sum.inl false))
         (.test (decide ((0 + (List.length z2.2)) ≤ (List.length z2.2)))
          (.test (decide ((0 + (List.length list)) ≤ (List.length list)))
           (.sub (l_dSame ((win z2.2 0 (List.length z2.2)), (win list 0 (List.length list)))) fun z3 =>
            (.test (! z3)
            (.ret (Sum.inl false))
            (.test (decide ((0 ≤ at') ∧ (at' < ((List.length put) : Int))))
             (.sub (put[(0 + (Int.toNat at'))]?) fun z4 =>
              (.test (z4 != 1)
              (.ret (Sum.inl false))
              (.ret (Sum.inr more))))
             .fail)))
           .fail)
          .fail))))))
     .fail))
    .fail))
   .fail)
  (.ret (Sum.inr more)))
noncomputable def l_FnTermsChanged_C9 (v : ((List (Int) × Unit × Int × Unit × Bool) × (List (Int) × List (Int)))) : Option (Bool ⊕ List (Int)) := (l_FnTermsChanged_C9_step v).run

def l_FnTermsChanged_L28_sh : LSh := ⟨(fun ex => match ex with | .norm => [(1, none), (24, none), (32, none)] | .exit i => if i = 0 then [(1, none)] else [] | .ret => [(4, none)]), [(1, (.one (.sl (.int .u8) false true))), (24, (.one (.rw 0 0))), (32, (.one (.si .i64)))], [(.row 0 (.int .i64))], [⟨.ret, [(4, (.one .sb))], []⟩, ⟨(.exit 0), [(1, (.one (.sl (.int .u8) false true)))], []⟩], [], []⟩
noncomputable def l_FnTermsChanged_L28_step : ((List (Int) × Unit × Int) × List (Int)) → T (((List (Int) × Unit × Int) × List (Int)) ⊕ (Bool ⊕ List (Int))) := fun ((more, (), i), reduced) =>
  (.test (decide ((w64 (i + 1)) < ((List.length reduced) : Int)))
  (.test (decide ((0 ≤ i) ∧ (i < ((List.length reduced) : Int))))
   (.sub (reduced[(0 + (Int.toNat i))]?) fun z0 =>
    (.test (z0 == 1)
    (.ret (Sum.inr (Sum.inl false)))
    (.test (decide ((0 = 0) ∧ ((List.length reduced) = (List.length reduced))))
     (.ret (Sum.inl ((more, ((), (w64 (i + 1)))), reduced)))
     .fail)))
   .fail)
  (.ret (Sum.inr (Sum.inr more))))
noncomputable def l_FnTermsChanged_L28 (v : ((List (Int) × Unit × Int) × List (Int))) : Option (Bool ⊕ List (Int)) := loopO (fun v => (l_FnTermsChanged_L28_step v).run) v

def l_FnTermsChanged_C23_sh : LSh := ⟨(fun ex => match ex with | .norm => [(1, none)] | .exit i => [] | .ret => [(4, none)]), [(1, (.one (.sl (.int .u8) false true))), (23, (.one (.rw 0 0))), (24, (.one (.rw 1 0))), (25, (.one .sb))], [(.row 0 (.int .i64)), (.row 0 (.int .i64))], [⟨.ret, [(4, (.one .sb))], []⟩, ⟨.norm, [(1, (.one (.sl (.int .u8) false true)))], []⟩], [], []⟩
noncomputable def l_FnTermsChanged_C23_step : ((List (Int) × Unit × Unit × Bool) × (List (Int) × List (Int))) → T (Bool ⊕ List (Int)) := fun ((more, (), (), three), (r, reduced)) =>
  (.test three
  (.test (decide ((0 + (List.length r)) ≤ (List.length r)))
   (.sub (i_ContinuantOf (win r 0 (List.length r))) fun z0 =>
    (.test (decide ((0 + (List.length reduced)) ≤ (List.length reduced)))
    (.sub (i_ContinuantOf (win reduced 0 (List.length reduced))) fun z1 =>
     (.test (! z0.2)
     (.ret (Sum.inl false))
     (.test (! z1.2)
      (.ret (Sum.inl false))
      (.test (z0.1 != z1.1)
       (.ret (Sum.inl false))
       (.test (decide (((List.length reduced) : Int) > ((List.length r) : Int)))
        (.ret (Sum.inl false))
        (.test (decide ((0 = 0) ∧ ((List.length reduced) = (List.length reduced))))
         (.sub (l_FnTermsChanged_L28 ((more, ((), (1 : Int))), reduced)) fun z2 =>
          (.test (Sum.isLeft z2)
          (.sub (Sum.getLeft? z2) fun z3 =>
           (.ret (Sum.inl z3)))
          (.sub (Sum.getRight? z2) fun z4 =>
           (.ret (Sum.inr z4)))))
         .fail))))))
    .fail))
   .fail)
  (.ret (Sum.inr more)))
noncomputable def l_FnTermsChanged_C23 (v : ((List (Int) × Unit × Unit × Bool) × (List (Int) × List (Int)))) : Option (Bool ⊕ List (Int)) := (l_FnTermsChanged_C23_step v).run

def l_FnTermsChanged_L49_sh : LSh := ⟨(fun ex => match ex with | .norm => [(33, none), (34, none), (39, none), (40, none), (43, none), (44, none), (45, none), (46, none), (50, none), (51, none), (365, none), (366, none), (367, none)] | .exit i => if i = 2 then [(33, none), (34, none), (39, none), (40, none), (43, none), (44, none), (45, none), (46, none), (50, none), (51, none)] else [] | .ret => [(4, none)]), [(33, (.one (.si .i64))), (34, (.one (.si .i64))), (39, (.one (.rw 0 0))), (40, (.one .sb)), (43, (.one (.rw 1 0))), (44, (.one (.si .i64))), (45, (.one (.si .i64))), (46, (.one .sb)), (50, (.one (.rw 2 0))), (51, (.one .sb)), (365, (.one (.rf 3 0))), (366, (.one (.si .i64))), (367, (.one (.si .i64)))], [(.row 0 (.int .i64)), (.row 0 (.int .i64)), (.row 0 (.int .i64)), (.row 0 (.int .i64))], [⟨.ret, [(4, (.one .sb))], []⟩, ⟨(.exit 2), [(33, (.one (.si .i64))), (34, (.one (.si .i64))), (39, (.one (.rw 0 0))), (40, (.one .sb)), (43, (.one (.rw 1 0))), (44, (.one (.si .i64))), (45, (.one (.si .i64))), (46, (.one .sb)), (50, (.one (.rw 2 0))), (51, (.one .sb))], [(.row 0 (.int .i64)), (.row 0 (.int .i64)), (.row 0 (.int .i64))]⟩], [], []⟩
noncomputable def l_FnTermsChanged_L49_step : ((Int × Int × Unit × Bool × Unit × Int × Int × Bool × Unit × Bool × (Nat × Nat) × Int × Int) × (List (Int) × List (Int) × List (Int) × List (Int))) → T (((Int × Int × Unit × Bool × Unit × Int × Int × Bool × Unit × Bool × (Nat × Nat) × Int × Int) × (List (Int) × List (Int) × List (Int) × List (Int))) ⊕ (Bool ⊕ ((Int × Int × Unit × Bool × Unit × Int × Int × Bool × Unit × Bool) × (List (Int) × List (Int) × List (Int))))) := fun ((num, den, (), seven, (), x, y, nine, (), eleven, (t365_o, t365_n), t366, t367), (plus, p, changed, t365)) =>
  (.test (decide (t367 < t366))
  (.test (decide ((0 ≤ t367) ∧ (t367 < (t365_n : Int))))
   (.sub (t365[(t365_o + (Int.toNat t367))]?) fun z0 =>
    (.test (decide (z0 < 2))
    (.ret (Sum.inr (Sum.inl false)))
    (.test (decide ((0 = 0) ∧ ((List.length plus) = (List.length plus))))
     (.test (decide ((0 = 0) ∧ ((List.length p) = (List.length p))))
      (.test (decide ((0 = 0) ∧ ((List.length changed) = (List.length changed))))
       (.ret (Sum.inl ((num, (den, ((), (seven, ((), (x, (y, (nine, ((), (eleven, ((t365_o, t365_n), (t366, (w64 (t367 + 1)))))))))))))), (plus, (p, (changed, t365))))))
       .fail)
      .fail)
     .fail)))
   .fail)
  (.test (decide ((0 = 0) ∧ ((List.length plus) = (List.length plus))))
   (.test (decide ((0 = 0) ∧ ((List.length p) = (List.length p))))
    (.test (decide ((0 = 0) ∧ ((List.length changed) = (List.length changed))))
     (.ret (Sum.inr (Sum.inr ((num, (den, ((), (seven, ((), (x, (y, (nine, ((), eleven))))))))), (plus, (p, changed))))))
     .fail)
    .fail)
   .fail))
noncomputable def l_FnTermsChanged_L49 (v : ((Int × Int × Unit × Bool × Unit × Int × Int × Bool × Unit × Bool × (Nat × Nat) × Int × Int) × (List (Int) × List (Int) × List (Int) × List (Int)))) : Option (Bool ⊕ ((Int × Int × Unit × Bool × Unit × Int × Int × Bool × Unit × Bool) × (List (Int) × List (Int) × List (Int)))) := loopO (fun v => (l_FnTermsChanged_L49_step v).run) v

def l_FnTermsChanged_C45_sh : LSh := ⟨(fun ex => match ex with | .norm => [(33, none), (34, none), (39, none), (40, none), (43, none), (44, none), (45, none), (46, none), (50, none), (51, none)] | .exit i => [] | .ret => [(4, none)]), [(33, (.one (.si .i64))), (34, (.one (.si .i64))), (35, (.one (.rw 0 0))), (36, (.one .sb)), (39, (.one (.rw 1 0))), (40, (.one .sb)), (43, (.one (.rw 2 0))), (44, (.one (.si .i64))), (45, (.one (.si .i64))), (46, (.one .sb)), (50, (.one (.rw 3 0))), (51, (.one .sb))], [(.row 0 (.int .i64)), (.row 0 (.int .i64)), (.row 0 (.int .i64)), (.row 0 (.int .i64))], [⟨.ret, [(4, (.one .sb))], []⟩, ⟨.norm, [(33, (.one (.si .i64))), (34, (.one (.si .i64))), (39, (.one (.rw 0 0))), (40, (.one .sb)), (43, (.one (.rw 1 0))), (44, (.one (.si .i64))), (45, (.one (.si .i64))), (46, (.one .sb)), (50, (.one (.rw 2 0))), (51, (.one .sb))], [(.row 0 (.int .i64)), (.row 0 (.int .i64)), (.row 0 (.int .i64))]⟩], [], []⟩
noncomputable def l_FnTermsChanged_C45_step : ((Int × Int × Unit × Bool × Unit × Bool × Unit × Int × Int × Bool × Unit × Bool) × (List (Int) × List (Int) × List (Int) × List (Int))) → T (Bool ⊕ ((Int × Int × Unit × Bool × Unit × Int × Int × Bool × Unit × Bool) × (List (Int) × List (Int) × List (Int)))) := fun ((num, den, (), five, (), seven, (), x, y, nine, (), eleven), (minus, plus, p, changed)) =>
  (.test five
  (.test (decide ((0 + (List.length minus)) ≤ (List.length minus)))
   (.sub (i_FractionOfMinus (win minus 0 (List.length minus))) fun z0 =>
    (.test (! z0.2.2)
    (.ret (Sum.inl false))
    (.test (z0.1 != num)
     (.ret (Sum.inl false))
     (.test (z0.2.1 != den)
      (.ret (Sum.inl false))
      (.test (decide (((0 : Int) ≤ (0 : Int)) ∧ (0 < ((List.length minus) : Int))))
       (.sub (minus[0]?) fun z1 =>
        (.test (decide (z1 < 1))
        (.ret (Sum.inl false))
        (.test true
         (.test (decide ((1 ≤ (List.length minus)) ∧ ((List.length minus) ≤ (List.length minus))))
          (.test (decide ((0 = 0) ∧ ((List.length plus) = (List.length plus))))
           (.test (decide ((0 = 0) ∧ ((List.length p) = (List.length p))))
            (.test (decide ((0 = 0) ∧ ((List.length changed) = (List.length changed))))
             (.sub (l_FnTermsChanged_L49 ((num, (den, ((), (seven, ((), (x, (y, (nine, ((), (eleven, ((1, ((List.length minus) - 1)), (((((List.length minus) - 1) : Nat) : Int), (0 : Int))))))))))))), (plus, (p, (changed, minus))))) fun z2 =>
              (.test (Sum.isLeft z2)
              (.sub (Sum.getLeft? z2) fun z3 =>
               (.ret (Sum.inl z3)))
              (.sub (Sum.getRight? z2) fun z4 =>
               (.test (decide ((0 = 0) ∧ ((List.length z4.2.1) = (List.length z4.2.1))))
               (.test (decide ((0 = 0) ∧ ((List.length z4.2.2.1) = (List.length z4.2.2.1))))
                (.test (decide ((0 = 0) ∧ ((List.length z4.2.2.2) = (List.length z4.2.2.2))))
                 (.ret (Sum.inr ((z4.1.1, (z4.1.2.1, ((), (z4.1.2.2.2.1, ((), (z4.1.2.2.2.2.2.1, (z4.1.2.2.2.2.2.2.1, (z4.1.2.2.2.2.2.2.2.1, ((), z4.1.2.2.2.2.2.2.2.2.2))))))))), (z4.2.1, (z4.2.2.1, z4.2.2.2)))))
                 .fail)
                .fail)
               .fail))))
             .fail)
            .fail)
           .fail)
          .fail)
         .fail)))
       .fail)))))
   .fail)
  (.test (decide ((0 = 0) ∧ ((List.length plus) = (List.length plus))))
   (.test (decide ((0 = 0) ∧ ((List.length p) = (List.length p))))
    (.test (decide ((0 = 0) ∧ ((List.length changed) = (List.length changed))))
     (.ret (Sum.inr ((num, (den, ((), (seven, ((), (x, (y, (nine, ((), eleven))))))))), (plus, (p, changed)))))
     .fail)
    .fail)
   .fail))
noncomputable def l_FnTermsChanged_C45 (v : ((Int × Int × Unit × Bool × Unit × Bool × Unit × Int × Int × Bool × Unit × Bool) × (List (Int) × List (Int) × List (Int) × List (Int)))) : Option (Bool ⊕ ((Int × Int × Unit × Bool × Unit × Int × Int × Bool × Unit × Bool) × (List (Int) × List (Int) × List (Int)))) := (l_FnTermsChanged_C45_step v).run

def l_FnTermsChanged_C55_sh : LSh := ⟨(fun ex => match ex with | .norm => [(43, none), (44, none), (45, none), (46, none), (50, none), (51, none)] | .exit i => [] | .ret => [(4, none)]), [(33, (.one (.si .i64))), (34, (.one (.si .i64))), (39, (.one (.rw 0 0))), (40, (.one .sb)), (43, (.one (.rw 1 0))), (44, (.one (.si .i64))), (45, (.one (.si .i64))), (46, (.one .sb)), (50, (.one (.rw 2 0))), (51, (.one .sb))], [(.row 0 (.int .i64)), (.row 0 (.int .i64)), (.row 0 (.int .i64))], [⟨.ret, [(4, (.one .sb))], []⟩, ⟨.norm, [(43, (.one (.rw 0 0))), (44, (.one (.si .i64))), (45, (.one (.si .i64))), (46, (.one .sb)), (50, (.one (.rw 1 0))), (51, (.one .sb))], [(.row 0 (.int .i64)), (.row 0 (.int .i64))]⟩], [], []⟩
noncomputable def l_FnTermsChanged_C55_step : ((Int × Int × Unit × Bool × Unit × Int × Int × Bool × Unit × Bool) × (List (Int) × List (Int) × List (Int))) → T (Bool ⊕ ((Unit × Int × Int × Bool × Unit × Bool) × (List (Int) × List (Int)))) := fun ((num, den, (), seven, (), x, y, nine, (), eleven), (plus, p, changed)) =>
  (.test seven
  (.test (decide ((0 + (List.length plus)) ≤ (List.length plus)))
   (.sub (i_FractionOfPlus (win plus 0 (List.length plus))) fun z0 =>
    (.test (! z0.2.2)
    (.ret (Sum.inl false))
    (.test (z0.1 != num)
     (.ret (Sum.inl false))
     (.test (z0.2.1 != den)
      (.ret (Sum.inl false))
      (.test (decide (((List.length plus) : Int) > 1))
       (.test (decide ((0 ≤ (w64 (((List.length plus) : Int) - 1))) ∧ ((w64 (((List.length plus) : Int) - 1)) < ((List.length plus) : Int))))
        (.sub (plus[(0 + (Int.toNat (w64 (((List.length plus) : Int) - 1))))]?) fun z1 =>
         (.test (decide (z1 < 2))
         (.ret (Sum.inl false))
         (.test (decide ((0 = 0) ∧ ((List.length p) = (List.length p))))
          (.test (decide ((0 = 0) ∧ ((List.length changed) = (List.length changed))))
           (.ret (Sum.inr (((), (x, (y, (nine, ((), eleven))))), (p, changed))))
           .fail)
          .fail)))
        .fail)
       (.test (decide ((0 = 0) ∧ ((List.length p) = (List.length p))))
        (.test (decide ((0 = 0) ∧ ((List.length changed) = (List.length changed))))
         (.ret (Sum.inr (((), (x, (y, (nine, ((), eleven))))), (p, changed))))
         .fail)
        .fail))))))
   .fail)
  (.test (decide ((0 = 0) ∧ ((List.length p) = (List.length p))))
   (.test (decide ((0 = 0) ∧ ((List.length changed) = (List.length changed))))
    (.ret (Sum.inr (((), (x, (y, (nine, ((), eleven))))), (p, changed))))
    .fail)
   .fail))
noncomputable def l_FnTermsChanged_C55 (v : ((Int × Int × Unit × Bool × Unit × Int × Int × Bool × Unit × Bool) × (List (Int) × List (Int) × List (Int)))) : Option (Bool ⊕ ((Unit × Int × Int × Bool × Unit × Bool) × (List (Int) × List (Int)))) := (l_FnTermsChanged_C55_step v).run

def l_FnTermsChanged_fo : List FO := [⟨[(.one .sb)], []⟩]
noncomputable def l_FnTermsChanged_t : (List (Int) × List (Int)) → T Bool := fun (code, more) =>
  (.sub (l_big (code, more)) fun z0 =>
  (.test z0
  (.ret true)
  (.sub (s_DrawPutOne code) fun z1 =>
   (.test (decide ((0 + (List.length z1.2)) ≤ (List.length z1.2)))
   (.sub (i_PutOne ((win z1.2 0 (List.length z1.2)), z1.1.2)) fun z2 =>
    (.test (decide ((0 + (List.length z1.2)) ≤ (List.length z1.2)))
    (.sub (s_PutOne ((win z1.2 0 (List.length z1.2)), z1.1.2)) fun z3 =>
     (.test (! (z2.1.2 == z3.1.2))
     (.ret false)
     (.test (decide ((0 + (List.length z2.2)) ≤ (List.length z2.2)))
      (.test (decide ((0 + (List.length z3.2)) ≤ (List.length z3.2)))
       (.sub (l_dSame ((win z2.2 0 (List.length z2.2)), (win z3.2 0 (List.length z3.2)))) fun z4 =>
        (.test (! z4)
        (.ret false)
        (.test (decide ((0 = 0) ∧ ((List.length z1.2) = (List.length z1.2))))
         (.test (decide ((0 = 0) ∧ ((List.length z2.2) = (List.length z2.2))))
          (.sub (l_FnTermsChanged_C9 ((more, ((), (z1.1.2, ((), z2.1.2)))), (z1.2, z2.2))) fun z5 =>
           (.test (Sum.isLeft z5)
           (.sub (Sum.getLeft? z5) fun z6 =>
            (.ret z6))
           (.sub (Sum.getRight? z5) fun z7 =>
            (.sub (s_DrawTakeOne z7) fun z8 =>
            (.test (decide ((0 + (List.length z8.2)) ≤ (List.length z8.2)))
            (.sub (i_TakeOne ((win z8.2 0 (List.length z8.2)), z8.1.2)) fun z9 =>
             (.test (decide ((0 + (List.length z8.2)) ≤ (List.length z8.2)))
             (.sub (s_TakeOne ((win z8.2 0 (List.length z8.2)), z8.1.2)) fun z10 =>
              (.sub (s_DrawReduceOnes z7) fun z11 =>
              (.test (decide ((0 + (List.length z11.2)) ≤ (List.length z11.2)))
              (.sub (i_ReduceOnes (win z11.2 0 (List.length z11.2))) fun z12 =>
               (.test (decide ((0 + (List.length z11.2)) ≤ (List.length z11.2)))
               (.sub (s_ReduceOnes (win z11.2 0 (List.length z11.2))) fun z13 =>
                (.test (! (z9.1.2 == z10.1.2))
                (.ret false)
                (.test (decide ((0 + (List.length z9.2)) ≤ (List.length z9.2)))
                 (.test (decide ((0 + (List.length z10.2)) ≤ (List.length z10.2)))
                  (.sub (l_dSame ((win z9.2 0 (List.length z9.2)), (win z10.2 0 (List.length z10.2)))) fun z14 =>
                   (.test (! z14)
                   (.ret false)
                   (.test (! (z12.1.2 == z13.1.2))
                    (.ret false)
                    (.test (decide ((0 + (List.length z12.2)) ≤ (List.length z12.2)))
                     (.test (decide ((0 + (List.length z13.2)) ≤ (List.length z13.2)))
                      (.sub (l_dSame ((win z12.2 0 (List.length z12.2)), (win z13.2 0 (List.length z13.2)))) fun z15 =>
                       (.test (! z15)
                       (.ret false)
                       (.test (decide ((0 = 0) ∧ ((List.length z11.2) = (List.length z11.2))))
                        (.test (decide ((0 = 0) ∧ ((List.length z12.2) = (List.length z12.2))))
                         (.sub (l_FnTermsChanged_C23 ((z7, ((), ((), z12.1.2))), (z11.2, z12.2))) fun z16 =>
                          (.test (Sum.isLeft z16)
                          (.sub (Sum.getLeft? z16) fun z17 =>
                           (.ret z17))
                          (.sub (Sum.getRight? z16) fun z18 =>
                           (.sub (s_DrawMinusTerms z18) fun z19 =>
                           (.sub (i_MinusTerms (z19.1, z19.2)) fun z20 =>
                           (.sub (s_MinusTerms (z19.1, z19.2)) fun z21 =>
                           (.sub (i_PlusTerms (z19.1, z19.2)) fun z22 =>
                           (.sub (s_PlusTerms (z19.1, z19.2)) fun z23 =>
                           (.sub (s_DrawFractionOfPlus z18) fun z24 =>
                           (.test (decide ((0 + (List.length z24.2)) ≤ (List.length z24.2)))
                           (.sub (i_FractionOfPlus (win z24.2 0 (List.length z24.2))) fun z25 =>
                            (.test (decide ((0 + (List.length z24.2)) ≤ (List.length z24.2)))
                            (.sub (s_FractionOfPlus (win z24.2 0 (List.length z24.2))) fun z26 =>
                             (.test (decide ((0 + (List.length z24.2)) ≤ (List.length z24.2)))
                             (.sub (i_MinusOfPlus (win z24.2 0 (List.length z24.2))) fun z27 =>
                              (.test (decide ((0 + (List.length z24.2)) ≤ (List.length z24.2)))
                              (.sub (s_MinusOfPlus (win z24.2 0 (List.length z24.2))) fun z28 =>
                               (.test (! (z20.1.2 == z21.1.2))
                               (.ret false)
                               (.test (decide ((0 + (List.length z20.2)) ≤ (List.length z20.2)))
                                (.test (decide ((0 + (List.length z21.2)) ≤ (List.length z21.2)))
                                 (.sub (l_dSame ((win z20.2 0 (List.length z20.2)), (win z21.2 0 (List.length z21.2)))) fun z29 =>
                                  (.test (! z29)
                                  (.ret false)
                                  (.test (! (z22.1.2 == z23.1.2))
                                   (.ret false)
                                   (.test (decide ((0 + (List.length z22.2)) ≤ (List.length z22.2)))
                                    (.test (decide ((0 + (List.length z23.2)) ≤ (List.length z23.2)))
                                     (.sub (l_dSame ((win z22.2 0 (List.length z22.2)), (win z23.2 0 (List.length z23.2)))) fun z30 =>
                                      (.test (! z30)
                                      (.ret false)
                                      (.test (! (z25.2.2 == z26.2.2))
                                       (.ret false)
                                       (.test (z25.1 != z26.1)
                                        (.ret false)
                                        (.test (z25.2.1 != z26.2.1)
                                         (.ret false)
                                         (.test (! (z27.1.2 == z28.1.2))
                                          (.ret false)
                                          (.test (decide ((0 + (List.length z27.2)) ≤ (List.length z27.2)))
                                           (.test (decide ((0 + (List.length z28.2)) ≤ (List.length z28.2)))
                                            (.sub (l_dSame ((win z27.2 0 (List.length z27.2)), (win z28.2 0 (List.length z28.2)))) fun z31 =>
                                             (.test (! z31)
                                             (.ret false)
                                             (.test z27.1.2
                                              (.test (! z25.2.2)
                                               (.ret false)
                                               (.test (decide ((0 = 0) ∧ ((List.length z20.2) = (List.length z20.2))))
                                                (.test (decide ((0 = 0) ∧ ((List.length z22.2) = (List.length z22.2))))
                                                 (.test (decide ((0 = 0) ∧ ((List.length z24.2) = (List.length z24.2))))
                                                  (.test (decide ((0 = 0) ∧ ((List.length z27.2) = (List.length z27.2))))
                                                   (.sub (l_FnTermsChanged_C45 ((z19.1, (z19.2, ((), (z20.1.2, ((), (z22.1.2, ((), (z25.1, (z25.2.1, (z25.2.2, ((), z27.1.2))))))))))), (z20.2, (z22.2, (z24.2, z27.2))))) fun z32 =>
                                                    (.test (Sum.isLeft z32)
                                                    (.sub (Sum.getLeft? z32) fun z33 =>
                                                     (.ret z33))
                                                    (.sub (Sum.getRight? z32) fun z34 =>
                                                     (.test (decide ((0 = 0) ∧ ((List.length z34.2.1) = (List.length z34.2.1))))
                                                     (.test (decide ((0 = 0) ∧ ((List.length z34.2.2.1) = (List.length z34.2.2.1))))
                                                      (.test (decide ((0 = 0) ∧ ((List.length z34.2.2.2) = (List.length z34.2.2.2))))
                                                       (.sub (l_FnTermsChanged_C55 ((z34.1.1, (z34.1.2.1, ((), (z34.1.2.2.2.1, ((), (z34.1.2.2.2.2.2.1, (z34.1.2.2.2.2.2.2.1, (z34.1.2.2.2.2.2.2.2.1, ((), z34.1.2.2.2.2.2.2.2.2.2))))))))), (z34.2.1, (z34.2.2.1, z34.2.2.2)))) fun z35 =>
                                                        (.test (Sum.isLeft z35)
                                                        (.sub (Sum.getLeft? z35) fun z36 =>
                                                         (.ret z36))
                                                        (.sub (Sum.getRight? z35) fun z37 =>
                                                         (.test z37.1.2.2.2.1
                                                         (.test (decide ((0 + (List.length z37.2.1)) ≤ (List.length z37.2.1)))
                                                          (.sub (i_PlusContinuantOf (win z37.2.1 0 (List.length z37.2.1))) fun z38 =>
                                                           (.test true
                                                           (.test (decide ((1 ≤ (List.length z37.2.1)) ∧ ((List.length z37.2.1) ≤ (List.length z37.2.1))))
                                                            (.test (decide ((1 + ((List.length z37.2.1) - 1)) ≤ (List.length z37.2.1)))
                                                             (.sub (i_PlusContinuantOf (win z37.2.1 1 ((List.length z37.2.1) - 1))) fun z39 =>
                                                              (.test (! z38.2)
                                                              (.ret false)
                                                              (.test (z38.1 != z37.1.2.1)
                                                               (.ret false)
                                                               (.test (! z39.2)
                                                                (.ret false)
                                                                (.test (z39.1 != z37.1.2.2.1)
                                                                 (.ret false)
                                                                 (.test z37.1.2.2.2.2.2
                                                                  (.test (decide ((0 + (List.length z37.2.2)) ≤ (List.length z37.2.2)))
                                                                   (.sub (i_FractionOfMinus (win z37.2.2 0 (List.length z37.2.2))) fun z40 =>
                                                                    (.test z40.2.2
                                                                    (.test (z40.1 == z37.1.2.1)
                                                                     (.ret (z40.2.1 == z37.1.2.2.1))
                                                                     (.ret false))
                                                                    (.ret false)))
                                                                   .fail)
                                                                  (.ret true)))))))
                                                             .fail)
                                                            .fail)
                                                           .fail))
                                                          .fail)
                                                         (.test z37.1.2.2.2.2.2
                                                          (.test (decide ((0 + (List.length z37.2.2)) ≤ (List.length z37.2.2)))
                                                           (.sub (i_FractionOfMinus (win z37.2.2 0 (List.length z37.2.2))) fun z41 =>
                                                            (.test z41.2.2
                                                            (.test (z41.1 == z37.1.2.1)
                                                             (.ret (z41.2.1 == z37.1.2.2.1))
                                                             (.ret false))
                                                            (.ret false)))
                                                           .fail)
                                                          (.ret true))))))
                                                       .fail)
                                                      .fail)
                                                     .fail))))
                                                   .fail)
                                                  .fail)
                                                 .fail)
                                                .fail))
                                              (.test (decide ((0 = 0) ∧ ((List.length z20.2) = (List.length z20.2))))
                                               (.test (decide ((0 = 0) ∧ ((List.length z22.2) = (List.length z22.2))))
                                                (.test (decide ((0 = 0) ∧ ((List.length z24.2) = (List.length z24.2))))
                                                 (.test (decide ((0 = 0) ∧ ((List.length z27.2) = (List.length z27.2))))
                                                  (.sub (l_FnTermsChanged_C45 ((z19.1, (z19.2, ((), (z20.1.2, ((), (z22.1.2, ((), (z25.1, (z25.2.1, (z25.2.2, ((), z27.1.2))))))))))), (z20.2, (z22.2, (z24.2, z27.2))))) fun z42 =>
                                                   (.test (Sum.isLeft z42)
                                                   (.sub (Sum.getLeft? z42) fun z43 =>
                                                    (.ret z43))
                                                   (.sub (Sum.getRight? z42) fun z44 =>
                                                    (.test (decide ((0 = 0) ∧ ((List.length z44.2.1) = (List.length z44.2.1))))
                                                    (.test (decide ((0 = 0) ∧ ((List.length z44.2.2.1) = (List.length z44.2.2.1))))
                                                     (.test (decide ((0 = 0) ∧ ((List.length z44.2.2.2) = (List.length z44.2.2.2))))
                                                      (.sub (l_FnTermsChanged_C55 ((z44.1.1, (z44.1.2.1, ((), (z44.1.2.2.2.1, ((), (z44.1.2.2.2.2.2.1, (z44.1.2.2.2.2.2.2.1, (z44.1.2.2.2.2.2.2.2.1, ((), z44.1.2.2.2.2.2.2.2.2.2))))))))), (z44.2.1, (z44.2.2.1, z44.2.2.2)))) fun z45 =>
                                                       (.test (Sum.isLeft z45)
                                                       (.sub (Sum.getLeft? z45) fun z46 =>
                                                        (.ret z46))
                                                       (.sub (Sum.getRight? z45) fun z47 =>
                                                        (.test z47.1.2.2.2.1
                                                        (.test (decide ((0 + (List.length z47.2.1)) ≤ (List.length z47.2.1)))
                                                         (.sub (i_PlusContinuantOf (win z47.2.1 0 (List.length z47.2.1))) fun z48 =>
                                                          (.test true
                                                          (.test (decide ((1 ≤ (List.length z47.2.1)) ∧ ((List.length z47.2.1) ≤ (List.length z47.2.1))))
                                                           (.test (decide ((1 + ((List.length z47.2.1) - 1)) ≤ (List.length z47.2.1)))
                                                            (.sub (i_PlusContinuantOf (win z47.2.1 1 ((List.length z47.2.1) - 1))) fun z49 =>
                                                             (.test (! z48.2)
                                                             (.ret false)
                                                             (.test (z48.1 != z47.1.2.1)
                                                              (.ret false)
                                                              (.test (! z49.2)
                                                               (.ret false)
                                                               (.test (z49.1 != z47.1.2.2.1)
                                                                (.ret false)
                                                                (.test z47.1.2.2.2.2.2
                                                                 (.test (decide ((0 + (List.length z47.2.2)) ≤ (List.length z47.2.2)))
                                                                  (.sub (i_FractionOfMinus (win z47.2.2 0 (List.length z47.2.2))) fun z50 =>
                                                                   (.test z50.2.2
                                                                   (.test (z50.1 == z47.1.2.1)
                                                                    (.ret (z50.2.1 == z47.1.2.2.1))
                                                                    (.ret false))
                                                                   (.ret false)))
                                                                  .fail)
                                                                 (.ret true)))))))
                                                            .fail)
                                                           .fail)
                                                          .fail))
                                                         .fail)
                                                        (.test z47.1.2.2.2.2.2
                                                         (.test (decide ((0 + (List.length z47.2.2)) ≤ (List.length z47.2.2)))
                                                          (.sub (i_FractionOfMinus (win z47.2.2 0 (List.length z47.2.2))) fun z51 =>
                                                           (.test z51.2.2
                                                           (.test (z51.1 == z47.1.2.1)
                                                            (.ret (z51.2.1 == z47.1.2.2.1))
                                                            (.ret false))
                                                           (.ret false)))
                                                          .fail)
                                                         (.ret true))))))
                                                      .fail)
                                                     .fail)
                                                    .fail))))
                                                  .fail)
                                                 .fail)
                                                .fail)
                                               .fail))))
                                            .fail)
                                           .fail)))))))
                                     .fail)
                                    .fail))))
                                 .fail)
                                .fail)))
                              .fail))
                             .fail))
                            .fail))
                           .fail))))))))))
                         .fail)
                        .fail)))
                      .fail)
                     .fail))))
                  .fail)
                 .fail)))
               .fail))
              .fail)))
             .fail))
            .fail)))))
          .fail)
         .fail)))
       .fail)
      .fail)))
    .fail))
   .fail))))
noncomputable def l_FnTermsChanged (v : (List (Int) × List (Int))) : Option Bool := (l_FnTermsChanged_t v).run
noncomputable def l_FnTermsChanged_E : TEnv := ((((((((((((((((((((((((E0.add1 n_l_big l_big_sh l_big_fo l_big).add1 n_s_DrawPutOne s_DrawPutOne_sh s_DrawPutOne_fo s_DrawPutOne).add1 n_i_PutOne i_PutOne_sh i_PutOne_fo i_PutOne).add1 n_s_PutOne s_PutOne_sh s_PutOne_fo s_PutOne).add1 n_l_dSame l_dSame_sh l_dSame_fo l_dSame).add1 n_i_ContinuantOf i_ContinuantOf_sh i_ContinuantOf_fo i_ContinuantOf).add1 n_i_TakeOne i_TakeOne_sh i_TakeOne_fo i_TakeOne).add1 n_s_DrawTakeOne s_DrawTakeOne_sh s_DrawTakeOne_fo s_DrawTakeOne).add1 n_s_TakeOne s_TakeOne_sh s_TakeOne_fo s_TakeOne).add1 n_s_DrawReduceOnes s_DrawReduceOnes_sh s_DrawReduceOnes_fo s_DrawReduceOnes).add1 n_i_ReduceOnes i_ReduceOnes_sh i_ReduceOnes_fo i_ReduceOnes).add1 n_s_ReduceOnes s_ReduceOnes_sh s_ReduceOnes_fo s_ReduceOnes).add1 n_s_DrawMinusTerms s_DrawMinusTerms_sh s_DrawMinusTerms_fo s_DrawMinusTerms).add1 n_i_MinusTerms i_MinusTerms_sh i_MinusTerms_fo i_MinusTerms).add1 n_s_MinusTerms s_MinusTerms_sh s_MinusTerms_fo s_MinusTerms).add1 n_i_PlusTerms i_PlusTerms_sh i_PlusTerms_fo i_PlusTerms).add1 n_s_PlusTerms s_PlusTerms_sh s_PlusTerms_fo s_PlusTerms).add1 n_s_DrawFractionOfPlus s_DrawFractionOfPlus_sh s_DrawFractionOfPlus_fo s_DrawFractionOfPlus).add1 n_i_FractionOfPlus i_FractionOfPlus_sh i_FractionOfPlus_fo i_FractionOfPlus).add1 n_s_FractionOfPlus s_FractionOfPlus_sh s_FractionOfPlus_fo s_FractionOfPlus).add1 n_i_MinusOfPlus i_MinusOfPlus_sh i_MinusOfPlus_fo i_MinusOfPlus).add1 n_s_MinusOfPlus s_MinusOfPlus_sh s_MinusOfPlus_fo s_MinusOfPlus).add1 n_i_FractionOfMinus i_FractionOfMinus_sh i_FractionOfMinus_fo i_FractionOfMinus).add1 n_i_PlusContinuantOf i_PlusContinuantOf_sh i_PlusContinuantOf_fo i_PlusContinuantOf)
theorem l_FnTermsChanged_Eok : (l_FnTermsChanged_E).OK := ((((((((((((((((((((((((E0ok.add1 l_big_ok).add1 s_DrawPutOne_ok).add1 i_PutOne_ok).add1 s_PutOne_ok).add1 l_dSame_ok).add1 i_ContinuantOf_ok).add1 i_TakeOne_ok).add1 s_DrawTakeOne_ok).add1 s_TakeOne_ok).add1 s_DrawReduceOnes_ok).add1 i_ReduceOnes_ok).add1 s_ReduceOnes_ok).add1 s_DrawMinusTerms_ok).add1 i_MinusTerms_ok).add1 s_MinusTerms_ok).add1 i_PlusTerms_ok).add1 s_PlusTerms_ok).add1 s_DrawFractionOfPlus_ok).add1 i_FractionOfPlus_ok).add1 s_FractionOfPlus_ok).add1 i_MinusOfPlus_ok).add1 s_MinusOfPlus_ok).add1 i_FractionOfMinus_ok).add1 i_PlusContinuantOf_ok)
noncomputable def l_FnTermsChanged_told : Nat → Option SealT := fun id => if id = 1000009 then some (LSh.cut l_FnTermsChanged_C9_sh 0 [(1, none), (5, none), (6, none), (7, none), (8, none)] (l_FnTermsChanged_C9)) else if id = 28 then some (LSh.told l_FnTermsChanged_L28_sh 0 (l_FnTermsChanged_L28_step)) else if id = 1000023 then some (LSh.cut l_FnTermsChanged_C23_sh 0 [(1, none), (23, none), (24, none), (25, none)] (l_FnTermsChanged_C23)) else if id = 49 then some (LSh.told l_FnTermsChanged_L49_sh 0 (l_FnTermsChanged_L49_step)) else if id = 1000045 then some (LSh.cut l_FnTermsChanged_C45_sh 0 [(33, none), (34, none), (35, none), (36, none), (39, none), (40, none), (43, none), (44, none), (45, none), (46, none), (50, none), (51, none)] (l_FnTermsChanged_C45)) else if id = 1000055 then some (LSh.cut l_FnTermsChanged_C55_sh 0 [(33, none), (34, none), (39, none), (40, none), (43, none), (44, none), (45, none), (46, none), (50, none), (51, none)] (l_FnTermsChanged_C55)) else none
theorem l_FnTermsChanged_C9_ok : CutOK Try.prog 0 (cutAt (loopAt (bodyOf fn_l_FnTermsChanged) []) 10) (LSh.cut l_FnTermsChanged_C9_sh 0 [(1, none), (5, none), (6, none), (7, none), (8, none)] (l_FnTermsChanged_C9)) :=
  cut_ok (E := l_FnTermsChanged_E) (l_FnTermsChanged_Eok) (told := l_FnTermsChanged_told) (l := l_FnTermsChanged_C9_sh) (head := [(1, none), (5, none), (6, none), (7, none), (8, none)]) (F := l_FnTermsChanged_C9_step) (loopsOK_of2 (ls := []) (cs := [cutAt (loopAt (bodyOf fn_l_FnTermsChanged) []) 11, cutAt (loopAt (bodyOf fn_l_FnTermsChanged) []) 12, cutAt (loopAt (bodyOf fn_l_FnTermsChanged) []) 13, cutAt (loopAt (bodyOf fn_l_FnTermsChanged) []) 14, cutAt (loopAt (bodyOf fn_l_FnTermsChanged) []) 15, cutAt (loopAt (bodyOf fn_l_FnTermsChanged) []) 16]) (by kernel_rfl) trivial (by kernel_rfl) ⟨.inl (by kernel_rfl), ⟨.inl (by kernel_rfl), ⟨.inl (by kernel_rfl), ⟨.inl (by kernel_rfl), ⟨.inl (by kernel_rfl), ⟨.inl (by kernel_rfl), trivial⟩⟩⟩⟩⟩⟩) (fun v => by kernel_rfl)
theorem l_FnTermsChanged_L28_ok : ToldOK Try.prog 0 (loopAt (bodyOf fn_l_FnTermsChanged) [0]) (LSh.told l_FnTermsChanged_L28_sh 0 (l_FnTermsChanged_L28_step)) :=
  loop_ok (E := l_FnTermsChanged_E) (l_FnTermsChanged_Eok) (told := l_FnTermsChanged_told) (l := l_FnTermsChanged_L28_sh) (step := l_FnTermsChanged_L28_step) (loopsOK_of2 (ls := []) (cs := [cutAt (loopAt (bodyOf fn_l_FnTermsChanged) [0]) 0, cutAt (loopAt (bodyOf fn_l_FnTermsChanged) [0]) 1, cutAt (loopAt (bodyOf fn_l_FnTermsChanged) [0]) 2, cutAt (loopAt (bodyOf fn_l_FnTermsChanged) [0]) 3]) (by kernel_rfl) trivial (by kernel_rfl) ⟨.inl (by kernel_rfl), ⟨.inl (by kernel_rfl), ⟨.inl (by kernel_rfl), ⟨.inl (by kernel_rfl), trivial⟩⟩⟩⟩) (by kernel_rfl) (fun v => by kernel_rfl)
theorem l_FnTermsChanged_C23_ok : CutOK Try.prog 0 (cutAt (loopAt (bodyOf fn_l_FnTermsChanged) []) 26) (LSh.cut l_FnTermsChanged_C23_sh 0 [(1, none), (23, none), (24, none), (25, none)] (l_FnTermsChanged_C23)) :=
  cut_ok (E := l_FnTermsChanged_E) (l_FnTermsChanged_Eok) (told := l_FnTermsChanged_told) (l := l_FnTermsChanged_C23_sh) (head := [(1, none), (23, none), (24, none), (25, none)]) (F := l_FnTermsChanged_C23_step) (loopsOK_of2 (ls := [loopAt (bodyOf fn_l_FnTermsChanged) [0]]) (cs := [cutAt (loopAt (bodyOf fn_l_FnTermsChanged) []) 27, cutAt (loopAt (bodyOf fn_l_FnTermsChanged) []) 28, cutAt (loopAt (bodyOf fn_l_FnTermsChanged) []) 29, cutAt (loopAt (bodyOf fn_l_FnTermsChanged) []) 30, cutAt (loopAt (bodyOf fn_l_FnTermsChanged) []) 31, cutAt (loopAt (bodyOf fn_l_FnTermsChanged) []) 32, cutAt (loopAt (bodyOf fn_l_FnTermsChanged) []) 33]) (by kernel_rfl) ⟨.inr ⟨_, by kernel_rfl, l_FnTermsChanged_L28_ok⟩, trivial⟩ (by kernel_rfl) ⟨.inl (by kernel_rfl), ⟨.inl (by kernel_rfl), ⟨.inl (by kernel_rfl), ⟨.inl (by kernel_rfl), ⟨.inl (by kernel_rfl), ⟨.inl (by kernel_rfl), ⟨.inl (by kernel_rfl), trivial⟩⟩⟩⟩⟩⟩⟩) (fun v => by kernel_rfl)
theorem l_FnTermsChanged_L49_ok : ToldOK Try.prog 0 (loopAt (bodyOf fn_l_FnTermsChanged) [1]) (LSh.told l_FnTermsChanged_L49_sh 0 (l_FnTermsChanged_L49_step)) :=
  loop_ok (E := l_FnTermsChanged_E) (l_FnTermsChanged_Eok) (told := l_FnTermsChanged_told) (l := l_FnTermsChanged_L49_sh) (step := l_FnTermsChanged_L49_step) (loopsOK_of2 (ls := []) (cs := [cutAt (loopAt (bodyOf fn_l_FnTermsChanged) [1]) 0, cutAt (loopAt (bodyOf fn_l_FnTermsChanged) [1]) 1, cutAt (loopAt (bodyOf fn_l_FnTermsChanged) [1]) 2, cutAt (loopAt (bodyOf fn_l_FnTermsChanged) [1]) 3, cutAt (loopAt (bodyOf fn_l_FnTermsChanged) [1]) 4]) (by kernel_rfl) trivial (by kernel_rfl) ⟨.inl (by kernel_rfl), ⟨.inl (by kernel_rfl), ⟨.inl (by kernel_rfl), ⟨.inl (by kernel_rfl), ⟨.inl (by kernel_rfl), trivial⟩⟩⟩⟩⟩) (by kernel_rfl) (fun v => by kernel_rfl)
theorem l_FnTermsChanged_C45_ok : CutOK Try.prog 0 (cutAt (loopAt (bodyOf fn_l_FnTermsChanged) []) 47) (LSh.cut l_FnTermsChanged_C45_sh 0 [(33, none), (34, none), (35, none), (36, none), (39, none), (40, none), (43, none), (44, none), (45, none), (46, none), (50, none), (51, none)] (l_FnTermsChanged_C45)) :=
  cut_ok (E := l_FnTermsChanged_E) (l_FnTermsChanged_Eok) (told := l_FnTermsChanged_told) (l := l_FnTermsChanged_C45_sh) (head := [(33, none), (34, none), (35, none), (36, none), (39, none), (40, none), (43, none), (44, none), (45, none), (46, none), (50, none), (51, none)]) (F := l_FnTermsChanged_C45_step) (loopsOK_of2 (ls := [loopAt (bodyOf fn_l_FnTermsChanged) [1]]) (cs := [cutAt (loopAt (bodyOf fn_l_FnTermsChanged) []) 48, cutAt (loopAt (bodyOf fn_l_FnTermsChanged) []) 49, cutAt (loopAt (bodyOf fn_l_FnTermsChanged) []) 50, cutAt (loopAt (bodyOf fn_l_FnTermsChanged) []) 51, cutAt (loopAt (bodyOf fn_l_FnTermsChanged) []) 52, cutAt (loopAt (bodyOf fn_l_FnTermsChanged) []) 53]) (by kernel_rfl) ⟨.inr ⟨_, by kernel_rfl, l_FnTermsChanged_L49_ok⟩, trivial⟩ (by kernel_rfl) ⟨.inl (by kernel_rfl), ⟨.inl (by kernel_rfl), ⟨.inl (by kernel_rfl), ⟨.inl (by kernel_rfl), ⟨.inl (by kernel_rfl), ⟨.inl (by kernel_rfl), trivial⟩⟩⟩⟩⟩⟩) (fun v => by kernel_rfl)
theorem l_FnTermsChanged_C55_ok : CutOK Try.prog 0 (cutAt (loopAt (bodyOf fn_l_FnTermsChanged) []) 54) (LSh.cut l_FnTermsChanged_C55_sh 0 [(33, none), (34, none), (39, none), (40, none), (43, none), (44, none), (45, none), (46, none), (50, none), (51, none)] (l_FnTermsChanged_C55)) :=
  cut_ok (E := l_FnTermsChanged_E) (l_FnTermsChanged_Eok) (told := l_FnTermsChanged_told) (l := l_FnTermsChanged_C55_sh) (head := [(33, none), (34, none), (39, none), (40, none), (43, none), (44, none), (45, none), (46, none), (50, none), (51, none)]) (F := l_FnTermsChanged_C55_step) (loopsOK_of2 (ls := []) (cs := [cutAt (loopAt (bodyOf fn_l_FnTermsChanged) []) 55, cutAt (loopAt (bodyOf fn_l_FnTermsChanged) []) 56, cutAt (loopAt (bodyOf fn_l_FnTermsChanged) []) 57, cutAt (loopAt (bodyOf fn_l_FnTermsChanged) []) 58]) (by kernel_rfl) trivial (by kernel_rfl) ⟨.inl (by kernel_rfl), ⟨.inl (by kernel_rfl), ⟨.inl (by kernel_rfl), ⟨.inl (by kernel_rfl), trivial⟩⟩⟩⟩) (fun v => by kernel_rfl)
theorem l_FnTermsChanged_ok : FOK Try.prog n_l_FnTermsChanged l_FnTermsChanged_sh l_FnTermsChanged_fo l_FnTermsChanged :=
  fn_ok (E := l_FnTermsChanged_E) (l_FnTermsChanged_Eok) (told := l_FnTermsChanged_told) (fl := []) (c := bodyOf fn_l_FnTermsChanged) (s := l_FnTermsChanged_sh) (l := l_FnTermsChanged_fo) (tree := l_FnTermsChanged_t) fnat_l_FnTermsChanged (by kernel_rfl) (by kernel_rfl) (by kernel_rfl) (loopsOK_of2 (ls := [loopAt (bodyOf fn_l_FnTermsChanged) [0], loopAt (bodyOf fn_l_FnTermsChanged) [1]]) (cs := [cutAt (loopAt (bodyOf fn_l_FnTermsChanged) []) 0, cutAt (loopAt (bodyOf fn_l_FnTermsChanged) []) 1, cutAt (loopAt (bodyOf fn_l_FnTermsChanged) []) 2, cutAt (loopAt (bodyOf fn_l_FnTermsChanged) []) 3, cutAt (loopAt (bodyOf fn_l_FnTermsChanged) []) 4, cutAt (loopAt (bodyOf fn_l_FnTermsChanged) []) 5, cutAt (loopAt (bodyOf fn_l_FnTermsChanged) []) 6, cutAt (loopAt (bodyOf fn_l_FnTermsChanged) []) 7, cutAt (loopAt (bodyOf fn_l_FnTermsChanged) []) 8, cutAt (loopAt (bodyOf fn_l_FnTermsChanged) []) 9, cutAt (loopAt (bodyOf fn_l_FnTermsChanged) []) 10, cutAt (loopAt (bodyOf fn_l_FnTermsChanged) []) 11, cutAt (loopAt (bodyOf fn_l_FnTermsChanged) []) 12, cutAt (loopAt (bodyOf fn_l_FnTermsChanged) []) 13, cutAt (loopAt (bodyOf fn_l_FnTermsChanged) []) 14, cutAt (loopAt (bodyOf fn_l_FnTermsChanged) []) 15, cutAt (loopAt (bodyOf fn_l_FnTermsChanged) []) 16, cutAt (loopAt (bodyOf fn_l_FnTermsChanged) []) 17, cutAt (loopAt (bodyOf fn_l_FnTermsChanged) []) 18, cutAt (loopAt (bodyOf fn_l_FnTermsChanged) []) 19, cutAt (loopAt (bodyOf fn_l_FnTermsChanged) []) 20, cutAt (loopAt (bodyOf fn_l_FnTermsChanged) []) 21, cutAt (loopAt (bodyOf fn_l_FnTermsChanged) []) 22, cutAt (loopAt (bodyOf fn_l_FnTermsChanged) []) 23, cutAt (loopAt (bodyOf fn_l_FnTermsChanged) []) 24, cutAt (loopAt (bodyOf fn_l_FnTermsChanged) []) 25, cutAt (loopAt (bodyOf fn_l_FnTermsChanged) []) 26, cutAt (loopAt (bodyOf fn_l_FnTermsChanged) []) 27, cutAt (loopAt (bodyOf fn_l_FnTermsChanged) []) 28, cutAt (loopAt (bodyOf fn_l_FnTermsChanged) []) 29, cutAt (loopAt (bodyOf fn_l_FnTermsChanged) []) 30, cutAt (loopAt (bodyOf fn_l_FnTermsChanged) []) 31, cutAt (loopAt (bodyOf fn_l_FnTermsChanged) []) 32, cutAt (loopAt (bodyOf fn_l_FnTermsChanged) []) 33, cutAt (loopAt (bodyOf fn_l_FnTermsChanged) []) 34, cutAt (loopAt (bodyOf fn_l_FnTermsChanged) []) 35, cutAt (loopAt (bodyOf fn_l_FnTermsChanged) []) 36, cutAt (loopAt (bodyOf fn_l_FnTermsChanged) []) 37, cutAt (loopAt (bodyOf fn_l_FnTermsChanged) []) 38, cutAt (loopAt (bodyOf fn_l_FnTermsChanged) []) 39, cutAt (loopAt (bodyOf fn_l_FnTermsChanged) []) 40, cutAt (loopAt (bodyOf fn_l_FnTermsChanged) []) 41, cutAt (loopAt (bodyOf fn_l_FnTermsChanged) []) 42, cutAt (loopAt (bodyOf fn_l_FnTermsChanged) []) 43, cutAt (loopAt (bodyOf fn_l_FnTermsChanged) []) 44, cutAt (loopAt (bodyOf fn_l_FnTermsChanged) []) 45, cutAt (loopAt (bodyOf fn_l_FnTermsChanged) []) 46, cutAt (loopAt (bodyOf fn_l_FnTermsChanged) []) 47, cutAt (loopAt (bodyOf fn_l_FnTermsChanged) []) 48, cutAt (loopAt (bodyOf fn_l_FnTermsChanged) []) 49, cutAt (loopAt (bodyOf fn_l_FnTermsChanged) []) 50, cutAt (loopAt (bodyOf fn_l_FnTermsChanged) []) 51, cutAt (loopAt (bodyOf fn_l_FnTermsChanged) []) 52, cutAt (loopAt (bodyOf fn_l_FnTermsChanged) []) 53, cutAt (loopAt (bodyOf fn_l_FnTermsChanged) []) 54, cutAt (loopAt (bodyOf fn_l_FnTermsChanged) []) 55, cutAt (loopAt (bodyOf fn_l_FnTermsChanged) []) 56, cutAt (loopAt (bodyOf fn_l_FnTermsChanged) []) 57, cutAt (loopAt (bodyOf fn_l_FnTermsChanged) []) 58, cutAt (loopAt (bodyOf fn_l_FnTermsChanged) []) 59, cutAt (loopAt (bodyOf fn_l_FnTermsChanged) []) 60, cutAt (loopAt (bodyOf fn_l_FnTermsChanged) []) 61, cutAt (loopAt (bodyOf fn_l_FnTermsChanged) []) 62, cutAt (loopAt (bodyOf fn_l_FnTermsChanged) []) 63, cutAt (loopAt (bodyOf fn_l_FnTermsChanged) []) 64, cutAt (loopAt (bodyOf fn_l_FnTermsChanged) []) 65, cutAt (loopAt (bodyOf fn_l_FnTermsChanged) []) 66, cutAt (loopAt (bodyOf fn_l_FnTermsChanged) []) 67, cutAt (loopAt (bodyOf fn_l_FnTermsChanged) []) 68, cutAt (loopAt (bodyOf fn_l_FnTermsChanged) []) 69]) (by kernel_rfl) ⟨.inr ⟨_, by kernel_rfl, l_FnTermsChanged_L28_ok⟩, ⟨.inr ⟨_, by kernel_rfl, l_FnTermsChanged_L49_ok⟩, trivial⟩⟩ (by kernel_rfl) ⟨.inl (by kernel_rfl), ⟨.inl (by kernel_rfl), ⟨.inl (by kernel_rfl), ⟨.inl (by kernel_rfl), ⟨.inl (by kernel_rfl), ⟨.inl (by kernel_rfl), ⟨.inl (by kernel_rfl), ⟨.inl (by kernel_rfl), ⟨.inl (by kernel_rfl), ⟨.inl (by kernel_rfl), ⟨.inr ⟨_, by kernel_rfl, l_FnTermsChanged_C9_ok⟩, ⟨.inl (by kernel_rfl), ⟨.inl (by kernel_rfl), ⟨.inl (by kernel_rfl), ⟨.inl (by kernel_rfl), ⟨.inl (by kernel_rfl), ⟨.inl (by kernel_rfl), ⟨.inl (by kernel_rfl), ⟨.inl (by kernel_rfl), ⟨.inl (by kernel_rfl), ⟨.inl (by kernel_rfl), ⟨.inl (by kernel_rfl), ⟨.inl (by kernel_rfl), ⟨.inl (by kernel_rfl), ⟨.inl (by kernel_rfl), ⟨.inl (by kernel_rfl), ⟨.inr ⟨_, by kernel_rfl, l_FnTermsChanged_C23_ok⟩, ⟨.inl (by kernel_rfl), ⟨.inl (by kernel_rfl), ⟨.inl (by kernel_rfl), ⟨.inl (by kernel_rfl), ⟨.inl (by kernel_rfl), ⟨.inl (by kernel_rfl), ⟨.inl (by kernel_rfl), ⟨.inl (by kernel_rfl), ⟨.inl (by kernel_rfl), ⟨.inl (by kernel_rfl), ⟨.inl (by kernel_rfl), ⟨.inl (by kernel_rfl), ⟨.inl (by kernel_rfl), ⟨.inl (by kernel_rfl), ⟨.inl (by kernel_rfl), ⟨.inl (by kernel_rfl), ⟨.inl (by kernel_rfl), ⟨.inl (by kernel_rfl), ⟨.inl (by kernel_rfl), ⟨.inl (by kernel_rfl), ⟨.inr ⟨_, by kernel_rfl, l_FnTermsChanged_C45_ok⟩, ⟨.inl (by kernel_rfl), ⟨.inl (by kernel_rfl), ⟨.inl (by kernel_rfl), ⟨.inl (by kernel_rfl), ⟨.inl (by kernel_rfl), ⟨.inl (by kernel_rfl), ⟨.inr ⟨_, by kernel_rfl, l_FnTermsChanged_C55_ok⟩, ⟨.inl (by kernel_rfl), ⟨.inl (by kernel_rfl), ⟨.inl (by kernel_rfl), ⟨.inl (by kernel_rfl), ⟨.inl (by kernel_rfl), ⟨.inl (by kernel_rfl), ⟨.inl (by kernel_rfl), ⟨.inl (by kernel_rfl), ⟨.inl (by kernel_rfl), ⟨.inl (by kernel_rfl), ⟨.inl (by kernel_rfl), ⟨.inl (by kernel_rfl), ⟨.inl (by kernel_rfl), ⟨.inl (by kernel_rfl), ⟨.inl (by kernel_rfl), trivial⟩⟩⟩⟩⟩⟩⟩⟩⟩⟩⟩⟩⟩⟩⟩⟩⟩⟩⟩⟩⟩⟩⟩⟩⟩⟩⟩⟩⟩⟩⟩⟩⟩⟩⟩⟩⟩⟩⟩⟩⟩⟩⟩⟩⟩⟩⟩⟩⟩⟩⟩⟩⟩⟩⟩⟩⟩⟩⟩⟩⟩⟩⟩⟩⟩⟩⟩⟩⟩⟩) (fun v => by kernel_rfl)

theorem l_FnTermsChanged_C9_eq (more : List Int) (at' : Int) (list : List Int) (hl : list.length ≤ 50) (r : Bool × List Int) (h : i_PutOne (list, at') = some (((), r.1), r.2)) :
    l_FnTermsChanged_C9 ((more, ((), (at', ((), r.1)))), (list, r.2)) = some (.inr more) := by
  rw [l_FnTermsChanged_C9, l_FnTermsChanged_C9_step, T.run_test]
  cases hr : r.1 with
  | false => simp [T.run]
  | true =>
    obtain ⟨L, x, y, R, rfl, rfl, ht, ht2, hp⟩ := PutOne_val list at' (by omega) r h hr
    have h10 := (isTerms_iff.1 ht2).1
    have hc1 := ContinuantOf_val (L ++ x :: y :: R) (by omega)
    have hc2 := ContinuantOf_val r.2 (by omega)
    rw [ht, if_pos rfl] at hc1
    rw [ht2, if_pos rfl, hp, ← cont_kr, cont_put, cont_kr] at hc2
    have htk := TakeOne_put L R x y ht (by rw [← hp]; exact ht2)
    have hd := dSame_val (L ++ x :: y :: R) (L ++ x :: y :: R) (by omega)
    have hlen : (L ++ (x + 1) :: 1 :: (y + 1) :: R).length = L.length + R.length + 3 := by simp; omega
    have c0 : (0 : Int) ≤ (L.length : Int) + 1 ∧ (L.length : Int) + 1 < ((L ++ (x + 1) :: 1 :: (y + 1) :: R).length : Int) := by omega
    have t1 : ((L.length : Int) + 1).toNat = L.length + 1 := by omega
    rw [hp]
    simp only [T.run_test, T.run_sub, T.run_ret, T.run_fail, Nat.zero_add, Nat.le_refl, decide_true, if_true, win_all, hc1, hc2, htk, hd, Option.bind_some, Bool.not_true, Bool.false_eq_true, if_false, bne_self_eq_false, c0, and_self, t1, at_get1]
theorem l_FnTermsChanged_L28_eq (more : List Int) (l : List Int) (hl : l.length ≤ 10) (h : ∀ t, 1 ≤ t → t + 1 < l.length → l[t]? ≠ some 1) :
    ∀ (m i : Nat), 1 ≤ i → i + m = l.length + 1 → l_FnTermsChanged_L28 ((more, ((), (i : Int))), l) = some (.inr more) := by
  intro m
  induction m with
  | zero =>
    intro i h1 hi
    have c : ¬ (w64 ((i : Int) + 1) < (l.length : Int)) := by rw [w64_id (by omega) (by omega)]; omega
    simp only [l_FnTermsChanged_L28]
    exact loopO_done (by simp [l_FnTermsChanged_L28_step, T.run, c])
  | succ m ih =>
    intro i h1 hi
    have w1 : w64 ((i : Int) + 1) = ((i + 1 : Nat) : Int) := by rw [w64_id (by omega) (by omega)]; omega
    simp only [l_FnTermsChanged_L28] at ih ⊢
    by_cases c : i + 1 < l.length
    · have c0 : ((i + 1 : Nat) : Int) < (l.length : Int) := by omega
      have c1 : (0 : Int) ≤ (i : Int) ∧ (i : Int) < (l.length : Int) := by omega
      have hn := h i h1 c
      rw [List.getElem?_eq_getElem (by omega)] at hn
      have hb : (l[i] == 1) = false := by rw [beq_eq_false_iff_ne]; exact fun e => hn (by rw [e])
      rw [← ih (i + 1) (by omega) (by omega)]
      refine loopO_next ?_
      simp only [l_FnTermsChanged_L28_step, T.run, w1, c0, c1, decide_true, if_true, and_self, Nat.zero_add, Int.toNat_natCast, List.getElem?_eq_getElem (show i < l.length by omega), Option.bind_some, hb, Bool.false_eq_true, if_false]
    · have c0 : ¬ (((i + 1 : Nat) : Int) < (l.length : Int)) := by omega
      exact loopO_done (by simp only [l_FnTermsChanged_L28_step, T.run, w1, c0, decide_false, Bool.false_eq_true, if_false])
theorem l_FnTermsChanged_C23_eq (more : List Int) (list : List Int) (hl : list.length ≤ 50) (r : Bool × List Int) (h : i_ReduceOnes list = some (((), r.1), r.2)) :
    l_FnTermsChanged_C23 ((more, ((), ((), r.1))), (list, r.2)) = some (.inr more) := by
  rw [l_FnTermsChanged_C23, l_FnTermsChanged_C23_step, T.run_test]
  cases hr : r.1 with
  | false => simp [T.run]
  | true =>
    obtain ⟨ht, ht2, hc, hle, hn⟩ := ReduceOnes_val list (by omega) r h hr
    have h10 := (isTerms_iff.1 ht2).1
    have hc1 := ContinuantOf_val list (by omega)
    have hc2 := ContinuantOf_val r.2 (by omega)
    rw [ht, if_pos rfl] at hc1
    rw [ht2, if_pos rfl, ← cont_kr, hc, cont_kr] at hc2
    have h28 := l_FnTermsChanged_L28_eq more r.2 h10 hn r.2.length 1 (Nat.le_refl _) (by omega)
    have c0 : ¬ ((r.2.length : Int) > (list.length : Int)) := by omega
    rw [Int.natCast_one] at h28
    simp only [T.run_test, T.run_sub, T.run_ret, T.run_fail, Nat.zero_add, Nat.le_refl, decide_true, if_true, win_all, hc1, hc2, Option.bind_some, Bool.not_true, Bool.false_eq_true, if_false, bne_self_eq_false, c0, decide_false, and_self, h28]
    simp
theorem l_FnTermsChanged_L49_eq (num den : Int) (seven : Bool) (x y : Int) (nine eleven : Bool) (plus p changed minus : List Int) (hl : minus.length ≤ 10) (h : ∀ z ∈ minus.tail, 2 ≤ z) :
    ∀ (m i : Nat), i + m = minus.length - 1 → l_FnTermsChanged_L49 ((num, (den, ((), (seven, ((), (x, (y, (nine, ((), (eleven, ((1, minus.length - 1), (((minus.length - 1 : Nat) : Int), (i : Int))))))))))))), (plus, (p, (changed, minus)))) =
      some (.inr ((num, (den, ((), (seven, ((), (x, (y, (nine, ((), eleven))))))))), (plus, (p, changed)))) := by
  intro m
  induction m with
  | zero =>
    intro i hi
    have c : ¬ ((i : Int) < ((minus.length - 1 : Nat) : Int)) := by omega
    simp only [l_FnTermsChanged_L49]
    exact loopO_done (by simp only [l_FnTermsChanged_L49_step, T.run, c, decide_false, Bool.false_eq_true, if_false, and_self, decide_true, if_true])
  | succ m ih =>
    intro i hi
    have w1 : w64 ((i : Int) + 1) = ((i + 1 : Nat) : Int) := by rw [w64_id (by omega) (by omega)]; omega
    have c0 : (i : Int) < ((minus.length - 1 : Nat) : Int) := by omega
    have c1 : (0 : Int) ≤ (i : Int) ∧ (i : Int) < ((minus.length - 1 : Nat) : Int) := by omega
    have hlt : 1 + i < minus.length := by omega
    have h2 : ¬ (minus[1 + i] < 2) := by
      have : minus[1 + i] ∈ minus.tail := by
        rw [← List.drop_one]
        exact List.mem_of_getElem? (i := i) (by rw [List.getElem?_drop, List.getElem?_eq_getElem hlt])
      have := h _ this
      omega
    simp only [l_FnTermsChanged_L49] at ih ⊢
    rw [← ih (i + 1) (by omega)]
    refine loopO_next ?_
    simp only [l_FnTermsChanged_L49_step, T.run, w1, c0, c1, decide_true, if_true, and_self, Int.toNat_natCast, List.getElem?_eq_getElem hlt, Option.bind_some, h2, decide_false, Bool.false_eq_true, if_false]
theorem l_FnTermsChanged_C45_eq (num den : Int) (five seven : Bool) (x y : Int) (nine eleven : Bool) (minus plus p changed : List Int) (h : five = true → isTerms minus = true ∧ 1 ≤ den ∧ MinusOf num den minus) :
    l_FnTermsChanged_C45 ((num, (den, ((), (five, ((), (seven, ((), (x, (y, (nine, ((), eleven))))))))))), (minus, (plus, (p, changed)))) = some (.inr ((num, (den, ((), (seven, ((), (x, (y, (nine, ((), eleven))))))))), (plus, (p, changed)))) := by
  rw [l_FnTermsChanged_C45, l_FnTermsChanged_C45_step, T.run_test]
  cases five with
  | false => simp [T.run]
  | true =>
    obtain ⟨ht, hd, hm⟩ := h rfl
    have h10 := (isTerms_iff.1 ht).1
    have hf := FractionOfMinus_val (by omega) ht hm
    have h49 := l_FnTermsChanged_L49_eq num den seven x y nine eleven plus p changed minus h10 hm.two (minus.length - 1) 0 (by omega)
    rw [Int.natCast_zero] at h49
    obtain ⟨a, t, rfl⟩ : ∃ a t, minus = a :: t := by
      cases minus with
      | nil => exact absurd rfl hm.ne
      | cons a t => exact ⟨a, t, rfl⟩
    have ha : ¬ (a < 1) := by have := hm.one a rfl; omega
    have c0 : (0 : Int) < ((a :: t).length : Int) := by rw [List.length_cons]; omega
    have c1 : 1 ≤ (a :: t).length ∧ (a :: t).length ≤ (a :: t).length := by rw [List.length_cons]; omega
    rw [if_pos rfl, T.run_test, if_pos (by simp), T.run_sub, win_all, hf, Option.bind_some, T.run_test, if_neg (by simp), T.run_test, if_neg (by simp), T.run_test, if_neg (by simp), T.run_test, if_pos (decide_eq_true ⟨Int.le_refl _, c0⟩), T.run_sub, List.getElem?_cons_zero, Option.bind_some, T.run_test, if_neg (by rw [decide_eq_true_eq]; exact ha), T.run_test, if_pos rfl, T.run_test, if_pos (decide_eq_true c1), T.run_test, if_pos (by simp), T.run_test, if_pos (by simp), T.run_test, if_pos (by simp), T.run_sub, h49, Option.bind_some]
    simp [T.run]
theorem l_FnTermsChanged_C55_eq (num den : Int) (seven : Bool) (x y : Int) (nine eleven : Bool) (plus p changed : List Int) (h : seven = true → isTerms plus = true ∧ 1 ≤ den ∧ den ≤ num ∧ cop num den ∧ PlusOf num den plus) :
    l_FnTermsChanged_C55 ((num, (den, ((), (seven, ((), (x, (y, (nine, ((), eleven))))))))), (plus, (p, changed))) = some (.inr (((), (x, (y, (nine, ((), eleven))))), (p, changed))) := by
  rw [l_FnTermsChanged_C55, l_FnTermsChanged_C55_step, T.run_test]
  cases seven with
  | false => simp [T.run]
  | true =>
    obtain ⟨ht, hd, hdn, hc, hm⟩ := h rfl
    have ht' := isTerms_iff.1 ht
    have hpos : posT plus = true := by
      simp only [posT, Bool.and_eq_true, decide_eq_true_eq, List.all_eq_true, inB_iff]
      exact ⟨ht, hm.ne, fun z hz => ⟨hm.pos hdn z hz, (ht'.2 z hz).2⟩⟩
    have hf := FractionOfPlus_val plus (by omega)
    rw [hpos, if_pos rfl, hm.k, hm.t] at hf
    rw [if_pos rfl, T.run_test, if_pos (by simp), T.run_sub, win_all, hf, Option.bind_some, T.run_test, if_neg (by simp), T.run_test, if_neg (by simp), T.run_test, if_neg (by simp), T.run_test]
    by_cases h1 : (plus.length : Int) > 1
    · have w1 : w64 ((plus.length : Int) - 1) = ((plus.length - 1 : Nat) : Int) := by rw [w64_id (by omega) (by omega)]; omega
      have hlt : plus.length - 1 < plus.length := by omega
      have c0 : (0 : Int) ≤ ((plus.length - 1 : Nat) : Int) ∧ ((plus.length - 1 : Nat) : Int) < (plus.length : Int) := by omega
      have hne : den ≠ num := by
        intro e
        have hd1 : den = 1 := hc den (by omega) (by rw [e]; exact Int.dvd_refl _) (Int.dvd_refl _)
        -- one over one has one term
        have hk := hm.k
        have htt := hm.t
        match plus, h1, hm, hk, htt with
        | a :: b :: t, _, hm, hk, htt =>
          rw [kr_cons] at hk
          rw [kt_cons] at htt
          have hp1 := kr_one t fun z hz => hm.pos hdn z (by simp [hz])
          have hb : 1 ≤ b := hm.pos hdn b (by simp)
          have ha : 1 ≤ a := hm.pos hdn a (by simp)
          have hkt : kt 1 (b :: t) = kr 1 t := rfl
          rw [htt, hkt, hd1] at hk
          omega
      have hl2 := hm.far (by omega) (plus[plus.length - 1]) (by rw [List.getLast?_eq_getElem?, List.getElem?_eq_getElem hlt]; rfl)
      rw [if_pos (decide_eq_true h1), T.run_test, w1, if_pos (decide_eq_true c0), T.run_sub, Nat.zero_add, Int.toNat_natCast, List.getElem?_eq_getElem hlt, Option.bind_some, T.run_test, if_neg (by rw [decide_eq_true_eq]; omega), T.run_test, if_pos (by simp), T.run_test, if_pos (by simp), T.run_ret]
    · rw [if_neg (by rw [decide_eq_true_eq]; exact h1), T.run_test, if_pos (by simp), T.run_test, if_pos (by simp), T.run_ret]
theorem l_FnTermsChanged_big (code more : List Int) : ∃ b, l_big (code, more) = some b := by
  rw [l_big, l_big_t, T.run_test]
  split
  · exact ⟨_, rfl⟩
  · exact ⟨_, rfl⟩
theorem l_FnTermsChanged_frac (l : List Int) (hl : l.length < 4611686018427387904) : s_FractionOfPlus l = some (if posT l then (kr 1 l, (kt 1 l, true)) else (0, (0, false))) := by
  rw [s_FractionOfPlus, s_FractionOfPlus_t, T.run_sub, s_ctPositive_eq l hl, Option.bind_some, T.run_test]
  cases hp : posT l with
  | false => simp [T.run]
  | true =>
    obtain ⟨q, h1, h2, _⟩ := fraction_both l hp
    have h3 := FractionOfPlus_val l hl
    rw [i_FractionOfPlus, i_FractionOfPlus_t, T.run_sub, i_areFrom_eq l hl, Option.bind_some, T.run_test, hp, if_neg (by simp), T.run_sub, h1, Option.bind_some, T.run_ret] at h3
    rw [if_neg (by simp), T.run_sub, h2, Option.bind_some, T.run_ret]
    exact h3
/-- The last part of the law. -/
theorem l_FnTermsChanged_last (l6 : List Int) (hl6 : l6.length ≤ 50) (r7 : Bool × List Int) (h7 : r7.1 = true → posT l6 = true ∧ isTerms r7.2 = true ∧ MinusOf (kr 1 l6) (kt 1 l6) r7.2) (hp : posT l6 = true) :
    i_PlusContinuantOf l6 = some (kr 1 l6, true) ∧ i_PlusContinuantOf (win l6 1 (l6.length - 1)) = some (kt 1 l6, true) ∧ 1 ≤ l6.length ∧ (r7.1 = true → i_FractionOfMinus r7.2 = some (kr 1 l6, (kt 1 l6, true))) := by
  obtain ⟨ht, hne, _, _, h1, _, _⟩ := frac_plus l6 hp
  have a1 := PlusContinuantOf_val l6 (by omega)
  rw [ht, if_pos rfl] at a1
  obtain ⟨a, t, rfl⟩ : ∃ a t, l6 = a :: t := by
    cases l6 with
    | nil => exact absurd rfl hne
    | cons a t => exact ⟨a, t, rfl⟩
  have hw : win (a :: t) 1 ((a :: t).length - 1) = t := by unfold win; simp
  have ht2 : isTerms t = true := by
    rw [isTerms_iff] at ht ⊢
    rw [List.length_cons] at ht
    exact ⟨by omega, fun x hx => ht.2 x (List.mem_cons_of_mem _ hx)⟩
  have a2 := PlusContinuantOf_val t (by rw [List.length_cons] at hl6; omega)
  rw [ht2, if_pos rfl] at a2
  refine ⟨a1, by rw [hw]; exact a2, by simp, fun hr => ?_⟩
  obtain ⟨_, h2, h3⟩ := h7 hr
  exact FractionOfMinus_val (by omega) h2 h3
theorem l_FnTermsChanged_true (v : List Int × List Int) (hs : smallL ASh.small [.one (.sl (.int .u8) false true), .one (.sl (.int .u8) false true)] v) : l_FnTermsChanged v = some true := by
  obtain ⟨code, more⟩ := v
  have hb : ∀ l : List Int, (∀ x ∈ l, wfE (.int .u8) x) → bytesOK l := fun l h x hx => by
    have := h x hx
    simp [wfE, Lit.wf, IntKind.min, IntKind.max, IntKind.signed, IntKind.bits] at this
    omega
  have b1 : bytesOK code := hb code hs.1.2
  have b2 : bytesOK more := hb more hs.2.2
  obtain ⟨b, hbig⟩ := l_FnTermsChanged_big code more
  obtain ⟨l1, a1, e1, hl1⟩ := DrawPutOne_ok b1
  obtain ⟨r1, hr1, i1, s1⟩ := put_both l1 a1 (by omega)
  have d1 := dSame_val r1.2 r1.2 (by omega)
  have c9 := l_FnTermsChanged_C9_eq more a1 l1 hl1 r1 i1
  obtain ⟨l2, a2, e2, hl2⟩ := DrawTakeOne_ok b2
  obtain ⟨r2, hr2, i2, s2⟩ := take_both l2 a2 (by omega)
  have d2 := dSame_val r2.2 r2.2 (by omega)
  obtain ⟨l3, e3, hl3⟩ := DrawReduceOnes_ok b2
  obtain ⟨r3, hr3, i3, s3⟩ := reduce_ones l3 (by omega)
  have d3 := dSame_val r3.2 r3.2 (by omega)
  have c23 := l_FnTermsChanged_C23_eq more l3 hl3 r3 i3
  obtain ⟨⟨num, den⟩, e4⟩ := DrawMinusTerms_ok b2
  obtain ⟨r4, hr4, i4, s4⟩ := minus_terms num den
  have d4 := dSame_val r4.2 r4.2 (by omega)
  obtain ⟨r5, hr5, i5, s5⟩ := plus_terms num den
  have d5 := dSame_val r5.2 r5.2 (by omega)
  obtain ⟨l6, e6, hl6⟩ := DrawFractionOfPlus_ok b2
  have i6 := FractionOfPlus_val l6 (by omega)
  have s6 := l_FnTermsChanged_frac l6 (by omega)
  obtain ⟨r7, hr7, i7, s7⟩ := minus_plus l6 (by omega)
  have d7 := dSame_val r7.2 r7.2 (by omega)
  have h4 : r4.1 = true → isTerms r4.2 = true ∧ 1 ≤ den ∧ MinusOf num den r4.2 := fun h => by
    obtain ⟨g1, g2, g3⟩ := MinusTerms_val num den r4 i4 h
    simp only [lowP, Bool.and_eq_true, inB_iff] at g1
    exact ⟨g2, by omega, g3⟩
  have h5 : r5.1 = true → isTerms r5.2 = true ∧ 1 ≤ den ∧ den ≤ num ∧ cop num den ∧ PlusOf num den r5.2 := fun h => by
    obtain ⟨g1, g2, g3, g4⟩ := PlusTerms_val num den r5 i5 h
    simp only [lowP, Bool.and_eq_true, inB_iff, decide_eq_true_eq] at g1
    exact ⟨g3, by omega, g2, cop_of_gcd (by omega) (by omega) g1.2.2, g4⟩
  have h7 := MinusOfPlus_val l6 (by omega) r7 i7
  have hlast := l_FnTermsChanged_last l6 hl6 r7 h7
  generalize hq : (if posT l6 then (kr 1 l6, (kt 1 l6, true)) else ((0 : Int), ((0 : Int), false))) = q at i6 s6
  obtain ⟨x, y, nine⟩ := q
  have c45 := l_FnTermsChanged_C45_eq num den r4.1 r5.1 x y nine r7.1 r4.2 r5.2 l6 r7.2 h4
  have c55 := l_FnTermsChanged_C55_eq num den r5.1 x y nine r7.1 r5.2 l6 r7.2 h5
  have hn : nine = posT l6 := by
    cases hp : posT l6 with
    | false => rw [hp] at hq; simp at hq; exact hq.2.2
    | true => rw [hp] at hq; simp at hq; exact hq.2.2
  have hxy : posT l6 = true → x = kr 1 l6 ∧ y = kt 1 l6 := fun hp => by
    rw [hp] at hq
    simp at hq
    exact ⟨hq.1.symm, hq.2.1.symm⟩
  clear hq
  rw [l_FnTermsChanged, l_FnTermsChanged_t]
  simp only [win_all]
  rw [T.run_sub, hbig, Option.bind_some, T.run_test]
  cases b with
  | true => rfl
  | false =>
    rw [if_neg (by simp), T.run_sub, e1, Option.bind_some, T.run_test, if_pos (by simp), T.run_sub, i1, Option.bind_some, T.run_test, if_pos (by simp), T.run_sub, s1, Option.bind_some, T.run_test, if_neg (by simp),
      T.run_test, if_pos (by simp), T.run_test, if_pos (by simp), T.run_sub, d1, Option.bind_some, T.run_test, if_neg (by simp), T.run_test, if_pos (by simp), T.run_test, if_pos (by simp), T.run_sub, c9, Option.bind_some, T.run_test, if_neg (by simp), T.run_sub, Sum.getRight?_inr, Option.bind_some]
    rw [T.run_sub, e2, Option.bind_some, T.run_test, if_pos (by simp), T.run_sub, i2, Option.bind_some, T.run_test, if_pos (by simp), T.run_sub, s2, Option.bind_some, T.run_sub, e3, Option.bind_some, T.run_test, if_pos (by simp), T.run_sub, i3, Option.bind_some, T.run_test, if_pos (by simp), T.run_sub, s3, Option.bind_some, T.run_test, if_neg (by simp),
      T.run_test, if_pos (by simp), T.run_test, if_pos (by simp), T.run_sub, d2, Option.bind_some, T.run_test, if_neg (by simp), T.run_test, if_neg (by simp), T.run_test, if_pos (by simp), T.run_test, if_pos (by simp), T.run_sub, d3, Option.bind_some, T.run_test, if_neg (by simp), T.run_test, if_pos (by simp), T.run_test, if_pos (by simp), T.run_sub, c23, Option.bind_some, T.run_test, if_neg (by simp), T.run_sub, Sum.getRight?_inr, Option.bind_some]
    rw [T.run_sub, e4, Option.bind_some, T.run_sub, i4, Option.bind_some, T.run_sub, s4, Option.bind_some, T.run_sub, i5, Option.bind_some, T.run_sub, s5, Option.bind_some, T.run_sub, e6, Option.bind_some, T.run_test, if_pos (by simp), T.run_sub, i6, Option.bind_some, T.run_test, if_pos (by simp), T.run_sub, s6, Option.bind_some, T.run_test, if_pos (by simp), T.run_sub, i7, Option.bind_some, T.run_test, if_pos (by simp), T.run_sub, s7, Option.bind_some]
    rw [T.run_test, if_neg (by simp), T.run_test, if_pos (by simp), T.run_test, if_pos (by simp), T.run_sub, d4, Option.bind_some, T.run_test, if_neg (by simp), T.run_test, if_neg (by simp), T.run_test, if_pos (by simp), T.run_test, if_pos (by simp), T.run_sub, d5, Option.bind_some, T.run_test, if_neg (by simp), T.run_test, if_neg (by simp), T.run_test, if_neg (by simp), T.run_test, if_neg (by simp), T.run_test, if_neg (by simp), T.run_test, if_pos (by simp), T.run_test, if_pos (by simp), T.run_sub, d7, Option.bind_some, T.run_test, if_neg (by simp), T.run_test]
    cases h71 : r7.1 with
    | true =>
      obtain ⟨hp, _, _⟩ := h7 h71
      obtain ⟨f1, f2, f3, f4⟩ := hlast hp
      have f4 := f4 h71
      obtain ⟨rfl, rfl⟩ := hxy hp
      rw [hp] at hn
      subst hn
      rw [h71] at c45 c55
      rw [if_pos rfl, T.run_test, if_neg (by simp), T.run_test, if_pos (by simp), T.run_test, if_pos (by simp), T.run_test, if_pos (by simp), T.run_test, if_pos (by simp), T.run_sub, c45, Option.bind_some, T.run_test, if_neg (by simp), T.run_sub, Sum.getRight?_inr, Option.bind_some, T.run_test, if_pos (by simp), T.run_test, if_pos (by simp), T.run_test, if_pos (by simp), T.run_sub, c55, Option.bind_some, T.run_test, if_neg (by simp), T.run_sub, Sum.getRight?_inr, Option.bind_some]
      rw [T.run_test, if_pos rfl, T.run_test, if_pos (by simp), T.run_sub, f1, Option.bind_some, T.run_test, if_pos rfl, T.run_test, if_pos (decide_eq_true ⟨f3, Nat.le_refl _⟩), T.run_test, if_pos (decide_eq_true (by simp only; omega)), T.run_sub, f2, Option.bind_some, T.run_test, if_neg (by simp), T.run_test, if_neg (by simp), T.run_test, if_neg (by simp), T.run_test, if_neg (by simp), T.run_test, if_pos rfl, T.run_test, if_pos (by simp), T.run_sub, f4, Option.bind_some, T.run_test, if_pos rfl, T.run_test, if_pos (by simp), T.run_ret]
      simp
    | false =>
      rw [h71] at c45 c55
      rw [if_neg (by simp), T.run_test, if_pos (by simp), T.run_test, if_pos (by simp), T.run_test, if_pos (by simp), T.run_test, if_pos (by simp), T.run_sub, c45, Option.bind_some, T.run_test, if_neg (by simp), T.run_sub, Sum.getRight?_inr, Option.bind_some, T.run_test, if_pos (by simp), T.run_test, if_pos (by simp), T.run_test, if_pos (by simp), T.run_sub, c55, Option.bind_some, T.run_test, if_neg (by simp), T.run_sub, Sum.getRight?_inr, Option.bind_some, T.run_test]
      cases hp : posT l6 with
      | false =>
        rw [hp] at hn
        subst hn
        rw [if_neg (by simp), T.run_test, if_neg (by simp), T.run_ret]
      | true =>
        obtain ⟨f1, f2, f3, _⟩ := hlast hp
        obtain ⟨rfl, rfl⟩ := hxy hp
        rw [hp] at hn
        subst hn
        rw [if_pos rfl, T.run_test, if_pos (by simp), T.run_sub, f1, Option.bind_some, T.run_test, if_pos rfl, T.run_test, if_pos (decide_eq_true ⟨f3, Nat.le_refl _⟩), T.run_test, if_pos (decide_eq_true (by simp only; omega)), T.run_sub, f2, Option.bind_some, T.run_test, if_neg (by simp), T.run_test, if_neg (by simp), T.run_test, if_neg (by simp), T.run_test, if_neg (by simp), T.run_test, if_neg (by simp), T.run_ret]


end Go.Proofs.W
