/- Functions of the program, walked, and what they compute. -/
import Derived.Test.YtaoeghfoifhhcaaGreatFnWk2
set_option linter.unusedVariables false
set_option linter.unusedSimpArgs false
set_option maxRecDepth 100000
set_option maxHeartbeats 4000000
namespace Go.Proofs.W
open Go Go.Gm Go.Proofs
open Go.RowKit Go.Shelf

theorem exists_most : ∀ l : List Int, l ≠ [] → ∃ c ∈ l, ∀ x ∈ l, x ≤ c
  | [], h => absurd rfl h
  | [a], _ => ⟨a, by simp, by simp⟩
  | a :: b :: t, _ => by
    obtain ⟨c, h1, h2⟩ := exists_most (b :: t) (by simp)
    by_cases h : a ≤ c
    · exact ⟨c, List.mem_cons_of_mem _ h1, fun x hx => by rcases List.mem_cons.1 hx with rfl | hx; exact h; exact h2 x hx⟩
    · exact ⟨a, by simp, fun x hx => by rcases List.mem_cons.1 hx with rfl | hx; exact Int.le_refl _; have := h2 x hx; omega⟩
theorem len_three {A : Type} (p q : A → Bool) : ∀ l : List A, (∀ d ∈ l, ¬ (p d = true ∧ q d = true)) → l.length = (l.filter p).length + (l.filter q).length + (l.filter fun d => !p d && !q d).length
  | [], _ => rfl
  | a :: t, h => by
    have ih := len_three p q t fun d hd => h d (List.mem_cons_of_mem _ hd)
    have ha := h a (by simp)
    simp only [List.filter_cons, List.length_cons]
    cases hp : p a <;> cases hq : q a <;> simp [hp, hq] at ha ⊢ <;> omega
theorem all_one {A : Type} {l : List A} {x : A} (hn : l.Nodup) (h : ∀ d ∈ l, d = x) : l.length ≤ 1 := by
  match l, hn, h with
  | [], _, _ => simp
  | [_], _, _ => simp
  | a :: b :: t, hn, h =>
    exfalso
    have h1 := h a (by simp)
    have h2 := h b (by simp)
    rw [List.nodup_cons] at hn
    exact hn.1 (by rw [h1, h2]; simp)
theorem cross_iff {d e : Dg} : crossD d e = false ↔ ¬ (d.1 < e.1 ∧ e.1 < d.2 ∧ d.2 < e.2) ∧ ¬ (e.1 < d.1 ∧ d.1 < e.2 ∧ e.2 < d.2) := by
  unfold crossD
  simp only [Bool.or_eq_false_iff, Bool.and_eq_false_iff, decide_eq_false_iff_not]
  omega
theorem nc_bound : ∀ (m : Nat) (a b : Int) (ds : List Dg), b - a = (m : Int) → 1 ≤ m → ds.Nodup → (∀ d ∈ ds, a ≤ d.1 ∧ d.1 + 1 < d.2 ∧ d.2 ≤ b) → (∀ d ∈ ds, ∀ e ∈ ds, crossD d e = false) → ds.length + 1 ≤ m := by
  intro m
  induction m using Nat.strongRecOn with
  | ind m ih =>
    intro a b ds hm h1 hn hr hc
    by_cases h2 : m = 1
    · have : ds = [] := by
        cases ds with
        | nil => rfl
        | cons d t => have := hr d (by simp); omega
      rw [this]; simp; omega
    obtain ⟨c, hc1, hc2⟩ := exists_most ((a + 1) :: (ds.filter fun d => decide (d.1 = a ∧ d.2 < b)).map (·.2)) (by simp)
    have hac : a + 1 ≤ c := hc2 _ (by simp)
    have hcm : c = a + 1 ∨ (a, c) ∈ ds ∧ c < b := by
      rcases List.mem_cons.1 hc1 with h | h
      · exact .inl h
      · obtain ⟨d, hd, e⟩ := List.mem_map.1 h
        obtain ⟨hd1, hd2⟩ := List.mem_filter.1 hd
        have hd2 := of_decide_eq_true hd2
        refine .inr ⟨?_, by omega⟩
        have : d = (a, c) := Prod.ext hd2.1 e
        rw [← this]; exact hd1
    have hcb : c < b := by rcases hcm with h | h <;> omega
    have hmost : ∀ d ∈ ds, d.1 = a → d.2 < b → d.2 ≤ c := fun d hd e1 e2 => hc2 _ (List.mem_cons_of_mem _ (List.mem_map.2 ⟨d, List.mem_filter.2 ⟨hd, decide_eq_true ⟨e1, e2⟩⟩, rfl⟩))
    have hcase : ∀ d ∈ ds, d.2 ≤ c ∨ c ≤ d.1 ∨ d = (a, b) := by
      intro d hd
      have hrd := hr d hd
      by_cases e1 : d.1 = a
      · by_cases e2 : d.2 < b
        · exact .inl (hmost d hd e1 e2)
        · exact .inr (.inr (Prod.ext e1 (by show d.2 = b; omega)))
      · rcases hcm with h | ⟨h, _⟩
        · exact .inr (.inl (by omega))
        · have := cross_iff.1 (hc d hd _ h)
          dsimp only at this
          omega
    have hlen := len_three (fun d : Dg => decide (d.2 ≤ c)) (fun d : Dg => decide (c ≤ d.1)) ds (fun d hd => by have := hr d hd; simp only [decide_eq_true_eq]; omega)
    have l1 := ih (c - a).toNat (by omega) a c (ds.filter fun d => decide (d.2 ≤ c)) (by omega) (by omega) (hn.sublist List.filter_sublist)
      (fun d hd => by
        obtain ⟨x, y⟩ := List.mem_filter.1 hd
        have := hr d x
        have := of_decide_eq_true y
        omega) (fun d hd e he => hc d (List.mem_filter.1 hd).1 e (List.mem_filter.1 he).1)
    have l2 := ih (b - c).toNat (by omega) c b (ds.filter fun d => decide (c ≤ d.1)) (by omega) (by omega) (hn.sublist List.filter_sublist)
      (fun d hd => by
        obtain ⟨x, y⟩ := List.mem_filter.1 hd
        have := hr d x
        have := of_decide_eq_true y
        omega) (fun d hd e he => hc d (List.mem_filter.1 hd).1 e (List.mem_filter.1 he).1)
    have l3 := all_one (x := (a, b)) (hn.sublist (List.filter_sublist (l := ds) (p := fun d => !decide (d.2 ≤ c) && !decide (c ≤ d.1)))) (fun d hd => by
      obtain ⟨x, y⟩ := List.mem_filter.1 hd
      simp only [Bool.and_eq_true, Bool.not_eq_true', decide_eq_false_iff_not] at y
      rcases hcase d x with h | h | h
      · exact absurd h y.1
      · exact absurd h y.2
      · exact h)
    omega
theorem tri_facts {n : Nat} {ds : List Dg} (h : isTri n ds = true) : ∀ d ∈ ds, ∀ e ∈ ds, crossD d e = false := by
  obtain ⟨_, _, _, g⟩ := (isTri_iff _ _).1 h
  intro d hd e he
  have key : ∀ l : List Dg, l.Pairwise (fun d e => ltD d e = true ∧ crossD e d = false) → ∀ d ∈ l, ∀ e ∈ l, crossD d e = false := by
    intro l
    induction l with
    | nil => intro _ d hd; cases hd
    | cons a t ih =>
      intro hp d hd e he
      obtain ⟨p1, p2⟩ := List.pairwise_cons.1 hp
      rcases List.mem_cons.1 hd with e1 | hd'
      · rcases List.mem_cons.1 he with e2 | he'
        · rw [cross_iff, e1, e2]; omega
        · rw [crossD_comm, e1]; exact (p1 e he').2
      · rcases List.mem_cons.1 he with e2 | he'
        · rw [e2]; exact (p1 d hd').2
        · exact ih p2 d hd' e he'
  exact key ds g d hd e he
theorem tri_max {n : Nat} {ds : List Dg} (h : isTri n ds = true) {d : Dg} (hd : inDg n d = true) (hno : ∀ e ∈ ds, crossD d e = false) : d ∈ ds := by
  obtain ⟨g1, g2, g3, g4, g5⟩ := tri_rng h
  have hc := tri_facts h
  have hi := inDg_iff.1 hd
  refine Decidable.byContradiction fun hnd => ?_
  have hw : ((0 : Int), (n : Int) - 1) ∉ d :: ds := by
    intro hm
    rcases List.mem_cons.1 hm with rfl | hm
    · dsimp only at hi; omega
    · have := g1 _ hm; dsimp only at this; omega
  have hr : ∀ e ∈ ((0 : Int), (n : Int) - 1) :: d :: ds, 0 ≤ e.1 ∧ e.1 + 1 < e.2 ∧ e.2 ≤ (n : Int) - 1 := by
    intro e he
    rcases List.mem_cons.1 he with rfl | he
    · dsimp only; omega
    · rcases List.mem_cons.1 he with rfl | he
      · omega
      · have := g1 e he; omega
  have hcw : ∀ e ∈ ((0 : Int), (n : Int) - 1) :: d :: ds, crossD ((0 : Int), (n : Int) - 1) e = false := by
    intro e he
    have := hr e he
    rw [cross_iff]; dsimp only; omega
  have hall : ∀ e ∈ ((0 : Int), (n : Int) - 1) :: d :: ds, ∀ f ∈ ((0 : Int), (n : Int) - 1) :: d :: ds, crossD e f = false := by
    intro e he f hf
    rcases List.mem_cons.1 he with rfl | he'
    · exact hcw f hf
    · rcases List.mem_cons.1 hf with rfl | hf'
      · rw [crossD_comm]; exact hcw e he
      · rcases List.mem_cons.1 he' with rfl | he''
        · rcases List.mem_cons.1 hf' with rfl | hf''
          · rw [cross_iff]; omega
          · exact hno f hf''
        · rcases List.mem_cons.1 hf' with rfl | hf''
          · rw [crossD_comm]; exact hno e he''
          · exact hc e he'' f hf''
  have := nc_bound (n - 1) 0 ((n : Int) - 1) (((0 : Int), (n : Int) - 1) :: d :: ds) (by omega) (by omega) (by rw [List.nodup_cons, List.nodup_cons]; exact ⟨hw, hnd, g2⟩) hr hall
  simp only [List.length_cons] at this
  omega
def jn (n : Nat) (ds : List Dg) (a b : Int) : Prop := b - a = 1 ∨ b - a = (n : Int) - 1 ∨ (a, b) ∈ ds
instance (n : Nat) (ds : List Dg) (a b : Int) : Decidable (jn n ds a b) := by unfold jn; infer_instance
theorem jn_no {n : Nat} {ds : List Dg} (h : isTri n ds = true) {a b : Int} (ha : 0 ≤ a) (hab : a < b) (hb : b < n) (hj : jn n ds a b) {f : Dg} (hf : f ∈ ds) :
    ¬ (f.1 < a ∧ a < f.2 ∧ f.2 < b) ∧ ¬ (a < f.1 ∧ f.1 < b ∧ b < f.2) := by
  have g := (tri_rng h).1 f hf
  rcases hj with h1 | h1 | h1
  · omega
  · omega
  · have := cross_iff.1 (tri_facts h f hf _ h1)
    dsimp only at this
    omega
theorem jn_of {n : Nat} {ds : List Dg} (h : isTri n ds = true) {a b : Int} (ha : 0 ≤ a) (hab : a < b) (hb : b < n) (hno : ∀ f ∈ ds, ¬ (f.1 < a ∧ a < f.2 ∧ f.2 < b) ∧ ¬ (a < f.1 ∧ f.1 < b ∧ b < f.2)) : jn n ds a b := by
  by_cases h1 : b - a = 1
  · exact .inl h1
  by_cases h2 : b - a = (n : Int) - 1
  · exact .inr (.inl h2)
  refine .inr (.inr (tri_max h (inDg_iff.2 (by dsimp only; omega)) fun e he => ?_))
  have := hno e he
  rw [cross_iff]; dsimp only; omega
theorem third_in {n : Nat} {ds : List Dg} (h : isTri n ds = true) {x y : Int} (hx : 0 ≤ x) (hxy : x + 1 < y) (hy : y < n) (hj : jn n ds x y) : ∃ c, x < c ∧ c < y ∧ jn n ds x c ∧ jn n ds c y := by
  obtain ⟨c, hc1, hc2⟩ := exists_most ((x + 1) :: (ds.filter fun d => decide (d.1 = x ∧ d.2 < y)).map (·.2)) (by simp)
  have hac : x + 1 ≤ c := hc2 _ (by simp)
  have hcm : c = x + 1 ∨ (x, c) ∈ ds ∧ c < y := by
    rcases List.mem_cons.1 hc1 with h | h
    · exact .inl h
    · obtain ⟨d, hd, e⟩ := List.mem_map.1 h
      obtain ⟨hd1, hd2⟩ := List.mem_filter.1 hd
      have hd2 := of_decide_eq_true hd2
      refine .inr ⟨?_, by omega⟩
      have : d = (x, c) := Prod.ext hd2.1 e
      rw [← this]; exact hd1
  have hcy : c < y := by rcases hcm with h | h <;> omega
  have hmost : ∀ d ∈ ds, d.1 = x → d.2 < y → d.2 ≤ c := fun d hd e1 e2 => hc2 _ (List.mem_cons_of_mem _ (List.mem_map.2 ⟨d, List.mem_filter.2 ⟨hd, decide_eq_true ⟨e1, e2⟩⟩, rfl⟩))
  have hxc : jn n ds x c := by
    rcases hcm with h | h
    · exact .inl (by omega)
    · exact .inr (.inr h.1)
  refine ⟨c, by omega, hcy, hxc, jn_of h (by omega) hcy hy fun f hf => ?_⟩
  have a1 := jn_no h hx (by omega) hy hj hf
  have a2 := jn_no h hx (by omega) (by omega) hxc hf
  have a3 := hmost f hf
  have := (tri_rng h).1 f hf
  omega
theorem third_out {n : Nat} {ds : List Dg} (h : isTri n ds = true) {x y : Int} (hx : 0 ≤ x) (hxy : x < y) (hy : y < n) (hw : ¬ (x = 0 ∧ y = (n : Int) - 1)) (hj : jn n ds x y) :
    ∃ c, (0 ≤ c ∧ c < x ∧ jn n ds c x ∧ jn n ds c y) ∨ (y < c ∧ c < n ∧ jn n ds x c ∧ jn n ds y c) := by
  by_cases hA : ∃ c, 0 ≤ c ∧ c < x ∧ jn n ds c y
  · have hne : ((nameL n).filter fun c => decide (c < x ∧ jn n ds c y)) ≠ [] := by
      obtain ⟨c, h1, h2, h3⟩ := hA
      have : c ∈ (nameL n).filter fun c => decide (c < x ∧ jn n ds c y) := List.mem_filter.2 ⟨by
        unfold nameL
        exact List.mem_map.2 ⟨c.toNat, List.mem_range.2 (by omega), by omega⟩, decide_eq_true ⟨h2, h3⟩⟩
      exact List.ne_nil_of_mem this
    obtain ⟨c, hc1, hc2⟩ := exists_most _ hne
    obtain ⟨m1, m2⟩ := List.mem_filter.1 hc1
    have m0 := nameL_mem m1
    obtain ⟨m3, m4⟩ := of_decide_eq_true m2
    refine ⟨c, .inl ⟨m0.1, m3, jn_of h m0.1 m3 (by omega) fun f hf => ?_, m4⟩⟩
    have a1 := jn_no h hx hxy hy hj hf
    have a2 := jn_no h m0.1 (by omega) hy m4 hf
    have g := (tri_rng h).1 f hf
    have a3 : f.2 = y → f.1 < x → f.1 ≤ c := fun e1 e2 => hc2 _ (List.mem_filter.2 ⟨by
        unfold nameL
        exact List.mem_map.2 ⟨f.1.toNat, List.mem_range.2 (by omega), by omega⟩, decide_eq_true ⟨e2, .inr (.inr (by rw [← e1]; exact hf))⟩⟩)
    omega
  · have hyn : y + 1 < n := by
      refine Decidable.byContradiction fun hh => hA ⟨0, Int.le_refl 0, by omega, .inr (.inl (by omega))⟩
    have hno : ∀ c, 0 ≤ c → c < x → ¬ jn n ds c y := fun c h1 h2 h3 => hA ⟨c, h1, h2, h3⟩
    have hne : ((nameL n).filter fun c => decide (y < c ∧ jn n ds y c)) ≠ [] := by
      have : y + 1 ∈ (nameL n).filter fun c => decide (y < c ∧ jn n ds y c) := List.mem_filter.2 ⟨by
        unfold nameL
        exact List.mem_map.2 ⟨(y + 1).toNat, List.mem_range.2 (by omega), by omega⟩, decide_eq_true ⟨by omega, .inl (by omega)⟩⟩
      exact List.ne_nil_of_mem this
    obtain ⟨c, hc1, hc2⟩ := exists_most _ hne
    obtain ⟨m1, m2⟩ := List.mem_filter.1 hc1
    have m0 := nameL_mem m1
    obtain ⟨m3, m4⟩ := of_decide_eq_true m2
    refine ⟨c, .inr ⟨m3, m0.2, jn_of h hx (by omega) m0.2 fun f hf => ?_, m4⟩⟩
    have a1 := jn_no h hx hxy hy hj hf
    have a2 := jn_no h (by omega) m3 m0.2 m4 hf
    have g := (tri_rng h).1 f hf
    have a3 : f.1 = y → f.2 ≤ c := fun e1 => hc2 _ (List.mem_filter.2 ⟨by
        unfold nameL
        exact List.mem_map.2 ⟨f.2.toNat, List.mem_range.2 (by omega), by omega⟩, decide_eq_true ⟨by omega, .inr (.inr (by rw [← e1]; exact hf))⟩⟩)
    have a4 : ¬ (f.2 = y ∧ f.1 < x) := fun ⟨e1, e2⟩ => hno f.1 (by omega) e2 (.inr (.inr (by rw [← e1]; exact hf)))
    omega
def jo (n : Nat) (ds : List Dg) (a b : Int) : Prop := jn n ds (min a b) (max a b)
instance (n : Nat) (ds : List Dg) (a b : Int) : Decidable (jo n ds a b) := by unfold jo; infer_instance
def thirds (n : Nat) (ds : List Dg) (d : Dg) : List Int := (nameL n).filter fun c => decide (c ≠ d.1 ∧ c ≠ d.2 ∧ jo n ds c d.1 ∧ jo n ds c d.2)
theorem jo_lt {n : Nat} {ds : List Dg} {a b : Int} (h : a < b) : jo n ds a b ↔ jn n ds a b := by unfold jo; rw [Int.min_eq_left (by omega), Int.max_eq_right (by omega)]
theorem jo_gt {n : Nat} {ds : List Dg} {a b : Int} (h : b < a) : jo n ds a b ↔ jn n ds b a := by unfold jo; rw [Int.min_eq_right (by omega), Int.max_eq_left (by omega)]
theorem thirds_mem {n : Nat} {ds : List Dg} {d : Dg} {c : Int} : c ∈ thirds n ds d ↔ (0 ≤ c ∧ c < n) ∧ c ≠ d.1 ∧ c ≠ d.2 ∧ jo n ds c d.1 ∧ jo n ds c d.2 := by
  unfold thirds
  rw [List.mem_filter, decide_eq_true_eq]
  refine and_congr_left fun _ => ⟨nameL_mem, fun h => ?_⟩
  unfold nameL
  exact List.mem_map.2 ⟨c.toNat, List.mem_range.2 (by omega), by omega⟩
theorem sorted_two {l : List Int} (hl : l.Pairwise (· < ·)) {p q : Int} (hpq : p < q) (hm : ∀ c, c ∈ l ↔ c = p ∨ c = q) : l = [p, q] := by
  match l, hl, hm with
  | [], _, hm => exact absurd ((hm p).2 (.inl rfl)) (by simp)
  | [a], _, hm =>
    have h1 := (hm p).2 (.inl rfl)
    have h2 := (hm q).2 (.inr rfl)
    simp at h1 h2
    omega
  | [a, b], hl, hm =>
    have h1 := (hm a).1 (by simp)
    have h2 := (hm b).1 (by simp)
    have h3 : a < b := (List.pairwise_cons.1 hl).1 b (by simp)
    have : a = p := by omega
    have : b = q := by omega
    simp [*]
  | a :: b :: c :: t, hl, hm =>
    exfalso
    have h1 := (hm a).1 (by simp)
    have h2 := (hm b).1 (by simp)
    have h4 := (hm c).1 (by simp)
    have h3 : a < b := (List.pairwise_cons.1 hl).1 b (by simp)
    have h5 : b < c := (List.pairwise_cons.1 (List.pairwise_cons.1 hl).2).1 c (by simp)
    omega
theorem thirds_two {n : Nat} {ds : List Dg} (h : isTri n ds = true) {d : Dg} (hd : d ∈ ds) : ∃ p q, thirds n ds d = [p, q] ∧ 0 ≤ p ∧ q < n ∧ ((p < d.1 ∧ d.1 < q ∧ q < d.2) ∨ (d.1 < p ∧ p < d.2 ∧ d.2 < q)) := by
  obtain ⟨x, y⟩ := d
  have g := (tri_rng h).1 _ hd
  dsimp only at g ⊢
  have hj : jn n ds x y := .inr (.inr hd)
  obtain ⟨ci, i1, i2, i3, i4⟩ := third_in h (by omega) (by omega) (by omega) hj
  have hsort : (thirds n ds (x, y)).Pairwise (· < ·) := (nameL_sorted n).filter _
  have inn : ∀ c, x < c → c < y → jn n ds x c → jn n ds c y → c = ci := by
    intro c h1 h2 h3 h4
    rcases (by omega : c < ci ∨ c = ci ∨ ci < c) with hlt | e | hlt
    · exfalso
      have hm : (c, y) ∈ ds := by rcases h4 with q | q | q; omega; omega; exact q
      have := jn_no h (by omega) i1 (by omega) i3 hm
      dsimp only at this; omega
    · exact e
    · exfalso
      have hm : (ci, y) ∈ ds := by rcases i4 with q | q | q; omega; omega; exact q
      have := jn_no h (by omega) h1 (by omega) h3 hm
      dsimp only at this; omega
  obtain ⟨co, ho⟩ := third_out h (by omega) (by omega) (by omega) (by omega) hj
  rcases ho with ⟨o1, o2, o3, o4⟩ | ⟨o1, o2, o3, o4⟩
  · refine ⟨co, ci, sorted_two hsort (by omega) fun c => ?_, o1, by omega, .inl ⟨o2, i1, i2⟩⟩
    rw [thirds_mem]
    dsimp only
    constructor
    · rintro ⟨r, n1, n2, j1, j2⟩
      rcases (by omega : c < x ∨ (x < c ∧ c < y) ∨ y < c) with c1 | c1 | c1
      · rw [jo_lt c1] at j1
        rw [jo_lt (by omega)] at j2
        rcases (by omega : c < co ∨ c = co ∨ co < c) with hlt | e | hlt
        · exfalso
          have hm : (co, y) ∈ ds := by rcases o4 with q | q | q; omega; omega; exact q
          have := jn_no h r.1 c1 (by omega) j1 hm
          dsimp only at this; omega
        · exact .inl e
        · exfalso
          have hm : (c, y) ∈ ds := by rcases j2 with q | q | q; omega; omega; exact q
          have := jn_no h o1 o2 (by omega) o3 hm
          dsimp only at this; omega
      · rw [jo_gt c1.1] at j1
        rw [jo_lt c1.2] at j2
        exact .inr (inn c c1.1 c1.2 j1 j2)
      · exfalso
        rw [jo_gt (by omega)] at j1
        have hm : (co, y) ∈ ds := by rcases o4 with q | q | q; omega; omega; exact q
        have := jn_no h (by omega) (by omega) r.2 j1 hm
        dsimp only at this; omega
    · rintro (rfl | rfl)
      · exact ⟨by omega, by omega, by omega, (jo_lt o2).2 o3, (jo_lt (by omega)).2 o4⟩
      · exact ⟨by omega, by omega, by omega, (jo_gt i1).2 i3, (jo_lt i2).2 i4⟩
  · refine ⟨ci, co, sorted_two hsort (by omega) fun c => ?_, by omega, o2, .inr ⟨i1, i2, o1⟩⟩
    rw [thirds_mem]
    dsimp only
    constructor
    · rintro ⟨r, n1, n2, j1, j2⟩
      rcases (by omega : c < x ∨ (x < c ∧ c < y) ∨ y < c) with c1 | c1 | c1
      · exfalso
        rw [jo_lt (by omega)] at j2
        have hm : (c, y) ∈ ds := by rcases j2 with q | q | q; omega; omega; exact q
        have := jn_no h (by omega) (by omega) o2 o3 hm
        dsimp only at this; omega
      · rw [jo_gt c1.1] at j1
        rw [jo_lt c1.2] at j2
        exact .inl (inn c c1.1 c1.2 j1 j2)
      · rw [jo_gt (by omega)] at j1
        rw [jo_gt c1] at j2
        rcases (by omega : c < co ∨ c = co ∨ co < c) with hlt | e | hlt
        · exfalso
          have hm : (y, co) ∈ ds := by rcases o4 with q | q | q; omega; omega; exact q
          have := jn_no h (by omega) (by omega) r.2 j1 hm
          dsimp only at this; omega
        · exact .inr e
        · exfalso
          have hm : (y, c) ∈ ds := by rcases j2 with q | q | q; omega; omega; exact q
          have := jn_no h (by omega) (by omega) o2 o3 hm
          dsimp only at this; omega
    · rintro (rfl | rfl)
      · exact ⟨by omega, by omega, by omega, (jo_gt i1).2 i3, (jo_lt i2).2 i4⟩
      · exact ⟨by omega, by omega, by omega, (jo_gt (by omega)).2 o3, (jo_gt o1).2 o4⟩
theorem sortD_congr {l m : List Dg} (h : l.Perm m) : sortD l = sortD m := sorted_unique (sortD_sorted l) (sortD_sorted m) ((sortD_perm l).trans (h.trans (sortD_perm m).symm))
theorem tri_sorted {n : Nat} {ds : List Dg} (h : isTri n ds = true) : SortedD ds := ((isTri_iff _ _).1 h).2.2.2.imp fun hh => leD_of_lt hh.1
theorem sortD_tri {n : Nat} {ds l : List Dg} (h : isTri n ds = true) (hp : l.Perm ds) : sortD l = ds := sorted_unique (sortD_sorted l) (tri_sorted h) ((sortD_perm l).trans hp)
theorem tri_of {n : Nat} {l : List Dg} (hn : 3 ≤ n ∧ n ≤ 12) (hl : (l.length : Int) = n - 3) (hnd : l.Nodup) (hi : ∀ d ∈ l, inDg n d = true) (hc : ∀ d ∈ l, ∀ e ∈ l, crossD d e = false) : isTri n (sortD l) = true := by
  refine (isTri_iff _ _).2 ⟨by omega, by rw [sortD_length]; exact hl, fun d hd => hi d ((sortD_perm l).mem_iff.1 hd), ?_⟩
  have hnd2 : (sortD l).Nodup := (sortD_perm l).nodup_iff.2 hnd
  refine List.Pairwise.imp_of_mem ?_ ((sortD_sorted l).and hnd2)
  intro a b ha hb hab
  exact ⟨ltD_of hab.1 hab.2, hc b ((sortD_perm l).mem_iff.1 hb) a ((sortD_perm l).mem_iff.1 ha)⟩
def othD (n : Nat) (ds : List Dg) (d : Dg) : Dg := match thirds n ds d with
  | [p, q] => (p, q)
  | _ => (-1, -1)
def flipD (n : Nat) (ds : List Dg) (d : Dg) : List Dg := sortD (ds.erase d ++ [othD n ds d])
theorem jo_comm (n : Nat) (ds : List Dg) (a b : Int) : jo n ds a b ↔ jo n ds b a := by unfold jo; rw [Int.min_comm, Int.max_comm]
theorem oth_facts {n : Nat} {ds : List Dg} (h : isTri n ds = true) {d : Dg} (hd : d ∈ ds) :
    thirds n ds d = [(othD n ds d).1, (othD n ds d).2] ∧ inDg n (othD n ds d) = true ∧ crossD d (othD n ds d) = true ∧ (∀ f ∈ ds, f ≠ d → crossD f (othD n ds d) = false) ∧ othD n ds d ∉ ds := by
  obtain ⟨p, q, ht, h1, h2, h3⟩ := thirds_two h hd
  have ho : othD n ds d = (p, q) := by unfold othD; rw [ht]
  have mp := thirds_mem.1 (show p ∈ thirds n ds d by rw [ht]; simp)
  have mq := thirds_mem.1 (show q ∈ thirds n ds d by rw [ht]; simp)
  have g := (tri_rng h).1 d hd
  have hcr : crossD d (p, q) = true := by
    cases hc : crossD d (p, q) with
    | true => rfl
    | false =>
      have := cross_iff.1 hc
      dsimp only at this
      omega
  rw [ho]
  refine ⟨ht, inDg_iff.2 (by dsimp only; omega), hcr, fun f hf hne => ?_, fun hm => ?_⟩
  · have gf := (tri_rng h).1 f hf
    have c0 := cross_iff.1 (tri_facts h f hf d hd)
    have hne' : ¬ (f.1 = d.1 ∧ f.2 = d.2) := fun e => hne (Prod.ext e.1 e.2)
    rw [cross_iff]
    dsimp only
    rcases h3 with h3 | h3
    · have j1 := jn_no h mp.1.1 h3.1 (by omega) ((jo_lt h3.1).1 mp.2.2.2.1) hf
      have j2 := jn_no h mp.1.1 (by omega) (by omega) ((jo_lt (by omega)).1 mp.2.2.2.2) hf
      have j3 := jn_no h (by omega) h3.2.1 (by omega) ((jo_gt h3.2.1).1 mq.2.2.2.1) hf
      have j4 := jn_no h (by omega) h3.2.2 (by omega) ((jo_lt h3.2.2).1 mq.2.2.2.2) hf
      omega
    · have j1 := jn_no h (by omega) h3.1 (by omega) ((jo_gt h3.1).1 mp.2.2.2.1) hf
      have j2 := jn_no h (by omega) h3.2.1 (by omega) ((jo_lt h3.2.1).1 mp.2.2.2.2) hf
      have j3 := jn_no h (by omega) (by omega) (by omega) ((jo_gt (by omega)).1 mq.2.2.2.1) hf
      have j4 := jn_no h (by omega) h3.2.2 (by omega) ((jo_gt h3.2.2).1 mq.2.2.2.2) hf
      omega
  · have := tri_facts h d hd _ hm
    rw [hcr] at this
    exact absurd this (by decide)
theorem flip_mem {n : Nat} {ds : List Dg} (h : isTri n ds = true) {d f : Dg} : f ∈ flipD n ds d ↔ (f ∈ ds ∧ f ≠ d) ∨ f = othD n ds d := by
  unfold flipD
  rw [(sortD_perm _).mem_iff, List.mem_append, List.mem_singleton, (tri_rng h).2.1.mem_erase_iff]
  exact or_congr_left and_comm
theorem flip_tri {n : Nat} {ds : List Dg} (h : isTri n ds = true) {d : Dg} (hd : d ∈ ds) : isTri n (flipD n ds d) = true := by
  obtain ⟨_, o2, o3, o4, o5⟩ := oth_facts h hd
  obtain ⟨g1, g2, g3, g4, g5⟩ := tri_rng h
  have hc := tri_facts h
  have hpos : 1 ≤ ds.length := List.length_pos_of_mem hd
  have hm : ∀ f, f ∈ ds.erase d ++ [othD n ds d] ↔ (f ∈ ds ∧ f ≠ d) ∨ f = othD n ds d := fun f => by
    rw [List.mem_append, List.mem_singleton, g2.mem_erase_iff]; exact or_congr_left and_comm
  refine tri_of ⟨g4, g5⟩ ?_ ?_ ?_ ?_
  · rw [List.length_append, List.length_erase_of_mem hd, List.length_singleton]; omega
  · rw [List.nodup_append]
    refine ⟨g2.erase d, by simp, fun a ha b hb => ?_⟩
    rw [List.mem_singleton] at hb
    rw [hb]
    intro e
    rw [e] at ha
    exact o5 (List.mem_of_mem_erase ha)
  · intro f hf
    rcases (hm f).1 hf with h1 | h1
    · have := g1 f h1.1
      exact inDg_iff.2 (by omega)
    · rw [h1]; exact o2
  · intro f hf e he
    rcases (hm f).1 hf with h1 | h1
    · rcases (hm e).1 he with h2 | h2
      · exact hc f h1.1 e h2.1
      · rw [h2]; exact o4 f h1.1 h1.2
    · rcases (hm e).1 he with h2 | h2
      · rw [h1, crossD_comm]; exact o4 e h2.1 h2.2
      · rw [h1, h2, cross_iff]; omega
theorem flip_back {n : Nat} {ds : List Dg} (h : isTri n ds = true) {d : Dg} (hd : d ∈ ds) : othD n (flipD n ds d) (othD n ds d) = d ∧ flipD n (flipD n ds d) (othD n ds d) = ds := by
  have hf := flip_tri h hd
  obtain ⟨o1, o2, o3, o4, o5⟩ := oth_facts h hd
  obtain ⟨g1, g2, g3, g4, g5⟩ := tri_rng h
  have gd := g1 d hd
  have he : othD n ds d ∈ flipD n ds d := (flip_mem h).2 (.inr rfl)
  obtain ⟨p, q, ht, h1, h2, h3⟩ := thirds_two h hd
  have ho : othD n ds d = (p, q) := by unfold othD; rw [ht]
  have mp := thirds_mem.1 (show p ∈ thirds n ds d by rw [ht]; simp)
  have mq := thirds_mem.1 (show q ∈ thirds n ds d by rw [ht]; simp)
  have keep : ∀ a b : Int, a ≠ d.1 → a ≠ d.2 → jo n ds a b → jo n (flipD n ds d) a b := by
    intro a b n1 n2 hj
    unfold jo at hj ⊢
    rcases hj with hj | hj | hj
    · exact .inl hj
    · exact .inr (.inl hj)
    · refine .inr (.inr ((flip_mem h).2 (.inl ⟨hj, fun e => ?_⟩)))
      have e1 := congrArg Prod.fst e
      have e2 := congrArg Prod.snd e
      dsimp only at e1 e2
      omega
  obtain ⟨p', q', ht', _, _, _⟩ := thirds_two hf he
  have mx : d.1 ∈ thirds n (flipD n ds d) (othD n ds d) := by
    rw [thirds_mem, ho]
    exact ⟨by omega, by dsimp only; omega, by dsimp only; omega, (jo_comm _ _ _ _).1 (keep _ _ mp.2.1 mp.2.2.1 mp.2.2.2.1), (jo_comm _ _ _ _).1 (keep _ _ mq.2.1 mq.2.2.1 mq.2.2.2.1)⟩
  have my : d.2 ∈ thirds n (flipD n ds d) (othD n ds d) := by
    rw [thirds_mem, ho]
    exact ⟨by omega, by dsimp only; omega, by dsimp only; omega, (jo_comm _ _ _ _).1 (keep _ _ mp.2.1 mp.2.2.1 mp.2.2.2.2), (jo_comm _ _ _ _).1 (keep _ _ mq.2.1 mq.2.2.1 mq.2.2.2.2)⟩
  have hs : (thirds n (flipD n ds d) (othD n ds d)).Pairwise (· < ·) := (nameL_sorted n).filter _
  rw [ht'] at mx my hs
  have hs' := (List.pairwise_cons.1 hs).1 q' (by simp)
  simp only [List.mem_cons, List.not_mem_nil, or_false] at mx my
  have hod : othD n (flipD n ds d) (othD n ds d) = d := by
    unfold othD at ht' ⊢
    rw [ht']
    exact Prod.ext (by dsimp only; omega) (by dsimp only; omega)
  refine ⟨hod, ?_⟩
  have hne : othD n ds d ∉ ds.erase d := fun hm => o5 (List.mem_of_mem_erase hm)
  unfold flipD at hod ⊢
  rw [hod]
  refine sortD_tri h ?_
  have p1 : ((sortD (ds.erase d ++ [othD n ds d])).erase (othD n ds d)).Perm (ds.erase d) := by
    refine ((sortD_perm _).erase _).trans ?_
    rw [List.erase_append_right _ hne, List.erase_cons_head, List.append_nil]
  exact (p1.append_right [d]).trans ((List.perm_append_comm).trans (List.perm_cons_erase hd).symm)
theorem tri_same {n : Nat} {a b : List Dg} (ha : isTri n a = true) (hb : isTri n b = true) (h : ∀ d ∈ a, ∀ e ∈ b, crossD d e = false) : a = b := by
  have hsub : ∀ d ∈ b, d ∈ a := fun d hd => tri_max ha (inDg_iff.2 (by have := (tri_rng hb).1 d hd; omega)) fun e he => by rw [crossD_comm]; exact h e he d hd
  have hsub2 : ∀ d ∈ a, d ∈ b := fun d hd => tri_max hb (inDg_iff.2 (by have := (tri_rng ha).1 d hd; omega)) fun e he => h d hd e he
  exact sorted_unique (tri_sorted ha) (tri_sorted hb) ((List.perm_ext_iff_of_nodup (tri_rng ha).2.1 (tri_rng hb).2.1).2 fun d => ⟨hsub2 d, hsub d⟩)
theorem apart_one {n : Nat} {a b : List Dg} (ha : isTri n a = true) (hb : isTri n b = true) {d : Dg} (hd : d ∈ a) (hdb : d ∉ b) (hall : ∀ f ∈ a, f ≠ d → f ∈ b) : flipD n a d = b := by
  have hf := flip_tri ha hd
  obtain ⟨o1, o2, o3, o4, o5⟩ := oth_facts ha hd
  refine tri_same hf hb fun f hfm e he => ?_
  rcases (flip_mem ha).1 hfm with h1 | h1
  · exact tri_facts hb f (hall f h1.1 h1.2) e he
  · subst h1
    by_cases hea : e ∈ a
    · by_cases hed : e = d
      · exact absurd (hed ▸ he) hdb
      · rw [crossD_comm]; exact o4 e hea hed
    · -- e crosses d and nothing else
      have hed : crossD e d = true := by
        cases hc : crossD e d with
        | true => rfl
        | false =>
          refine absurd (tri_max ha (inDg_iff.2 (by have := (tri_rng hb).1 e he; omega)) fun f hfa => ?_) hea
          by_cases hfd : f = d
          · rw [hfd]; exact hc
          · exact tri_facts hb e he f (hall f hfa hfd)
      obtain ⟨p, q, ht, h1, h2, h3⟩ := thirds_two ha hd
      have ho : othD n a d = (p, q) := by unfold othD; rw [ht]
      have mp := thirds_mem.1 (show p ∈ thirds n a d by rw [ht]; simp)
      have mq := thirds_mem.1 (show q ∈ thirds n a d by rw [ht]; simp)
      have gd := (tri_rng ha).1 d hd
      have ge := (tri_rng hb).1 e he
      have keep : ∀ u v : Int, 0 ≤ u → u < v → v < n → (u ≠ d.1 ∨ v ≠ d.2) → jn n a u v → ¬ (e.1 < u ∧ u < e.2 ∧ e.2 < v) ∧ ¬ (u < e.1 ∧ e.1 < v ∧ v < e.2) := by
        intro u v hu huv hv hne hj
        refine jn_no hb hu huv hv ?_ he
        rcases hj with hj | hj | hj
        · exact .inl hj
        · exact .inr (.inl hj)
        · refine .inr (.inr (hall _ hj fun e => ?_))
          have e1 := congrArg Prod.fst e
          have e2 := congrArg Prod.snd e
          dsimp only at e1 e2
          omega
      have hx : ¬ (¬ (d.1 < e.1 ∧ e.1 < d.2 ∧ d.2 < e.2) ∧ ¬ (e.1 < d.1 ∧ d.1 < e.2 ∧ e.2 < d.2)) := by
        intro hh
        have := cross_iff.2 hh
        rw [crossD_comm, hed] at this
        exact absurd this (by decide)
      rw [ho, cross_iff]
      dsimp only
      rcases h3 with h3 | h3
      · have j1 := keep p d.1 mp.1.1 h3.1 (by omega) (by omega) ((jo_lt h3.1).1 mp.2.2.2.1)
        have j2 := keep p d.2 mp.1.1 (by omega) (by omega) (by omega) ((jo_lt (by omega)).1 mp.2.2.2.2)
        have j3 := keep d.1 q (by omega) h3.2.1 (by omega) (by omega) ((jo_gt h3.2.1).1 mq.2.2.2.1)
        have j4 := keep q d.2 (by omega) h3.2.2 (by omega) (by omega) ((jo_lt h3.2.2).1 mq.2.2.2.2)
        omega
      · have j1 := keep d.1 p (by omega) h3.1 (by omega) (by omega) ((jo_gt h3.1).1 mp.2.2.2.1)
        have j2 := keep p d.2 (by omega) h3.2.1 (by omega) (by omega) ((jo_lt h3.2.1).1 mp.2.2.2.2)
        have j3 := keep d.1 q (by omega) (by omega) (by omega) (by omega) ((jo_gt (by omega)).1 mq.2.2.2.1)
        have j4 := keep d.2 q (by omega) h3.2.2 (by omega) (by omega) ((jo_gt h3.2.2).1 mq.2.2.2.2)
        omega


def F67_sh : FSh := ⟨[(.one (.si .i64)), (.one (.sl (.pair (.int .i64) (.int .i64)) false false)), (.ag [(.si .i64), (.si .i64)])], []⟩

def F67_L3_sh : LSh := ⟨(fun ex => match ex with | .norm => [(0, none), (1, none), (5, none), (6, none), (7, none), (8, none)] | .exit i => if i = 0 then [(6, none), (7, none)] else [] | .ret => [(6, none)]), [(0, (.one (.si .i64))), (1, (.one (.sl (.pair (.int .i64) (.int .i64)) false false))), (5, (.one (.pf 0 0 0))), (6, (.one (.pf 1 0 0))), (7, (.one (.pf 2 0 0))), (8, (.one (.si .i64)))], [(.rcd 0 [(.si .i64), (.si .i64)]), (.rcd 0 [(.si .i64), (.si .i64)]), (.rcd 0 [(.si .i64), (.si .i64)])], [⟨(.exit 0), [(6, (.one (.pf 0 0 0))), (7, (.one (.pf 1 0 0)))], [(.rcd 0 [(.si .i64), (.si .i64)]), (.rcd 0 [(.si .i64), (.si .i64)])]⟩], [], []⟩
noncomputable def F67_L3_step : ((Int × List ((Int × Int)) × Unit × Unit × Unit × Int) × ((Int × Int) × (Int × Int) × (Int × Int))) → T (((Int × List ((Int × Int)) × Unit × Unit × Unit × Int) × ((Int × Int) × (Int × Int) × (Int × Int))) ⊕ ((Unit × Unit) × ((Int × Int) × (Int × Int)))) := fun ((n, ds, (), (), (), c), ((d_0, d_1), (t6_0, t6_1), (out_0, out_1))) =>
 (.test (decide (c < n))
 (.test (c == d_0)
 (.ret (Sum.inl ((n, (ds, ((), ((), ((), (w64 (c + 1))))))), ((d_0, d_1), ((t6_0, t6_1), (out_0, out_1))))))
 (.test (c == d_1)
 (.ret (Sum.inl ((n, (ds, ((), ((), ((), (w64 (c + 1))))))), ((d_0, d_1), ((t6_0, t6_1), (out_0, out_1))))))
 (.sub (F66 (c, d_0)) fun z0 =>
 (.sub (F74 (c, d_0)) fun z1 =>
 (.sub (F66 (c, d_1)) fun z2 =>
 (.sub (F74 (c, d_1)) fun z3 =>
 (.sub (F61 (n, (ds, (z0, z1)))) fun z4 =>
 (.test (! z4)
 (.ret (Sum.inl ((n, (ds, ((), ((), ((), (w64 (c + 1))))))), ((d_0, d_1), ((t6_0, t6_1), (out_0, out_1))))))
 (.sub (F61 (n, (ds, (z2, z3)))) fun z5 =>
 (.test (! z5)
 (.ret (Sum.inl ((n, (ds, ((), ((), ((), (w64 (c + 1))))))), ((d_0, d_1), ((t6_0, t6_1), (out_0, out_1))))))
 (.test (decide (out_0 < 0))
 (.ret (Sum.inl ((n, (ds, ((), ((), ((), (w64 (c + 1))))))), ((d_0, d_1), ((t6_0, t6_1), (c, out_1))))))
 (.ret (Sum.inl ((n, (ds, ((), ((), ((), (w64 (c + 1))))))), ((d_0, d_1), ((t6_0, t6_1), (out_0, c)))))))))))))))))
 (.ret (Sum.inr (((), ()), ((t6_0, t6_1), (out_0, out_1))))))
noncomputable def F67_L3 (v : ((Int × List ((Int × Int)) × Unit × Unit × Unit × Int) × ((Int × Int) × (Int × Int) × (Int × Int)))) : Option ((Unit × Unit) × ((Int × Int) × (Int × Int))) := loopO (fun v => (F67_L3_step v).run) v

def F67_fo : List FO := [⟨[(.ag [(.si .i64), (.si .i64)])], []⟩]
noncomputable def F67_t : (Int × List ((Int × Int)) × (Int × Int)) → T (Int × Int) := fun (n, ds, (d_0, d_1)) =>
 (.sub (F67_L3 ((n, (ds, ((), ((), ((), (0 : Int)))))), ((d_0, d_1), (((0 : Int), (0 : Int)), ((-1), (-1)))))) fun z0 =>
 (.ret z0.2.2))
noncomputable def F67 (v : (Int × List ((Int × Int)) × (Int × Int))) : Option (Int × Int) := (F67_t v).run
noncomputable def F67_E : TEnv := (((E0.add1 n_F66 F66_sh F66_fo F66).add1 n_F74 F74_sh F74_fo F74).add1 n_F61 F61_sh F61_fo F61)
theorem F67_Eok : (F67_E).OK := (((E0ok.add1 F66_ok).add1 F74_ok).add1 F61_ok)
noncomputable def F67_told : Nat → Option SealT := fun id => if id = 3 then some (LSh.told F67_L3_sh 0 (F67_L3_step)) else none
theorem F67_L3_ok : ToldOK Tryz.prog 0 (loopAt (bodyOf fn_F67) [0]) (LSh.told F67_L3_sh 0 (F67_L3_step)) :=
  loop_ok (E := F67_E) (F67_Eok) (told := F67_told) (l := F67_L3_sh) (step := F67_L3_step) (loopsOK_of (ls := []) (by kernel_rfl) trivial) (by kernel_rfl) (fun v => by kernel_rfl)
theorem F67_ok : FOK Tryz.prog n_F67 F67_sh F67_fo F67 :=
  fn_ok (E := F67_E) (F67_Eok) (told := F67_told) (fl := []) (c := bodyOf fn_F67) (s := F67_sh) (l := F67_fo) (tree := F67_t) fnat_F67 (by kernel_rfl) (by kernel_rfl) (by kernel_rfl) (loopsOK_of (ls := [loopAt (bodyOf fn_F67) [0]]) (by kernel_rfl) ⟨.inr ⟨_, by kernel_rfl, F67_L3_ok⟩, trivial⟩) (fun v => by kernel_rfl)

theorem least_val (a b : Int) : F66 (a, b) = some (min a b) := by
  rw [F66, F66_t]
  simp only [T.run_test, T.run_ret]
  split <;> (rename_i hh; simp at hh; congr 1; omega)
theorem joined_jn {n : Nat} {ds : List Dg} {a b : Int} : joinD n ds a b = decide (jn n ds a b) := by
  rw [Bool.eq_iff_iff, joinD_iff, decide_eq_true_eq]; rfl
theorem F67_eq {n : Nat} {ds : List Dg} (h : isTri n ds = true) {d : Dg} (hd : d ∈ ds) : F67 ((n : Int), (ds, d)) = some (othD n ds d) := by
  obtain ⟨p, q, ht, hp0, hqn, hpq⟩ := thirds_two h hd
  have ho : othD n ds d = (p, q) := by unfold othD; rw [ht]
  have g := tri_rng h
  have gd := g.1 d hd
  obtain ⟨x, y⟩ := d
  dsimp only at gd hpq
  have mem : ∀ c : Int, 0 ≤ c → c < n → ((c ≠ x ∧ c ≠ y ∧ jo n ds c x ∧ jo n ds c y) ↔ c = p ∨ c = q) := by
    intro c h1 h2
    have := thirds_mem (n := n) (ds := ds) (d := (x, y)) (c := c)
    rw [ht] at this
    simp only [List.mem_cons, List.not_mem_nil, or_false] at this
    exact ⟨fun hh => this.2 ⟨⟨h1, h2⟩, hh⟩, fun hh => (this.1 hh).2⟩
  have key : ∀ m k : Nat, k + m = n → F67_L3 (((n : Int), (ds, ((), ((), ((), (k : Int)))))), ((x, y), (((0 : Int), (0 : Int)), ((if p < (k : Int) then p else -1), (if q < (k : Int) then q else -1))))) = some (((), ()), (((0 : Int), (0 : Int)), (p, q))) := by
    intro m
    induction m with
    | zero =>
      intro k hk
      simp only [F67_L3]
      refine loopO_done ?_
      rw [F67_L3_step, T.run_test, if_neg (by rw [decide_eq_true_eq]; omega), T.run_ret, if_pos (by omega), if_pos (by omega)]
    | succ m ih =>
      intro k hk
      have w1 : w64 ((k : Int) + 1) = ((k + 1 : Nat) : Int) := by rw [w64_id (by omega) (by omega)]; omega
      have hm := mem k (by omega) (by omega)
      rw [← ih (k + 1) (by omega)]
      simp only [F67_L3]
      refine loopO_next ?_
      rw [F67_L3_step, T.run_test, if_pos (decide_eq_true (by omega)), T.run_test]
      have same : ¬ ((k : Int) = p ∨ (k : Int) = q) → (if p < ((k + 1 : Nat) : Int) then p else -1) = (if p < (k : Int) then p else -1) ∧ (if q < ((k + 1 : Nat) : Int) then q else -1) = (if q < (k : Int) then q else -1) := by
        intro hh
        constructor
        · split <;> split <;> omega
        · split <;> split <;> omega
      by_cases c1 : (k : Int) = x
      · have := same (fun hh => by have := hm.2 hh; omega)
        rw [if_pos (by simp [c1]), T.run_ret, w1, this.1, this.2]
      rw [if_neg (by simp [c1]), T.run_test]
      by_cases c2 : (k : Int) = y
      · have := same (fun hh => by have := hm.2 hh; omega)
        rw [if_pos (by simp [c2]), T.run_ret, w1, this.1, this.2]
      have l1 : F66 ((k : Int), x) = some (min (k : Int) x) := by rw [least_val]
      have l2 : F74 ((k : Int), x) = some (max (k : Int) x) := by rw [F74_eq]; congr 1; unfold mx2; split <;> omega
      have l3 : F66 ((k : Int), y) = some (min (k : Int) y) := by rw [least_val]
      have l4 : F74 ((k : Int), y) = some (max (k : Int) y) := by rw [F74_eq]; congr 1; unfold mx2; split <;> omega
      have j1 := F61_eq n ds (min (k : Int) x) (max (k : Int) x) (by omega) (by omega) (by omega) (by omega)
      have j2 := F61_eq n ds (min (k : Int) y) (max (k : Int) y) (by omega) (by omega) (by omega) (by omega)
      rw [joined_jn] at j1 j2
      rw [if_neg (by simp [c2]), T.run_sub, l1, Option.bind_some, T.run_sub, l2, Option.bind_some, T.run_sub, l3, Option.bind_some, T.run_sub, l4, Option.bind_some, T.run_sub, j1, Option.bind_some, T.run_test]
      by_cases c3 : jo n ds (k : Int) x
      · have c3' : decide (jn n ds (min (k : Int) x) (max (k : Int) x)) = true := decide_eq_true c3
        rw [c3', if_neg (by decide), T.run_sub, j2, Option.bind_some, T.run_test]
        by_cases c4 : jo n ds (k : Int) y
        · have c4' : decide (jn n ds (min (k : Int) y) (max (k : Int) y)) = true := decide_eq_true c4
          have hk2 := hm.1 ⟨c1, c2, c3, c4⟩
          rw [c4', if_neg (by decide), T.run_test, T.run_ret, T.run_ret, w1]
          rcases hk2 with e | e
          · rw [if_pos (decide_eq_true (by rw [if_neg (by omega)]; decide)), if_pos (show p < ((k + 1 : Nat) : Int) by omega), if_neg (show ¬ q < (k : Int) by omega), if_neg (show ¬ q < ((k + 1 : Nat) : Int) by omega), e]
          · rw [if_neg (by rw [decide_eq_true_eq, if_pos (by omega)]; omega), if_pos (show p < (k : Int) by omega), if_pos (show p < ((k + 1 : Nat) : Int) by omega), if_pos (show q < ((k + 1 : Nat) : Int) by omega), e]
        · have c4' : decide (jn n ds (min (k : Int) y) (max (k : Int) y)) = false := decide_eq_false c4
          have := same (fun hh => c4 (hm.2 hh).2.2.2)
          rw [c4', if_pos (by decide), T.run_ret, w1, this.1, this.2]
      · have c3' : decide (jn n ds (min (k : Int) x) (max (k : Int) x)) = false := decide_eq_false c3
        have := same (fun hh => c3 (hm.2 hh).2.2.1)
        rw [c3', if_pos (by decide), T.run_ret, w1, this.1, this.2]
  have hk := key n 0 (by omega)
  rw [if_neg (by omega), if_neg (by omega)] at hk
  have hk' : F67_L3 (((n : Int), (ds, ((), ((), ((), (0 : Int)))))), ((x, y), (((0 : Int), (0 : Int)), ((-1), (-1))))) = _ := hk
  rw [F67, F67_t, T.run_sub, hk', Option.bind_some, T.run_ret, ho]


def F31_sh : FSh := ⟨[(.one (.pf 0 0 0)), (.one (.si .i64))], [(.rcd 0 [(.sl (.int .u8) false true), (.si .i64), (.si .u64)])]⟩

def F31_fo : List FO := [⟨[(.ag [(.si .i64), (.si .i64)])], [(.rcd 0 [(.sl (.int .u8) false true), (.si .i64), (.si .u64)])]⟩]
noncomputable def F31_t : ((Unit × Int) × (List (Int) × Int × Int)) → T ((Int × Int) × (List (Int) × Int × Int)) := fun (((), n), (c_0, c_1, c_2)) =>
 (.test (decide (n < 4))
 (.test true
 (.sub (F46 (((), [(-1), (0 : Int), (1 : Int), (2 : Int)]), (c_0, (c_1, c_2)))) fun z0 =>
 (.test true
 (.sub (F46 (((), [(0 : Int), (1 : Int), (2 : Int), (3 : Int), (4611686018427387904 : Int)]), z0.2)) fun z1 =>
 (.ret ((z0.1, z1.1), z1.2)))
 .fail))
 .fail)
 (.sub (F57 (((), (12 : Int)), (c_0, (c_1, c_2)))) fun z2 =>
 (.test z2.1
 (.test true
 (.sub (F46 (((), [(-1), (0 : Int), (1 : Int), (2 : Int)]), z2.2)) fun z3 =>
 (.test true
 (.sub (F46 (((), [(0 : Int), (1 : Int), (2 : Int), (3 : Int), (4611686018427387904 : Int)]), z3.2)) fun z4 =>
 (.ret ((z3.1, z4.1), z4.2)))
 .fail))
 .fail)
 (.sub (F51 (((), n), z2.2)) fun z5 =>
 (.sub (F51 (((), (w64 (n - 3))), z5.2)) fun z6 =>
 (.test (decide (n ≠ 0))
 (.sub (F66 (z5.1, (Int.tmod (w64 ((w64 (z5.1 + 2)) + z6.1)) n))) fun z7 =>
 (.sub (F74 (z5.1, (Int.tmod (w64 ((w64 (z5.1 + 2)) + z6.1)) n))) fun z8 =>
 (.ret ((z7, z8), z6.2))))
 .fail))))))
noncomputable def F31 (v : ((Unit × Int) × (List (Int) × Int × Int))) : Option ((Int × Int) × (List (Int) × Int × Int)) := (F31_t v).run
noncomputable def F31_E : TEnv := (((((E0.add1 n_F46 F46_sh F46_fo F46).add1 n_F57 F57_sh F57_fo F57).add1 n_F51 F51_sh F51_fo F51).add1 n_F66 F66_sh F66_fo F66).add1 n_F74 F74_sh F74_fo F74)
theorem F31_Eok : (F31_E).OK := (((((E0ok.add1 F46_ok).add1 F57_ok).add1 F51_ok).add1 F66_ok).add1 F74_ok)
noncomputable def F31_told : Nat → Option SealT := fun id => none
theorem F31_ok : FOK Tryz.prog n_F31 F31_sh F31_fo F31 :=
  fn_ok (E := F31_E) (F31_Eok) (told := F31_told) (fl := []) (c := bodyOf fn_F31) (s := F31_sh) (l := F31_fo) (tree := F31_t) fnat_F31 (by kernel_rfl) (by kernel_rfl) (by kernel_rfl) (loopsOK_of (ls := []) (by kernel_rfl) trivial) (fun v => by kernel_rfl)

theorem diagonal_ok {K : Int} {c : List Int × Int × Int} (n : Int) (hn : 0 ≤ n ∧ n ≤ 12) (h : curOK K c) (hK : K < 100000000) : ∃ d c', F31 (((), n), c) = some (d, c') ∧ curOK (K + 10) c' := by
  obtain ⟨c0, c1, c2⟩ := c
  rw [F31, F31_t, T.run_test]
  by_cases h4 : n < 4
  · obtain ⟨y, ⟨g0, g1, g2⟩, e5, _, hc5⟩ := among_ok [-1, 0, 1, 2] h (by omega) (by simp)
    obtain ⟨z, g', e6, _, hc6⟩ := among_ok [0, 1, 2, 3, 4611686018427387904] hc5 (by omega) (by simp)
    rw [if_pos (decide_eq_true h4), T.run_test, if_pos rfl, T.run_sub, e5, Option.bind_some, T.run_test, if_pos rfl, T.run_sub, e6, Option.bind_some, T.run_ret]
    exact ⟨_, _, rfl, hc6.mono (by omega)⟩
  · obtain ⟨b, d, e, hc⟩ := one_ok 12 h (by omega)
    rw [if_neg (by rw [decide_eq_true_eq]; exact h4), T.run_sub, e, Option.bind_some, T.run_test]
    dsimp only
    by_cases hb : b = true
    · obtain ⟨y, g, e5, _, hc5⟩ := among_ok [-1, 0, 1, 2] hc (by omega) (by simp)
      obtain ⟨z, g', e6, _, hc6⟩ := among_ok [0, 1, 2, 3, 4611686018427387904] hc5 (by omega) (by simp)
      rw [if_pos hb, T.run_test, if_pos rfl, T.run_sub, e5, Option.bind_some, T.run_test, if_pos rfl, T.run_sub, e6, Option.bind_some, T.run_ret]
      exact ⟨_, _, rfl, hc6.mono (by omega)⟩
    · obtain ⟨u, g, e5, _, _, _, hc5⟩ := pick_ok n hc (by omega)
      obtain ⟨w, g', e6, _, _, _, hc6⟩ := pick_ok (w64 (n - 3)) hc5 (by omega)
      rw [if_neg hb, T.run_sub, e5, Option.bind_some, T.run_sub, e6, Option.bind_some, T.run_test, if_pos (decide_eq_true (by omega)), T.run_sub, least_val, Option.bind_some, T.run_sub, F74_eq, Option.bind_some, T.run_ret]
      exact ⟨_, _, rfl, hc6.mono (by omega)⟩


theorem win_len {α : Type} (xs : List α) (o n : Nat) (h : o + n ≤ xs.length) : (win xs o n).length = n := by unfold win; rw [List.length_take, List.length_drop]; omega
theorem sureQ_loop (n : Int) (hn : n ≤ 20) : ∀ (m : Nat) (K : Int) (c : List Int × Int × Int) (out : List Int), curOK K c → K + 2 * (m : Int) < 10000000000 → 3 ≤ out.length → out.length ≤ 20 → 20 ≤ out.length + m →
    ∃ c' out', F17_L2 (((), (n, ())), (c, out)) = some ((), (c', out')) ∧ 3 ≤ out'.length ∧ out'.length ≤ 20 ∧ curOK (K + 2 * (m : Int)) c' := by
  intro m
  induction m with
  | zero =>
    intro K c out h hK h3 h20 hm
    obtain ⟨c0, c1, c2⟩ := c
    have c9 : ¬ ((out.length : Int) < n) := by omega
    refine ⟨_, out, ?_, h3, h20, h.mono (by omega)⟩
    simp only [F17_L2]
    exact loopO_done (by simp [F17_L2_step, T.run, c9])
  | succ m ih =>
    intro K c out h hK h3 h20 hm
    obtain ⟨c0, c1, c2⟩ := c
    by_cases c9 : (out.length : Int) < n
    · obtain ⟨v, ⟨d0, d1, d2⟩, e, h0, h1, h2, hc⟩ := pick_ok (out.length : Int) h (by omega)
      have h1 := h1 (by omega)
      obtain ⟨v, rfl⟩ := Int.eq_ofNat_of_zero_le h0
      have w1 : w64 (1 + (v : Int)) = ((v + 1 : Nat) : Int) := by rw [w64_id (by omega) (by omega)]; omega
      have w2 : w64 (((v + 1 : Nat) : Int) - 1) = (v : Int) := by rw [w64_id (by omega) (by omega)]; omega
      have w3 : w64 (((v + 1 : Nat) : Int) + 1) = ((v + 2 : Nat) : Int) := by rw [w64_id (by omega) (by omega)]; omega
      have hv : v < out.length := by omega
      have l1 : (win out 0 (v + 1)).length = v + 1 := win_len _ _ _ (by omega)
      have l2 : (win out (v + 1) (out.length - (v + 1))).length = out.length - (v + 1) := win_len _ _ _ (by omega)
      have ow := F83_eq (win out 0 (v + 1)) (by omega)
      obtain ⟨W1, hW1⟩ : ∃ W, W = win out 0 (v + 1) := ⟨_, rfl⟩
      obtain ⟨W2, hW2⟩ : ∃ W, W = win out (v + 1) (out.length - (v + 1)) := ⟨_, rfl⟩
      rw [← hW1] at l1 ow
      rw [← hW2] at l2
      have hw : win (W1 ++ [1]) 0 (v + 1 + 1) = W1 ++ [1] := by
        have := win_all (W1 ++ [(1 : Int)])
        rwa [List.length_append, l1] at this
      have hwa : win W1 0 (v + 1) = W1 := by have := win_all W1; rwa [l1] at this
      obtain ⟨L, hL⟩ : ∃ L, L = (W1 ++ [1]) ++ W2 := ⟨_, rfl⟩
      have hLl : L.length = v + 1 + 1 + (out.length - (v + 1)) := by rw [hL]; simp [l1, l2]; omega
      have t1 : Int.tmod ((v + 2 : Nat) : Int) ((v + 1 + 1 + (out.length - (v + 1)) : Nat) : Int) = (((v + 2) % (v + 1 + 1 + (out.length - (v + 1))) : Nat) : Int) := by
        rw [Int.tmod_eq_emod_of_nonneg (by omega)]
        rfl
      have t2 : (v + 2) % (v + 1 + 1 + (out.length - (v + 1))) < v + 1 + 1 + (out.length - (v + 1)) := Nat.mod_lt _ (by omega)
      generalize hq : (v + 2) % (v + 1 + 1 + (out.length - (v + 1))) = q at t1 t2
      have g1 : L[v]? = some (L[v]'(by omega)) := List.getElem?_eq_getElem _
      obtain ⟨x, hx⟩ : ∃ x, L[v]? = some x := ⟨_, g1⟩
      obtain ⟨y, hy⟩ : ∃ y, (L.set v (w64 (x + 1)))[q]? = some y := ⟨_, List.getElem?_eq_getElem (by rw [List.length_set]; omega)⟩
      obtain ⟨c', out', e2, r1, r2, r3⟩ := ih (K + 2) (d0, d1, d2) ((L.set v (w64 (x + 1))).set q (w64 (y + 1))) hc (by omega) (by simp only [List.length_set]; omega) (by simp only [List.length_set]; omega) (by simp only [List.length_set]; omega)
      refine ⟨c', out', ?_, r1, r2, r3.mono (by omega)⟩
      simp only [F17_L2] at e2 ⊢
      rw [← e2]
      refine loopO_next ?_
      have a1 : (0 : Int) ≤ ((v + 1 : Nat) : Int) := by omega
      have a2 : 0 ≤ v + 1 ∧ v + 1 ≤ out.length := by omega
      have a3 : 0 + (v + 1 - 0) ≤ out.length := by omega
      have a4 : 2 * ((v + 1 + 1) * 9) ≤ 140737488355328 := by omega
      have a5 : v + 1 ≤ out.length ∧ out.length ≤ out.length := by omega
      have a6 : 0 + (v + 1) + (out.length - (v + 1)) ≤ out.length := by omega
      have a7 : 2 * ((v + 1 + 1 + (out.length - (v + 1))) * 9) ≤ 140737488355328 := by omega
      have a8 : (0 : Int) ≤ (v : Int) ∧ (v : Int) < ((v + 1 + 1 + (out.length - (v + 1)) : Nat) : Int) := by omega
      have a9 : ((v + 1 + 1 + (out.length - (v + 1)) : Nat) : Int) ≠ 0 := by omega
      have a10 : (0 : Int) ≤ (q : Int) ∧ (q : Int) < ((v + 1 + 1 + (out.length - (v + 1)) : Nat) : Int) := by omega
      rw [F17_L2_step, T.run_test, if_pos (decide_eq_true c9), T.run_sub, e, Option.bind_some]
      simp only [w1, Int.toNat_natCast, Nat.sub_zero, Nat.zero_add, ← hW1, ← hW2]
      rw [T.run_test, if_pos (decide_eq_true a1), T.run_test, if_pos (decide_eq_true a2), T.run_test, if_pos (decide_eq_true (by omega)), T.run_sub, ow, Option.bind_some]
      simp only [l1, l2, hwa, win_one, hw, w2, w3, Int.toNat_natCast, ← hL, List.length_append, List.length_singleton]
      have e0 : (((v + 1 : Nat) : Int) + 1 + ((out.length - (v + 1) : Nat) : Int)) = ((v + 1 + 1 + (out.length - (v + 1)) : Nat) : Int) := by push_cast; omega
      simp only [e0, t1, Int.toNat_natCast, List.length_set, hLl]
      rw [T.run_test, if_pos (by first | rfl | exact decide_eq_true (by omega))]
      rw [T.run_test, if_pos (by first | rfl | exact decide_eq_true (by omega))]
      rw [T.run_test, if_pos (by first | rfl | exact decide_eq_true (by omega))]
      rw [T.run_test, if_pos (by first | rfl | exact decide_eq_true (by omega))]
      rw [T.run_test, if_pos (by first | rfl | exact decide_eq_true (by omega))]
      rw [T.run_test, if_pos (by first | rfl | exact decide_eq_true (by omega))]
      rw [T.run_test, if_pos (by first | rfl | exact decide_eq_true (by omega))]
      rw [T.run_test, if_pos (by first | rfl | exact decide_eq_true (by omega))]
      rw [T.run_test, if_pos (by first | rfl | exact decide_eq_true (by omega))]
      rw [T.run_sub, hx, Option.bind_some]
      rw [T.run_test, if_pos (by first | rfl | exact decide_eq_true (by omega))]
      rw [T.run_sub, Option.bind_some]
      rw [T.run_test, if_pos (by first | rfl | exact decide_eq_true (by omega))]
      rw [T.run_test, if_pos (by first | rfl | exact decide_eq_true (by omega))]
      rw [T.run_sub, hy, Option.bind_some]
      rw [T.run_test, if_pos (by first | rfl | exact decide_eq_true (by omega))]
      rw [T.run_sub, Option.bind_some]
      rw [T.run_test, if_pos (by simp)]
      rfl
    · refine ⟨_, out, ?_, h3, h20, h.mono (by omega)⟩
      simp only [F17_L2]
      exact loopO_done (by simp [F17_L2_step, T.run, c9])
theorem sureQ_ok {K : Int} {c : List Int × Int × Int} (n : Int) (hn : n ≤ 20) (h : curOK K c) (hK : K < 1000000000) :
    ∃ c' out', F17 (((), n), c) = some ((), (c', out')) ∧ 3 ≤ out'.length ∧ out'.length ≤ 20 ∧ curOK (K + 40) c' := by
  obtain ⟨c0, c1, c2⟩ := c
  obtain ⟨⟨d0, d1, d2⟩, out', e, h1, h2, h3⟩ := sureQ_loop n hn 17 K (c0, c1, c2) [1, 1, 1] h (by omega) (by simp) (by simp) (by simp)
  refine ⟨(d0, d1, d2), out', ?_, h1, h2, h3.mono (by omega)⟩
  rw [F17, F17_t, T.run_test, if_pos (by simp), T.run_sub, show (List.set (List.set (List.set (List.replicate 3 (0 : Int)) 0 (1 : Int)) 1 (1 : Int)) 2 (1 : Int)) = [1, 1, 1] from rfl, e, Option.bind_some, T.run_test, if_pos (by simp), T.run_ret]
theorem polygon_ok {K : Int} {c : List Int × Int × Int} (N : Int) (hN : 3 ≤ N ∧ N ≤ 12) (h : curOK K c) (hK : K < 100000000) :
    ∃ n ds c', F36 (((), N), c) = some ((n, ()), (c', ds)) ∧ ds.length ≤ 20 ∧ curOK (K + 60) c' := by
  obtain ⟨c0, c1, c2⟩ := c
  obtain ⟨v, d, e, h0, h1, _, hc⟩ := pick_ok (N - 2) h (by omega)
  have h1 := h1 (by omega)
  have w0 : w64 (N - 2) = N - 2 := w64_id (by omega) (by omega)
  have w1 : w64 (3 + v) = 3 + v := w64_id (by omega) (by omega)
  have w2 : w64 (3 + v + 1) = 3 + v + 1 := w64_id (by omega) (by omega)
  obtain ⟨a, out, e2, g1, g2, hc2⟩ := sureQ_ok (3 + v) (by omega) hc (by omega)
  obtain ⟨r, hr, ep, hds⟩ := F98_eq out (by omega)
  obtain ⟨u, b, e3, u0, u1, _, hc3⟩ := pick_ok 16 hc2 (by omega)
  obtain ⟨z, hz, hzl⟩ : ∃ z : (Unit × Bool) × List Dg, F98 out = some z ∧ z.2.length ≤ 9 := by
    refine ⟨_, ep, ?_⟩
    cases ht : trOf out with
    | none => exact hr
    | some ds => exact hds (by rw [ht]; rfl) ds ht
  obtain ⟨zb, ds⟩ := z
  simp only at hzl
  rw [F36, F36_t, T.run_sub, w0, e, Option.bind_some, T.run_sub, w1, e2, Option.bind_some]
  simp only [win_all]
  rw [T.run_test, if_pos (by simp), T.run_sub, hz, Option.bind_some, T.run_sub, e3, Option.bind_some, T.run_test]
  dsimp only
  by_cases c0 : (u == 0) = true
  · rw [if_pos c0, T.run_test]
    by_cases hd : (ds.length : Int) > 0
    · obtain ⟨x, f, e4, x0, x1, _, hc4⟩ := pick_ok (ds.length : Int) hc3 (by omega)
      have x1 := x1 (by omega)
      obtain ⟨y, g, e5, _, hc5⟩ := among_ok [-1, 0, 1] hc4 (by omega) (by simp)
      obtain ⟨y2, g2, e6, _, hc6⟩ := among_ok [1, 2, 3, 3 + v, 4611686018427387904] hc5 (by omega) (by simp)
      have hlt : x.toNat < ds.length := by omega
      rw [if_pos (decide_eq_true hd), T.run_sub, e4, Option.bind_some, T.run_test, if_pos rfl, T.run_sub, e5, Option.bind_some, T.run_test, if_pos (by simp), T.run_sub, e6, Option.bind_some, T.run_test, if_pos (decide_eq_true ⟨x0, x1⟩), T.run_sub, Nat.zero_add, List.getElem?_eq_getElem hlt, Option.bind_some, T.run_test, if_pos (by simp), T.run_ret]
      exact ⟨_, _, _, rfl, by rw [List.length_set]; omega, hc6.mono (by omega)⟩
    · rw [if_neg (by rw [decide_eq_true_eq]; exact hd), T.run_test, if_pos (by simp), T.run_ret]
      exact ⟨_, _, _, rfl, by omega, hc3.mono (by omega)⟩
  rw [if_neg c0, T.run_test]
  by_cases c1 : (u == 1) = true
  · obtain ⟨y, g, e5, _, hc5⟩ := among_ok [-1, 2, 3 + v + 1, 4611686018427387904] hc3 (by omega) (by simp)
    rw [if_pos c1, T.run_test, if_pos (by simp), T.run_sub, w2, e5, Option.bind_some, T.run_test, if_pos (by simp), T.run_ret]
    exact ⟨_, _, _, rfl, by omega, hc5.mono (by omega)⟩
  rw [if_neg c1, T.run_test]
  by_cases c2 : (u == 2) = true
  · rw [if_pos c2, T.run_test, if_pos rfl, T.run_test, if_pos (by simp), T.run_test, if_pos (decide_eq_true (by omega)), T.run_test, if_pos (by simp), T.run_ret]
    exact ⟨_, _, _, rfl, by rw [List.length_append, List.length_singleton]; omega, hc3.mono (by omega)⟩
  rw [if_neg c2, T.run_test, if_pos (by simp), T.run_ret]
  exact ⟨_, _, _, rfl, by omega, hc3.mono (by omega)⟩


def F37_sh : FSh := ⟨[(.one (.pf 0 0 0)), (.one (.si .i64))], [(.rcd 0 [(.sl (.int .u8) false true), (.si .i64), (.si .u64)])]⟩

def F37_fo : List FO := [⟨[(.one (.si .i64)), (.one (.rw 1 0)), (.ag [(.si .i64), (.si .i64)])], [(.rcd 0 [(.sl (.int .u8) false true), (.si .i64), (.si .u64)]), (.row 0 (.pair (.int .i64) (.int .i64)))]⟩]
noncomputable def F37_t : ((Unit × Int) × (List (Int) × Int × Int)) → T ((Int × Unit × (Int × Int)) × ((List (Int) × Int × Int) × List ((Int × Int)))) := fun (((), most), (c_0, c_1, c_2)) =>
 (.sub (F36 (((), most), (c_0, (c_1, c_2)))) fun z0 =>
 (.test (decide (((List.length z0.2.2) : Int) > 0))
 (.sub (F57 (((), (6 : Int)), z0.2.1)) fun z1 =>
 (.test (! z1.1)
 (.sub (F51 (((), ((List.length z0.2.2) : Int)), z1.2)) fun z2 =>
 (.test (decide ((0 ≤ z2.1) ∧ (z2.1 < ((List.length z0.2.2) : Int))))
 (.sub (z0.2.2[(0 + (Int.toNat z2.1))]?) fun z3 =>
 (.test (decide ((0 = 0) ∧ ((List.length z0.2.2) = (List.length z0.2.2))))
 (.ret ((z0.1.1, ((), z3)), (z2.2, z0.2.2)))
 .fail))
 .fail))
 (.sub (F66 ((12 : Int), z0.1.1)) fun z4 =>
 (.sub (F74 ((0 : Int), z4)) fun z5 =>
 (.sub (F31 (((), z5), z1.2)) fun z6 =>
 (.test (decide ((0 = 0) ∧ ((List.length z0.2.2) = (List.length z0.2.2))))
 (.ret ((z0.1.1, ((), z6.1)), (z6.2, z0.2.2)))
 .fail))))))
 (.sub (F66 ((12 : Int), z0.1.1)) fun z7 =>
 (.sub (F74 ((0 : Int), z7)) fun z8 =>
 (.sub (F31 (((), z8), z0.2.1)) fun z9 =>
 (.test (decide ((0 = 0) ∧ ((List.length z0.2.2) = (List.length z0.2.2))))
 (.ret ((z0.1.1, ((), z9.1)), (z9.2, z0.2.2)))
 .fail))))))
noncomputable def F37 (v : ((Unit × Int) × (List (Int) × Int × Int))) : Option ((Int × Unit × (Int × Int)) × ((List (Int) × Int × Int) × List ((Int × Int)))) := (F37_t v).run
noncomputable def F37_E : TEnv := ((((((E0.add1 n_F36 F36_sh F36_fo F36).add1 n_F57 F57_sh F57_fo F57).add1 n_F51 F51_sh F51_fo F51).add1 n_F66 F66_sh F66_fo F66).add1 n_F74 F74_sh F74_fo F74).add1 n_F31 F31_sh F31_fo F31)
theorem F37_Eok : (F37_E).OK := ((((((E0ok.add1 F36_ok).add1 F57_ok).add1 F51_ok).add1 F66_ok).add1 F74_ok).add1 F31_ok)
noncomputable def F37_told : Nat → Option SealT := fun id => none
theorem F37_ok : FOK Tryz.prog n_F37 F37_sh F37_fo F37 :=
  fn_ok (E := F37_E) (F37_Eok) (told := F37_told) (fl := []) (c := bodyOf fn_F37) (s := F37_sh) (l := F37_fo) (tree := F37_t) fnat_F37 (by kernel_rfl) (by kernel_rfl) (by kernel_rfl) (loopsOK_of (ls := []) (by kernel_rfl) trivial) (fun v => by kernel_rfl)

theorem clamp_val (n : Int) : ∃ z, F66 ((12 : Int), n) = some (min 12 n) ∧ F74 ((0 : Int), min 12 n) = some z ∧ 0 ≤ z ∧ z ≤ 12 := by
  refine ⟨mx2 0 (min 12 n), least_val _ _, F74_eq _ _, ?_, ?_⟩
  · unfold mx2; split <;> omega
  · unfold mx2; split <;> omega
theorem flipped_ok {K : Int} {c : List Int × Int × Int} (h : curOK K c) (hK : K < 1000000) : ∃ n d ds c', F37 (((), (10 : Int)), c) = some ((n, ((), d)), (c', ds)) ∧ ds.length ≤ 20 := by
  obtain ⟨c0, c1, c2⟩ := c
  obtain ⟨n, ds, c', e, hl, hc⟩ := polygon_ok 10 (by omega) h (by omega)
  obtain ⟨z, l1, l2, z0, z1⟩ := clamp_val n
  rw [F37, F37_t, T.run_sub, e, Option.bind_some, T.run_test]
  dsimp only
  by_cases hd : (ds.length : Int) > 0
  · obtain ⟨b, d, e2, hc2⟩ := one_ok 6 hc (by omega)
    rw [if_pos (decide_eq_true hd), T.run_sub, e2, Option.bind_some, T.run_test]
    dsimp only
    by_cases hb : (!b) = true
    · obtain ⟨x, f, e4, x0, x1, _, hc4⟩ := pick_ok (ds.length : Int) hc2 (by omega)
      have x1 := x1 (by omega)
      have hlt : 0 + x.toNat < ds.length := by omega
      rw [if_pos hb, T.run_sub, e4, Option.bind_some, T.run_test, if_pos (decide_eq_true ⟨x0, x1⟩), T.run_sub, List.getElem?_eq_getElem hlt, Option.bind_some, T.run_test, if_pos (by simp), T.run_ret]
      exact ⟨_, _, _, _, rfl, hl⟩
    · obtain ⟨d', c3, e5, hc5⟩ := diagonal_ok z ⟨z0, z1⟩ hc2 (by omega)
      rw [if_neg hb, T.run_sub, l1, Option.bind_some, T.run_sub, l2, Option.bind_some, T.run_sub, e5, Option.bind_some, T.run_test, if_pos (by simp), T.run_ret]
      exact ⟨_, _, _, _, rfl, hl⟩
  · obtain ⟨d', c3, e5, hc5⟩ := diagonal_ok z ⟨z0, z1⟩ hc (by omega)
    rw [if_neg (by rw [decide_eq_true_eq]; exact hd), T.run_sub, l1, Option.bind_some, T.run_sub, l2, Option.bind_some, T.run_sub, e5, Option.bind_some, T.run_test, if_pos (by simp), T.run_ret]
    exact ⟨_, _, _, _, rfl, hl⟩


def F22_sh : FSh := ⟨[(.one (.sl (.int .u8) false true))], []⟩

def F22_fo : List FO := [⟨[(.one (.si .i64)), (.one (.rw 0 0)), (.ag [(.si .i64), (.si .i64)])], [(.row 0 (.pair (.int .i64) (.int .i64)))]⟩]
noncomputable def F22_t : List (Int) → T ((Int × Unit × (Int × Int)) × List ((Int × Int))) := fun code =>
 (.sub (F37 (((), (10 : Int)), (code, ((0 : Int), (0 : Int))))) fun z0 =>
 (.test (decide ((0 = 0) ∧ ((List.length z0.2.2) = (List.length z0.2.2))))
 (.ret ((z0.1.1, ((), z0.1.2.2)), z0.2.2))
 .fail))
noncomputable def F22 (v : List (Int)) : Option ((Int × Unit × (Int × Int)) × List ((Int × Int))) := (F22_t v).run
noncomputable def F22_E : TEnv := (E0.add1 n_F37 F37_sh F37_fo F37)
theorem F22_Eok : (F22_E).OK := (E0ok.add1 F37_ok)
noncomputable def F22_told : Nat → Option SealT := fun id => none
theorem F22_ok : FOK Tryz.prog n_F22 F22_sh F22_fo F22 :=
  fn_ok (E := F22_E) (F22_Eok) (told := F22_told) (fl := []) (c := bodyOf fn_F22) (s := F22_sh) (l := F22_fo) (tree := F22_t) fnat_F22 (by kernel_rfl) (by kernel_rfl) (by kernel_rfl) (loopsOK_of (ls := []) (by kernel_rfl) trivial) (fun v => by kernel_rfl)

theorem F22_some {code : List Int} (h : bytesOK code) : ∃ n d ds, F22 code = some ((n, ((), d)), ds) ∧ ds.length ≤ 20 := by
  obtain ⟨n, d, ds, c', e, hl⟩ := flipped_ok (cur0 h) (by omega)
  rw [F22, F22_t, T.run_sub, e, Option.bind_some, T.run_test, if_pos (by simp), T.run_ret]
  exact ⟨_, _, _, rfl, hl⟩


def F76_sh : FSh := ⟨[(.one (.si .i64)), (.one (.si .i64)), (.one (.si .i64))], []⟩

def F76_fo : List FO := [⟨[(.one .sb)], []⟩]
noncomputable def F76_t : (Int × Int × Int) → T Bool := fun (n, low, high) =>
 (.test (decide (n ≥ low))
 (.ret (decide (n ≤ high)))
 (.ret false))
noncomputable def F76 (v : (Int × Int × Int)) : Option Bool := (F76_t v).run
noncomputable def F76_E : TEnv := E0
theorem F76_Eok : (F76_E).OK := E0ok
noncomputable def F76_told : Nat → Option SealT := fun id => none
theorem F76_ok : FOK Tryz.prog n_F76 F76_sh F76_fo F76 :=
  fn_ok (E := F76_E) (F76_Eok) (told := F76_told) (fl := []) (c := bodyOf fn_F76) (s := F76_sh) (l := F76_fo) (tree := F76_t) fnat_F76 (by kernel_rfl) (by kernel_rfl) (by kernel_rfl) (loopsOK_of (ls := []) (by kernel_rfl) trivial) (fun v => by kernel_rfl)

theorem F76_eq (n low high : Int) : F76 (n, low, high) = some (inB low high n) := by
  simp only [F76, F76_t, T.run, ge_iff_le, decide_eq_true_eq, inB]
  by_cases h : low ≤ n <;> simp [h]


def F58_sh : FSh := ⟨[(.one (.si .i64))], []⟩

def F58_fo : List FO := [⟨[(.one .sb)], []⟩]
noncomputable def F58_t : Int → T Bool := fun n =>
 (.sub (F76 (n, ((3 : Int), (12 : Int)))) fun z0 =>
 (.ret z0))
noncomputable def F58 (v : Int) : Option Bool := (F58_t v).run
noncomputable def F58_E : TEnv := (E0.add1 n_F76 F76_sh F76_fo F76)
theorem F58_Eok : (F58_E).OK := (E0ok.add1 F76_ok)
noncomputable def F58_told : Nat → Option SealT := fun id => none
theorem F58_ok : FOK Tryz.prog n_F58 F58_sh F58_fo F58 :=
  fn_ok (E := F58_E) (F58_Eok) (told := F58_told) (fl := []) (c := bodyOf fn_F58) (s := F58_sh) (l := F58_fo) (tree := F58_t) fnat_F58 (by kernel_rfl) (by kernel_rfl) (by kernel_rfl) (loopsOK_of (ls := []) (by kernel_rfl) trivial) (fun v => by kernel_rfl)

def F52_sh : FSh := ⟨[(.one (.si .i64)), (.ag [(.si .i64), (.si .i64)])], []⟩

def F52_fo : List FO := [⟨[(.one .sb)], []⟩]
noncomputable def F52_t : (Int × (Int × Int)) → T Bool := fun (n, (d_0, d_1)) =>
 (.sub (F76 (d_0, ((0 : Int), (w64 (n - 1))))) fun z0 =>
 (.test z0
 (.sub (F76 (d_1, ((0 : Int), (w64 (n - 1))))) fun z1 =>
 (.test z1
 (.test (decide ((w64 (d_1 - d_0)) > 1))
 (.test (d_0 == 0)
 (.ret (! (d_1 == (w64 (n - 1)))))
 (.ret true))
 (.ret false))
 (.ret false)))
 (.ret false)))
noncomputable def F52 (v : (Int × (Int × Int))) : Option Bool := (F52_t v).run
noncomputable def F52_E : TEnv := (E0.add1 n_F76 F76_sh F76_fo F76)
theorem F52_Eok : (F52_E).OK := (E0ok.add1 F76_ok)
noncomputable def F52_told : Nat → Option SealT := fun id => none
theorem F52_ok : FOK Tryz.prog n_F52 F52_sh F52_fo F52 :=
  fn_ok (E := F52_E) (F52_Eok) (told := F52_told) (fl := []) (c := bodyOf fn_F52) (s := F52_sh) (l := F52_fo) (tree := F52_t) fnat_F52 (by kernel_rfl) (by kernel_rfl) (by kernel_rfl) (loopsOK_of (ls := []) (by kernel_rfl) trivial) (fun v => by kernel_rfl)

theorem F52_eq (n : Int) (d : Dg) (h1 : 0 ≤ n) (h2 : n ≤ 1000000) : F52 (n, d) = some (inDg n d) := by
  obtain ⟨a, b⟩ := d
  have w1 : w64 (n - 1) = n - 1 := w64_id (by omega) (by omega)
  simp only [F52, F52_t, T.run, F76_eq, Option.bind_some, w1, inDg]
  cases ha : inB 0 (n - 1) a with
  | false => simp
  | true =>
    cases hb : inB 0 (n - 1) b with
    | false => simp
    | true =>
      rw [inB_iff] at ha hb
      have w2 : w64 (b - a) = b - a := w64_id (by omega) (by omega)
      rw [w2]
      by_cases h4 : a = 0
      · subst h4
        rw [Int.sub_zero]
        by_cases h5 : b > 1 <;> simp [h5, beq_int]
      · by_cases h5 : b - a > 1 <;> simp [h5, h4]


def F47_sh : FSh := ⟨[(.one (.si .i64))], []⟩

def F47_fo : List FO := [⟨[(.one .sb)], []⟩]
noncomputable def F47_t : Int → T Bool := fun x =>
 (.ret (x != x))
noncomputable def F47 (v : Int) : Option Bool := (F47_t v).run
noncomputable def F47_E : TEnv := E0
theorem F47_Eok : (F47_E).OK := E0ok
noncomputable def F47_told : Nat → Option SealT := fun id => none
theorem F47_ok : FOK Tryz.prog n_F47 F47_sh F47_fo F47 :=
  fn_ok (E := F47_E) (F47_Eok) (told := F47_told) (fl := []) (c := bodyOf fn_F47) (s := F47_sh) (l := F47_fo) (tree := F47_t) fnat_F47 (by kernel_rfl) (by kernel_rfl) (by kernel_rfl) (loopsOK_of (ls := []) (by kernel_rfl) trivial) (fun v => by kernel_rfl)

def F38_sh : FSh := ⟨[(.one (.si .i64)), (.one (.si .i64))], []⟩

def F38_fo : List FO := [⟨[(.one (.si .i64))], []⟩]
noncomputable def F38_t : (Int × Int) → T Int := fun (x, y) =>
 (.sub (F47 x) fun z0 =>
 (.sub (F47 y) fun z1 =>
 (.test z0
 (.test z1
 (.ret (0 : Int))
 (.ret (-1)))
 (.test z1
 (.ret (1 : Int))
 (.test (decide (x < y))
 (.ret (-1))
 (.test (decide (x > y))
 (.ret (1 : Int))
 (.ret (0 : Int))))))))
noncomputable def F38 (v : (Int × Int)) : Option Int := (F38_t v).run
noncomputable def F38_E : TEnv := (E0.add1 n_F47 F47_sh F47_fo F47)
theorem F38_Eok : (F38_E).OK := (E0ok.add1 F47_ok)
noncomputable def F38_told : Nat → Option SealT := fun id => none
theorem F38_ok : FOK Tryz.prog n_F38 F38_sh F38_fo F38 :=
  fn_ok (E := F38_E) (F38_Eok) (told := F38_told) (fl := []) (c := bodyOf fn_F38) (s := F38_sh) (l := F38_fo) (tree := F38_t) fnat_F38 (by kernel_rfl) (by kernel_rfl) (by kernel_rfl) (loopsOK_of (ls := []) (by kernel_rfl) trivial) (fun v => by kernel_rfl)

theorem F38_eq (a b : Int) : F38 (a, b) = some (if a < b then -1 else if b < a then 1 else 0) := by
  have h : ∀ x, F47 x = some false := fun x => by simp [F47, F47_t, T.run]
  simp only [F38, F38_t, T.run, h, Option.bind_some]
  by_cases h1 : a < b
  · simp [h1]
  · by_cases h2 : b < a <;> simp [h1, h2]


def F62_sh : FSh := ⟨[(.one (.sl (.int .i64) false false))], []⟩

def F62_L3_sh : LSh := ⟨(fun ex => match ex with | .norm => [(3, none), (6, none), (7, none), (8, none)] | .exit i => if i = 0 then [(3, none)] else [] | .ret => [(2, none)]), [(3, (.one (.si .i64))), (6, (.one (.sl (.int .i64) false false))), (7, (.one (.si .i64))), (8, (.one (.si .i64)))], [], [⟨.ret, [(2, (.one (.si .i64)))], []⟩, ⟨(.exit 0), [(3, (.one (.si .i64)))], []⟩], [], []⟩
noncomputable def F62_L3_step : (Int × List (Int) × Int × Int) → T ((Int × List (Int) × Int × Int) ⊕ (Int ⊕ Int)) := fun (zero, t6, t7, t8) =>
 (.test (decide (t8 < t7))
 (.test (decide ((0 ≤ t8) ∧ (t8 < ((List.length t6) : Int))))
 (.sub (t6[(Int.toNat t8)]?) fun z0 =>
 (.test (z0 != zero)
 (.ret (Sum.inr (Sum.inl z0)))
 (.ret (Sum.inl (zero, (t6, (t7, (w64 (t8 + 1)))))))))
 .fail)
 (.ret (Sum.inr (Sum.inr zero))))
noncomputable def F62_L3 (v : (Int × List (Int) × Int × Int)) : Option (Int ⊕ Int) := loopO (fun v => (F62_L3_step v).run) v

def F62_fo : List FO := [⟨[(.one (.si .i64))], []⟩]
noncomputable def F62_t : List (Int) → T Int := fun vals =>
 (.sub (F62_L3 ((0 : Int), (vals, (((List.length vals) : Int), (0 : Int))))) fun z0 =>
 (.test (Sum.isLeft z0)
 (.sub (Sum.getLeft? z0) fun z1 =>
 (.ret z1))
 (.sub (Sum.getRight? z0) fun z2 =>
 (.ret z2))))
noncomputable def F62 (v : List (Int)) : Option Int := (F62_t v).run
noncomputable def F62_E : TEnv := E0
theorem F62_Eok : (F62_E).OK := E0ok
noncomputable def F62_told : Nat → Option SealT := fun id => if id = 3 then some (LSh.told F62_L3_sh 0 (F62_L3_step)) else none
theorem F62_L3_ok : ToldOK Tryz.prog 0 (loopAt (bodyOf fn_F62) [0]) (LSh.told F62_L3_sh 0 (F62_L3_step)) :=
  loop_ok (E := F62_E) (F62_Eok) (told := F62_told) (l := F62_L3_sh) (step := F62_L3_step) (loopsOK_of (ls := []) (by kernel_rfl) trivial) (by kernel_rfl) (fun v => by kernel_rfl)
theorem F62_ok : FOK Tryz.prog n_F62 F62_sh F62_fo F62 :=
  fn_ok (E := F62_E) (F62_Eok) (told := F62_told) (fl := []) (c := bodyOf fn_F62) (s := F62_sh) (l := F62_fo) (tree := F62_t) fnat_F62 (by kernel_rfl) (by kernel_rfl) (by kernel_rfl) (loopsOK_of (ls := [loopAt (bodyOf fn_F62) [0]]) (by kernel_rfl) ⟨.inr ⟨_, by kernel_rfl, F62_L3_ok⟩, trivial⟩) (fun v => by kernel_rfl)

theorem F62_two (a b : Int) : F62 [a, b] = some (if a = 0 then b else a) := by
  simp only [F62, F62_t, T.run, F62_L3]
  rw [loopO_step]
  simp only [F62_L3_step, T.run]
  by_cases ha : a = 0
  · subst ha
    simp [w64_id (z := 1)]
    rw [loopO_step]
    simp only [F62_L3_step, T.run]
    by_cases hb : b = 0
    · subst hb
      simp [w64_id (z := 2)]
      rw [loopO_step]
      simp [F62_L3_step, T.run]
    · simp [hb]
  · simp [ha]


def F23_sh : FSh := ⟨[(.ag [(.si .i64), (.si .i64)]), (.ag [(.si .i64), (.si .i64)])], []⟩

def F23_fo : List FO := [⟨[(.one (.si .i64))], []⟩]
noncomputable def F23_t : ((Int × Int) × (Int × Int)) → T Int := fun ((a_0, a_1), (b_0, b_1)) =>
 (.sub (F38 (a_0, b_0)) fun z0 =>
 (.sub (F38 (a_1, b_1)) fun z1 =>
 (.test (decide (2 ≤ (List.length (List.set (List.set (List.replicate 2 (0 : Int)) 0 z0) 1 z1))))
 (.sub (F62 (win (List.set (List.set (List.replicate 2 (0 : Int)) 0 z0) 1 z1) 0 2)) fun z2 =>
 (.ret z2))
 .fail)))
noncomputable def F23 (v : ((Int × Int) × (Int × Int))) : Option Int := (F23_t v).run
noncomputable def F23_E : TEnv := ((E0.add1 n_F38 F38_sh F38_fo F38).add1 n_F62 F62_sh F62_fo F62)
theorem F23_Eok : (F23_E).OK := ((E0ok.add1 F38_ok).add1 F62_ok)
noncomputable def F23_told : Nat → Option SealT := fun id => none
theorem F23_ok : FOK Tryz.prog n_F23 F23_sh F23_fo F23 :=
  fn_ok (E := F23_E) (F23_Eok) (told := F23_told) (fl := []) (c := bodyOf fn_F23) (s := F23_sh) (l := F23_fo) (tree := F23_t) fnat_F23 (by kernel_rfl) (by kernel_rfl) (by kernel_rfl) (loopsOK_of (ls := []) (by kernel_rfl) trivial) (fun v => by kernel_rfl)

theorem F23_eq (d e : Dg) : F23 (d, e) = some (cmpD d e) := by
  obtain ⟨a, b⟩ := d
  obtain ⟨c, f⟩ := e
  have h2 : win (List.set (List.set (List.replicate 2 (0 : Int)) 0 (if a < c then -1 else if c < a then 1 else 0)) 1 (if b < f then -1 else if f < b then 1 else 0)) 0 2 = [if a < c then -1 else if c < a then 1 else 0, if b < f then -1 else if f < b then 1 else 0] := rfl
  simp only [F23, F23_t, T.run, F38_eq, Option.bind_some, h2, F62_two]
  simp only [List.length_set, List.length_replicate, Nat.le_refl, decide_true, if_true]
  congr 1
  unfold cmpD ltD
  simp only [decide_eq_true_eq]
  split <;> split <;> (try split) <;> (try split) <;> omega
theorem cmpD_lt (d e : Dg) : decide (cmpD d e < 0) = ltD d e := by
  unfold cmpD
  cases ltD d e <;> simp
  split <;> omega
theorem cmpD_ge (d e : Dg) : decide (cmpD d e ≥ 0) = !ltD d e := by
  unfold cmpD
  cases ltD d e <;> simp
  split <;> omega


def F68_sh : FSh := ⟨[(.ag [(.si .i64), (.si .i64)]), (.ag [(.si .i64), (.si .i64)])], []⟩

def F68_fo : List FO := [⟨[(.one .sb)], []⟩]
noncomputable def F68_t : ((Int × Int) × (Int × Int)) → T Bool := fun ((d_0, d_1), (e_0, e_1)) =>
 (.test (decide (d_0 < e_0))
 (.test (decide (e_0 < d_1))
 (.test (decide (d_1 < e_1))
 (.ret true)
 (.test (decide (e_0 < d_0))
 (.test (decide (d_0 < e_1))
 (.ret (decide (e_1 < d_1)))
 (.ret false))
 (.ret false)))
 (.test (decide (e_0 < d_0))
 (.test (decide (d_0 < e_1))
 (.ret (decide (e_1 < d_1)))
 (.ret false))
 (.ret false)))
 (.test (decide (e_0 < d_0))
 (.test (decide (d_0 < e_1))
 (.ret (decide (e_1 < d_1)))
 (.ret false))
 (.ret false)))
noncomputable def F68 (v : ((Int × Int) × (Int × Int))) : Option Bool := (F68_t v).run
noncomputable def F68_E : TEnv := E0
theorem F68_Eok : (F68_E).OK := E0ok
noncomputable def F68_told : Nat → Option SealT := fun id => none
theorem F68_ok : FOK Tryz.prog n_F68 F68_sh F68_fo F68 :=
  fn_ok (E := F68_E) (F68_Eok) (told := F68_told) (fl := []) (c := bodyOf fn_F68) (s := F68_sh) (l := F68_fo) (tree := F68_t) fnat_F68 (by kernel_rfl) (by kernel_rfl) (by kernel_rfl) (loopsOK_of (ls := []) (by kernel_rfl) trivial) (fun v => by kernel_rfl)

theorem F68_eq (d e : Dg) : F68 (d, e) = some (crossD d e) := by
  obtain ⟨a, b⟩ := d
  obtain ⟨c, f⟩ := e
  simp only [F68, F68_t, T.run, crossD]
  by_cases h1 : a < c <;> by_cases h2 : c < b <;> by_cases h3 : b < f <;> by_cases h4 : c < a <;> by_cases h5 : a < f <;> by_cases h6 : f < b <;> simp [h1, h2, h3, h4, h5, h6]


def F18_sh : FSh := ⟨[(.ag [(.si .i64), (.si .i64)]), (.one (.pf 0 0 0))], [(.rcd 0 [(.si .i64), (.si .i64)])]⟩

def F18_fo : List FO := [⟨[(.one .sb)], [(.rcd 0 [(.si .i64), (.si .i64)])]⟩]
noncomputable def F18_t : (((Int × Int) × Unit) × (Int × Int)) → T (Bool × (Int × Int)) := fun (((e_0, e_1), ()), (t1_0, t1_1)) =>
 (.sub (F68 ((t1_0, t1_1), (e_0, e_1))) fun z0 =>
 (.ret (z0, (t1_0, t1_1))))
noncomputable def F18 (v : (((Int × Int) × Unit) × (Int × Int))) : Option (Bool × (Int × Int)) := (F18_t v).run
noncomputable def F18_E : TEnv := (E0.add1 n_F68 F68_sh F68_fo F68)
theorem F18_Eok : (F18_E).OK := (E0ok.add1 F68_ok)
noncomputable def F18_told : Nat → Option SealT := fun id => none
theorem F18_ok : FOK Tryz.prog n_F18 F18_sh F18_fo F18 :=
  fn_ok (E := F18_E) (F18_Eok) (told := F18_told) (fl := []) (c := bodyOf fn_F18) (s := F18_sh) (l := F18_fo) (tree := F18_t) fnat_F18 (by kernel_rfl) (by kernel_rfl) (by kernel_rfl) (loopsOK_of (ls := []) (by kernel_rfl) trivial) (fun v => by kernel_rfl)

def F4_sh : FSh := ⟨[(.one (.sl (.pair (.int .i64) (.int .i64)) false false)), (.clo n_F18 [(.one (.pf 0 0 0))])], [(.rcd 0 [(.si .i64), (.si .i64)])]⟩

def F4_L2_sh : LSh := ⟨(fun ex => match ex with | .norm => [(0, none), (1, none), (7, none), (8, none)] | .exit i => if i = 0 then [] else [] | .ret => [(4, none)]), [(0, (.one (.sl (.pair (.int .i64) (.int .i64)) false false))), (1, (.clo n_F18 [(.one (.pf 0 0 0))])), (7, (.one (.si .i64))), (8, (.one (.si .i64)))], [(.rcd 0 [(.si .i64), (.si .i64)])], [⟨.ret, [(4, (.one (.si .i64)))], [(.rcd 0 [(.si .i64), (.si .i64)])]⟩, ⟨(.exit 0), [], [(.rcd 0 [(.si .i64), (.si .i64)])]⟩], [], []⟩
noncomputable def F4_L2_step : ((List ((Int × Int)) × Unit × Int × Int) × (Int × Int)) → T (((List ((Int × Int)) × Unit × Int × Int) × (Int × Int)) ⊕ ((Int × (Int × Int)) ⊕ (Unit × (Int × Int)))) := fun ((s, (), t7, t8), (r0_0, r0_1)) =>
 (.test (decide (t8 < t7))
 (.test (decide ((0 ≤ t8) ∧ (t8 < ((List.length s) : Int))))
 (.sub (s[(Int.toNat t8)]?) fun z0 =>
 (.sub (F18 (((z0.1, z0.2), ()), (r0_0, r0_1))) fun z1 =>
 (.test z1.1
 (.ret (Sum.inr (Sum.inl (t8, (z1.2.1, z1.2.2)))))
 (.ret (Sum.inl ((s, ((), (t7, (w64 (t8 + 1))))), (z1.2.1, z1.2.2)))))))
 .fail)
 (.ret (Sum.inr (Sum.inr ((), (r0_0, r0_1))))))
noncomputable def F4_L2 (v : ((List ((Int × Int)) × Unit × Int × Int) × (Int × Int))) : Option ((Int × (Int × Int)) ⊕ (Unit × (Int × Int))) := loopO (fun v => (F4_L2_step v).run) v

def F4_fo : List FO := [⟨[(.one (.si .i64))], [(.rcd 0 [(.si .i64), (.si .i64)])]⟩]
noncomputable def F4_t : ((List ((Int × Int)) × Unit) × (Int × Int)) → T (Int × (Int × Int)) := fun ((s, ()), (r0_0, r0_1)) =>
 (.sub (F4_L2 ((s, ((), (((List.length s) : Int), (0 : Int)))), (r0_0, r0_1))) fun z0 =>
 (.test (Sum.isLeft z0)
 (.sub (Sum.getLeft? z0) fun z1 =>
 (.ret (z1.1, (z1.2.1, z1.2.2))))
 (.sub (Sum.getRight? z0) fun z2 =>
 (.ret ((-1), (z2.2.1, z2.2.2))))))
noncomputable def F4 (v : ((List ((Int × Int)) × Unit) × (Int × Int))) : Option (Int × (Int × Int)) := (F4_t v).run
noncomputable def F4_E : TEnv := (E0.add1 n_F18 F18_sh F18_fo F18)
theorem F4_Eok : (F4_E).OK := (E0ok.add1 F18_ok)
noncomputable def F4_told : Nat → Option SealT := fun id => if id = 2 then some (LSh.told F4_L2_sh 1 (F4_L2_step)) else none
theorem F4_L2_ok : ToldOK Tryz.prog 1 (loopAt (bodyOf fn_F11) [0]) (LSh.told F4_L2_sh 1 (F4_L2_step)) :=
  loop_ok (E := F4_E) (F4_Eok) (told := F4_told) (l := F4_L2_sh) (step := F4_L2_step) (loopsOK_of (ls := []) (by kernel_rfl) trivial) (by kernel_rfl) (fun v => by kernel_rfl)
theorem F4_ok : FOK Tryz.prog n_F11 F4_sh F4_fo F4 :=
  fn_ok (E := F4_E) (F4_Eok) (told := F4_told) (fl := []) (c := bodyOf fn_F11) (s := F4_sh) (l := F4_fo) (tree := F4_t) fnat_F11 (by kernel_rfl) (by kernel_rfl) (by kernel_rfl) (loopsOK_of (ls := [loopAt (bodyOf fn_F11) [0]]) (by kernel_rfl) ⟨.inr ⟨_, by kernel_rfl, F4_L2_ok⟩, trivial⟩) (fun v => by kernel_rfl)

def F2_sh : FSh := ⟨[(.one (.sl (.pair (.int .i64) (.int .i64)) false false)), (.clo n_F18 [(.one (.pf 0 0 0))])], [(.rcd 0 [(.si .i64), (.si .i64)])]⟩

def F2_fo : List FO := [⟨[(.one .sb)], [(.rcd 0 [(.si .i64), (.si .i64)])]⟩]
noncomputable def F2_t : ((List ((Int × Int)) × Unit) × (Int × Int)) → T (Bool × (Int × Int)) := fun ((s, ()), (r0_0, r0_1)) =>
 (.sub (F4 ((s, ()), (r0_0, r0_1))) fun z0 =>
 (.ret ((decide (z0.1 ≥ 0)), (z0.2.1, z0.2.2))))
noncomputable def F2 (v : ((List ((Int × Int)) × Unit) × (Int × Int))) : Option (Bool × (Int × Int)) := (F2_t v).run
noncomputable def F2_E : TEnv := (E0.add1 n_F11 F4_sh F4_fo F4)
theorem F2_Eok : (F2_E).OK := (E0ok.add1 F4_ok)
noncomputable def F2_told : Nat → Option SealT := fun id => none
theorem F2_ok : FOK Tryz.prog n_F9 F2_sh F2_fo F2 :=
  fn_ok (E := F2_E) (F2_Eok) (told := F2_told) (fl := []) (c := bodyOf fn_F9) (s := F2_sh) (l := F2_fo) (tree := F2_t) fnat_F9 (by kernel_rfl) (by kernel_rfl) (by kernel_rfl) (loopsOK_of (ls := []) (by kernel_rfl) trivial) (fun v => by kernel_rfl)

theorem F2_eq (s : List Dg) (d : Dg) (hl : s.length < 4611686018427387904) : F2 ((s, ()), d) = some (s.any (crossD d), d) := by
  obtain ⟨a, b⟩ := d
  have hc : ∀ e : Dg, F18 ((e, ()), (a, b)) = some (crossD (a, b) e, (a, b)) := by
    intro e
    obtain ⟨e0, e1⟩ := e
    simp [F18, F18_t, T.run, F68_eq]
  have h := loop_find (step := fun v => (F4_L2_step v).run) (xs := s) (crossD (a, b)) (fun k => ((s, ((), ((s.length : Int), (k : Int)))), (a, b))) (fun k => .inl ((k : Int), (a, b))) (.inr ((), (a, b)))
    (fun k x hx => by
      have hlt := getElem?_lt hx
      have h1 : (k : Int) < (s.length : Int) := by omega
      have h2 : (0 : Int) ≤ k ∧ (k : Int) < (s.length : Int) := by omega
      simp only [F4_L2_step, T.run, Int.toNat_natCast, hx, Option.bind_some, h1, h2, decide_true, if_true, and_self, hc]
      rw [w64_id (z := (k : Int) + 1) (by omega) (by omega)]
      cases hv : crossD (a, b) x <;> simp)
    (by simp [F4_L2_step, T.run])
  rw [show ((0 : Nat) : Int) = 0 from rfl] at h
  have hi : F4 ((s, ()), (a, b)) = some (idxI (crossD (a, b)) s, (a, b)) := by
    simp only [F4, F4_t, T.run, F4_L2]
    rw [h]
    simp only [idxI]
    cases hf : s.findIdx? (crossD (a, b)) <;> simp [Sum.isLeft]
  simp only [F2, F2_t, T.run, hi, Option.bind_some, idxI_ge]


def F27_sh : FSh := ⟨[(.one (.si .i64)), (.one (.sl (.pair (.int .i64) (.int .i64)) false false))], []⟩

def F27_L4_sh : LSh := ⟨(fun ex => match ex with | .norm => [(0, none), (1, none), (17, none), (18, none), (19, none)] | .exit i => if i = 0 then [] else [] | .ret => [(4, none)]), [(0, (.one (.si .i64))), (1, (.one (.sl (.pair (.int .i64) (.int .i64)) false false))), (17, (.one (.sl (.pair (.int .i64) (.int .i64)) false false))), (18, (.one (.si .i64))), (19, (.one (.si .i64)))], [], [⟨.ret, [(4, (.one .sb))], []⟩, ⟨(.exit 0), [], []⟩], [], []⟩
noncomputable def F27_L4_step : (Int × List ((Int × Int)) × List ((Int × Int)) × Int × Int) → T ((Int × List ((Int × Int)) × List ((Int × Int)) × Int × Int) ⊕ (Bool ⊕ Unit)) := fun (n, ds, t17, t18, t19) =>
 (.test (decide (t19 < t18))
 (.test (decide ((0 ≤ t19) ∧ (t19 < ((List.length t17) : Int))))
 (.sub (t17[(Int.toNat t19)]?) fun z0 =>
 (.sub (F52 (n, (z0.1, z0.2))) fun z1 =>
 (.test (! z1)
 (.ret (Sum.inr (Sum.inl false)))
 (.test (decide (t19 > 0))
 (.test (decide ((0 ≤ (w64 (t19 - 1))) ∧ ((w64 (t19 - 1)) < ((List.length ds) : Int))))
 (.sub (ds[(Int.toNat (w64 (t19 - 1)))]?) fun z2 =>
 (.sub (F23 ((z2.1, z2.2), (z0.1, z0.2))) fun z3 =>
 (.test (decide (z3 ≥ 0))
 (.ret (Sum.inr (Sum.inl false)))
 (.test (decide (0 ≤ t19))
 (.test (decide ((0 ≤ (Int.toNat t19)) ∧ ((Int.toNat t19) ≤ (List.length ds))))
 (.sub (F2 (((win ds 0 ((Int.toNat t19) - 0)), ()), (z0.1, z0.2))) fun z4 =>
 (.test z4.1
 (.ret (Sum.inr (Sum.inl false)))
 (.ret (Sum.inl (n, (ds, (t17, (t18, (w64 (t19 + 1))))))))))
 .fail)
 .fail))))
 .fail)
 (.test (decide (0 ≤ t19))
 (.test (decide ((0 ≤ (Int.toNat t19)) ∧ ((Int.toNat t19) ≤ (List.length ds))))
 (.sub (F2 (((win ds 0 ((Int.toNat t19) - 0)), ()), (z0.1, z0.2))) fun z5 =>
 (.test z5.1
 (.ret (Sum.inr (Sum.inl false)))
 (.ret (Sum.inl (n, (ds, (t17, (t18, (w64 (t19 + 1))))))))))
 .fail)
 .fail)))))
 .fail)
 (.ret (Sum.inr (Sum.inr ()))))
noncomputable def F27_L4 (v : (Int × List ((Int × Int)) × List ((Int × Int)) × Int × Int)) : Option (Bool ⊕ Unit) := loopO (fun v => (F27_L4_step v).run) v

def F27_fo : List FO := [⟨[(.one .sb)], []⟩]
noncomputable def F27_t : (Int × List ((Int × Int))) → T Bool := fun (n, ds) =>
 (.sub (F58 n) fun z0 =>
 (.test (! z0)
 (.ret false)
 (.test (((List.length ds) : Int) != (w64 (n - 3)))
 (.ret false)
 (.sub (F27_L4 (n, (ds, (ds, (((List.length ds) : Int), (0 : Int)))))) fun z1 =>
 (.test (Sum.isLeft z1)
 (.sub (Sum.getLeft? z1) fun z2 =>
 (.ret z2))
 (.sub (Sum.getRight? z1) fun z3 =>
 (.ret true)))))))
noncomputable def F27 (v : (Int × List ((Int × Int)))) : Option Bool := (F27_t v).run
noncomputable def F27_E : TEnv := ((((E0.add1 n_F58 F58_sh F58_fo F58).add1 n_F52 F52_sh F52_fo F52).add1 n_F23 F23_sh F23_fo F23).add1 n_F9 F2_sh F2_fo F2)
theorem F27_Eok : (F27_E).OK := ((((E0ok.add1 F58_ok).add1 F52_ok).add1 F23_ok).add1 F2_ok)
noncomputable def F27_told : Nat → Option SealT := fun id => if id = 4 then some (LSh.told F27_L4_sh 0 (F27_L4_step)) else none
theorem F27_L4_ok : ToldOK Tryz.prog 0 (loopAt (bodyOf fn_F27) [0]) (LSh.told F27_L4_sh 0 (F27_L4_step)) :=
  loop_ok (E := F27_E) (F27_Eok) (told := F27_told) (l := F27_L4_sh) (step := F27_L4_step) (loopsOK_of (ls := []) (by kernel_rfl) trivial) (by kernel_rfl) (fun v => by kernel_rfl)
theorem F27_ok : FOK Tryz.prog n_F27 F27_sh F27_fo F27 :=
  fn_ok (E := F27_E) (F27_Eok) (told := F27_told) (fl := []) (c := bodyOf fn_F27) (s := F27_sh) (l := F27_fo) (tree := F27_t) fnat_F27 (by kernel_rfl) (by kernel_rfl) (by kernel_rfl) (loopsOK_of (ls := [loopAt (bodyOf fn_F27) [0]]) (by kernel_rfl) ⟨.inr ⟨_, by kernel_rfl, F27_L4_ok⟩, trivial⟩) (fun v => by kernel_rfl)

theorem F27_eq (n : Int) (ds : List Dg) (hl : ds.length < 4611686018427387904) : F27 (n, ds) = some (isTri n ds) := by
  simp only [F27, F27_t, T.run, F58, F58_t, F76_eq, Option.bind_some, isTri]
  cases hn : inB 3 12 n with
  | false => simp
  | true =>
    rw [inB_iff] at hn
    rw [w64_id (z := n - 3) (by omega) (by omega)]
    by_cases he : (ds.length : Int) = n - 3
    · have h := loop_any (step := fun v => (F27_L4_step v).run) (xs := List.range ds.length) (badT n ds) (fun k => (n, (ds, (ds, ((ds.length : Int), (k : Int)))))) (.inl false) (.inr ())
        (fun k x hx => by
          obtain ⟨hk, e⟩ := List.getElem?_eq_some_iff.1 hx
          simp only [List.getElem_range] at e
          subst e
          rw [List.length_range] at hk
          have g0 := gD_some hk
          have c0 : (k : Int) < (ds.length : Int) := by omega
          have c1 : (0 : Int) ≤ (k : Int) ∧ (k : Int) < (ds.length : Int) := by omega
          have w1 : w64 ((k : Int) + 1) = ((k + 1 : Nat) : Int) := by rw [w64_id (by omega) (by omega)]; omega
          have c2 : 0 ≤ k ∧ k ≤ ds.length := by omega
          have c3 : (0 : Int) ≤ (k : Int) := by omega
          have tw : win ds 0 (k - 0) = ds.take k := win_take _ _
          have hlt : (ds.take k).length < 4611686018427387904 := by simp; omega
          simp only [F27_L4_step, T.run, c0, c1, c2, c3, decide_true, if_true, and_self, Int.toNat_natCast, g0, Option.bind_some, F52_eq n (gD ds k) (by omega) (by omega), tw, F2_eq _ (gD ds k) hlt, w1, badT]
          rcases Bool.eq_false_or_eq_true (inDg n (gD ds k)) with hd | hd
          rotate_left
          · simp [hd]
          · simp only [hd]
            by_cases hk0 : 0 < k
            · have w2 : w64 ((k : Int) - 1) = ((k - 1 : Nat) : Int) := by rw [w64_id (by omega) (by omega)]; omega
              have c4 : (0 : Int) ≤ ((k - 1 : Nat) : Int) ∧ ((k - 1 : Nat) : Int) < (ds.length : Int) := by omega
              have g1 := gD_some (show k - 1 < ds.length by omega)
              have c5 : (k : Int) > 0 := by omega
              simp only [w2, c4, c5, decide_true, if_true, and_self, Int.toNat_natCast, g1, Option.bind_some, F23_eq, cmpD_ge, hk0]
              cases ltD (gD ds (k - 1)) (gD ds k) <;> simp
              cases (ds.take k).any (crossD (gD ds k)) <;> simp
            · have c5 : ¬ (k : Int) > 0 := by omega
              simp only [c5, decide_false, hk0, if_false]
              cases (ds.take k).any (crossD (gD ds k)) <;> simp)
        (by simp [F27_L4_step, T.run])
      rw [show ((0 : Nat) : Int) = 0 from rfl] at h
      have he' : ((ds.length : Int) != n - 3) = false := by simp [he]
      simp only [F27_L4, h, he', decide_eq_true he]
      cases (List.range ds.length).any (badT n ds) <;> simp
    · simp [he]



def eqD (d e : Dg) : Bool := d.1 == e.1 && (d.2 == e.2 && true)
theorem eqD_iff (d e : Dg) : eqD d e = true ↔ d = e := by
  obtain ⟨a, b⟩ := d
  obtain ⟨x, y⟩ := e
  simp [eqD]
def hasD (s : List Dg) (d : Dg) : Bool := s.any (eqD d)
def F14_sh : FSh := ⟨[(.one (.sl (.pair (.int .i64) (.int .i64)) false false)), (.ag [(.si .i64), (.si .i64)])], []⟩

def F14_L2_sh : LSh := ⟨(fun ex => match ex with | .norm => [(0, none), (3, none), (7, none), (8, none)] | .exit i => if i = 0 then [] else [] | .ret => [(4, none)]), [(0, (.one (.sl (.pair (.int .i64) (.int .i64)) false false))), (3, (.one (.pf 0 0 0))), (7, (.one (.si .i64))), (8, (.one (.si .i64)))], [(.rcd 0 [(.si .i64), (.si .i64)])], [⟨.ret, [(4, (.one (.si .i64)))], []⟩, ⟨(.exit 0), [], []⟩], [], []⟩
noncomputable def F14_L2_step : ((List ((Int × Int)) × Unit × Int × Int) × (Int × Int)) → T (((List ((Int × Int)) × Unit × Int × Int) × (Int × Int)) ⊕ (Int ⊕ Unit)) := fun ((s, (), t7, t8), (v_0, v_1)) =>
 (.test (decide (t8 < t7))
 (.test (decide ((0 ≤ t8) ∧ (t8 < ((List.length s) : Int))))
 (.sub (s[(Int.toNat t8)]?) fun z0 =>
 (.test ((v_0 == z0.1) && ((v_1 == z0.2) && true))
 (.ret (Sum.inr (Sum.inl t8)))
 (.ret (Sum.inl ((s, ((), (t7, (w64 (t8 + 1))))), (v_0, v_1))))))
 .fail)
 (.ret (Sum.inr (Sum.inr ()))))
noncomputable def F14_L2 (v : ((List ((Int × Int)) × Unit × Int × Int) × (Int × Int))) : Option (Int ⊕ Unit) := loopO (fun v => (F14_L2_step v).run) v

def F14_fo : List FO := [⟨[(.one (.si .i64))], []⟩]
noncomputable def F14_t : (List ((Int × Int)) × (Int × Int)) → T Int := fun (s, (v_0, v_1)) =>
 (.sub (F14_L2 ((s, ((), (((List.length s) : Int), (0 : Int)))), (v_0, v_1))) fun z0 =>
 (.test (Sum.isLeft z0)
 (.sub (Sum.getLeft? z0) fun z1 =>
 (.ret z1))
 (.sub (Sum.getRight? z0) fun z2 =>
 (.ret (-1)))))
noncomputable def F14 (v : (List ((Int × Int)) × (Int × Int))) : Option Int := (F14_t v).run
noncomputable def F14_E : TEnv := E0
theorem F14_Eok : (F14_E).OK := E0ok
noncomputable def F14_told : Nat → Option SealT := fun id => if id = 2 then some (LSh.told F14_L2_sh 0 (F14_L2_step)) else none
theorem F14_L2_ok : ToldOK Tryz.prog 0 (loopAt (bodyOf fn_F14) [0]) (LSh.told F14_L2_sh 0 (F14_L2_step)) :=
  loop_ok (E := F14_E) (F14_Eok) (told := F14_told) (l := F14_L2_sh) (step := F14_L2_step) (loopsOK_of (ls := []) (by kernel_rfl) trivial) (by kernel_rfl) (fun v => by kernel_rfl)
theorem F14_ok : FOK Tryz.prog n_F14 F14_sh F14_fo F14 :=
  fn_ok (E := F14_E) (F14_Eok) (told := F14_told) (fl := []) (c := bodyOf fn_F14) (s := F14_sh) (l := F14_fo) (tree := F14_t) fnat_F14 (by kernel_rfl) (by kernel_rfl) (by kernel_rfl) (loopsOK_of (ls := [loopAt (bodyOf fn_F14) [0]]) (by kernel_rfl) ⟨.inr ⟨_, by kernel_rfl, F14_L2_ok⟩, trivial⟩) (fun v => by kernel_rfl)

theorem F14_eq (s : List Dg) (v : Dg) (hl : s.length < 4611686018427387904) : F14 (s, v) = some (idxI (eqD v) s) := by
  obtain ⟨v0, v1⟩ := v
  have h := loop_find (step := fun v => (F14_L2_step v).run) (xs := s) (eqD (v0, v1)) (fun k => ((s, ((), ((s.length : Int), (k : Int)))), (v0, v1))) (fun k => .inl (k : Int)) (.inr ())
    (fun k x hx => by
      have hlt := getElem?_lt hx
      have h1 : (k : Int) < (s.length : Int) := by omega
      have h2 : (0 : Int) ≤ k ∧ (k : Int) < (s.length : Int) := by omega
      simp only [F14_L2_step, T.run, Int.toNat_natCast, hx, Option.bind_some, h1, h2, decide_true, if_true, and_self]
      rw [w64_id (z := (k : Int) + 1) (by omega) (by omega)]
      change (if eqD (v0, v1) x = true then _ else _) = _
      cases hv : eqD (v0, v1) x <;> simp)
    (by simp [F14_L2_step, T.run])
  rw [show ((0 : Nat) : Int) = 0 from rfl] at h
  simp only [F14, F14_t, T.run, F14_L2]
  rw [h]
  simp only [idxI]
  cases hf : s.findIdx? (eqD (v0, v1)) <;> simp [Sum.isLeft]


def F12_sh : FSh := ⟨[(.one (.sl (.pair (.int .i64) (.int .i64)) false false)), (.ag [(.si .i64), (.si .i64)])], []⟩

def F12_fo : List FO := [⟨[(.one .sb)], []⟩]
noncomputable def F12_t : (List ((Int × Int)) × (Int × Int)) → T Bool := fun (s, (v_0, v_1)) =>
 (.sub (F14 (s, (v_0, v_1))) fun z0 =>
 (.ret (decide (z0 ≥ 0))))
noncomputable def F12 (v : (List ((Int × Int)) × (Int × Int))) : Option Bool := (F12_t v).run
noncomputable def F12_E : TEnv := (E0.add1 n_F14 F14_sh F14_fo F14)
theorem F12_Eok : (F12_E).OK := (E0ok.add1 F14_ok)
noncomputable def F12_told : Nat → Option SealT := fun id => none
theorem F12_ok : FOK Tryz.prog n_F12 F12_sh F12_fo F12 :=
  fn_ok (E := F12_E) (F12_Eok) (told := F12_told) (fl := []) (c := bodyOf fn_F12) (s := F12_sh) (l := F12_fo) (tree := F12_t) fnat_F12 (by kernel_rfl) (by kernel_rfl) (by kernel_rfl) (loopsOK_of (ls := []) (by kernel_rfl) trivial) (fun v => by kernel_rfl)

theorem F12_eq (s : List Dg) (v : Dg) (hl : s.length < 4611686018427387904) : F12 (s, v) = some (hasD s v) := by
  have h := F14_eq s v hl
  obtain ⟨v0, v1⟩ := v
  simp only [F12, F12_t, T.run, h, Option.bind_some, idxI_ge]
  rfl


def F77_sh : FSh := ⟨[(.one (.si .i64)), (.one (.sl (.pair (.int .i64) (.int .i64)) false false)), (.ag [(.si .i64), (.si .i64)])], []⟩

def F77_fo : List FO := [⟨[(.one .sb)], []⟩]
noncomputable def F77_t : (Int × List ((Int × Int)) × (Int × Int)) → T Bool := fun (n, ds, (d_0, d_1)) =>
 (.sub (F27 (n, ds)) fun z0 =>
 (.test z0
 (.sub (F12 (ds, (d_0, d_1))) fun z1 =>
 (.ret z1))
 (.ret false)))
noncomputable def F77 (v : (Int × List ((Int × Int)) × (Int × Int))) : Option Bool := (F77_t v).run
noncomputable def F77_E : TEnv := ((E0.add1 n_F27 F27_sh F27_fo F27).add1 n_F12 F12_sh F12_fo F12)
theorem F77_Eok : (F77_E).OK := ((E0ok.add1 F27_ok).add1 F12_ok)
noncomputable def F77_told : Nat → Option SealT := fun id => none
theorem F77_ok : FOK Tryz.prog n_F77 F77_sh F77_fo F77 :=
  fn_ok (E := F77_E) (F77_Eok) (told := F77_told) (fl := []) (c := bodyOf fn_F77) (s := F77_sh) (l := F77_fo) (tree := F77_t) fnat_F77 (by kernel_rfl) (by kernel_rfl) (by kernel_rfl) (loopsOK_of (ls := []) (by kernel_rfl) trivial) (fun v => by kernel_rfl)

theorem hasD_mem (ds : List Dg) (d : Dg) : hasD ds d = decide (d ∈ ds) := by
  rw [Bool.eq_iff_iff, decide_eq_true_eq]
  unfold hasD
  simp only [List.any_eq_true]
  constructor
  · rintro ⟨e, he, h⟩
    have : d = e := by
      unfold eqD at h
      simp at h
      exact Prod.ext h.1 h.2
    rw [this]; exact he
  · intro h
    exact ⟨d, h, by unfold eqD; simp⟩
theorem F77_eq (n : Int) (ds : List Dg) (d : Dg) (hl : ds.length < 4611686018427387904) : F77 (n, (ds, d)) = some (isTri n ds && decide (d ∈ ds)) := by
  obtain ⟨a, b⟩ := d
  rw [F77, F77_t, T.run_sub, F27_eq n ds hl, Option.bind_some, T.run_test]
  cases isTri n ds with
  | false => rfl
  | true => rw [if_pos rfl, T.run_sub, F12_eq ds _ hl, Option.bind_some, T.run_ret, hasD_mem]; rfl


def F15_sh : FSh := ⟨[.one (.sl (.pair (.int .i64) (.int .i64)) false false)], []⟩
def F15_fo : List FO := [⟨[.one (.rw 0 0)], [.row 0 (.pair (.int .i64) (.int .i64))]⟩]
def F15 (v : List (Int × Int)) : Option (Unit × List (Int × Int)) := if v.length ≤ maxLen ∧ v.length * 16 ≤ 140737488355328 then some ((), v) else none
def F15_ren : Shelf.Ren := ⟨fun _ => n_F15, fun t => if t = 4 then 4 else if t = 22 then 31 else 52, fun x => x⟩
theorem F15_lay : SlLaysE0.n41 Tryz.prog F15_ren :=
  { mixed := by kernel_rfl, f41 := ⟨"slices.Clone[[]loop.example/g01236/impl.Diagonal,loop.example/g01236/impl.Diagonal]", by kernel_rfl, by kernel_rfl⟩, t4 := by kernel_rfl, a4 := fun w => by kernel_rfl, z4 := fun w => by kernel_rfl, v4 := fun w => by kernel_rfl, t22 := by kernel_rfl, a22 := fun w => by kernel_rfl, z22 := fun w => by kernel_rfl, v22 := fun w => by kernel_rfl }
noncomputable def F15_info : TypeInfo := (Tryz.prog.info? 52).get (by kernel_rfl)
theorem F15_ok : FOK Tryz.prog n_F15 F15_sh F15_fo F15 :=
  clone_ok (e := (.pair (.int .i64) (.int .i64))) ⟨_, fnat_F15, by kernel_rfl, by kernel_rfl⟩ (ρr := F15_ren) rfl F15_lay rfl F15_info (.agg #[.int .i64 0, .int .i64 0]) 16 (by kernel_rfl) (by kernel_rfl) (by kernel_rfl) (by kernel_rfl) (by decide) (by decide) (fun w => by kernel_rfl)

def F78_sh : FSh := ⟨[(.one (.si .i64)), (.one (.sl (.pair (.int .i64) (.int .i64)) false false)), (.one (.si .i64)), (.one (.si .i64))], []⟩

def F78_fo : List FO := [⟨[(.one .sb)], []⟩]
noncomputable def F78_t : (Int × List ((Int × Int)) × Int × Int) → T Bool := fun (n, ds, a, b) =>
 (.test ((if (b > a) then b else a) == (w64 ((if (b < a) then b else a) + 1)))
 (.ret true)
 (.test ((if (b < a) then b else a) == 0)
 (.test ((if (b > a) then b else a) == (w64 (n - 1)))
 (.ret true)
 (.sub (F12 (ds, ((if (b < a) then b else a), (if (b > a) then b else a)))) fun z0 =>
 (.ret z0)))
 (.sub (F12 (ds, ((if (b < a) then b else a), (if (b > a) then b else a)))) fun z1 =>
 (.ret z1))))
noncomputable def F78 (v : (Int × List ((Int × Int)) × Int × Int)) : Option Bool := (F78_t v).run
noncomputable def F78_E : TEnv := (E0.add1 n_F12 F12_sh F12_fo F12)
theorem F78_Eok : (F78_E).OK := (E0ok.add1 F12_ok)
noncomputable def F78_told : Nat → Option SealT := fun id => none
theorem F78_ok : FOK Tryz.prog n_F78 F78_sh F78_fo F78 :=
  fn_ok (E := F78_E) (F78_Eok) (told := F78_told) (fl := []) (c := bodyOf fn_F78) (s := F78_sh) (l := F78_fo) (tree := F78_t) fnat_F78 (by kernel_rfl) (by kernel_rfl) (by kernel_rfl) (loopsOK_of (ls := []) (by kernel_rfl) trivial) (fun v => by kernel_rfl)

theorem F78_eq {n : Nat} {ds : List Dg} (h : isTri n ds = true) {a b : Int} (ha : 0 ≤ a ∧ a < n) (hb : 0 ≤ b ∧ b < n) (hne : a ≠ b) : F78 ((n : Int), (ds, (a, b))) = some (decide (jo n ds a b)) := by
  have g := tri_rng h
  have e1 : (if (b > a) then b else a) = max a b := by split <;> omega
  have e2 : (if (b < a) then b else a) = min a b := by split <;> omega
  have w1 : w64 (min a b + 1) = min a b + 1 := w64_id (by omega) (by omega)
  have w2 : w64 ((n : Int) - 1) = (n : Int) - 1 := w64_id (by omega) (by omega)
  have hlt : min a b < max a b := by omega
  have b0 : 0 ≤ min a b := by omega
  have b1 : max a b < n := by omega
  rw [F78, F78_t, e1, e2, w1, w2]
  rw [show decide (jo n ds a b) = decide (jn n ds (min a b) (max a b)) from decide_eq_decide.2 Iff.rfl]
  clear e1 e2 hne ha hb
  generalize min a b = p at *
  generalize max a b = q at *
  have hc := F12_eq ds (p, q) (by omega)
  rw [hasD_mem] at hc
  rw [T.run_test]
  by_cases c1 : q = p + 1
  · rw [if_pos (by simp [c1]), T.run_ret, decide_eq_true (.inl (by omega))]
  · rw [if_neg (by simp [c1]), T.run_test]
    by_cases c2 : p = 0
    · rw [if_pos (by simp [c2]), T.run_test]
      by_cases c3 : q = (n : Int) - 1
      · rw [if_pos (by simp [c3]), T.run_ret, decide_eq_true (.inr (.inl (by omega)))]
      · rw [if_neg (by simp [c3]), T.run_sub, hc, Option.bind_some, T.run_ret]
        congr 1
        rw [decide_eq_decide]
        exact ⟨fun h => .inr (.inr h), fun h => by rcases h with h | h | h; omega; omega; exact h⟩
    · rw [if_neg (by simp [c2]), T.run_sub, hc, Option.bind_some, T.run_ret]
      congr 1
      rw [decide_eq_decide]
      exact ⟨fun h => .inr (.inr h), fun h => by rcases h with h | h | h; omega; omega; exact h⟩



theorem cmp_loop {X A : Type} [DecidableEq X] {step : A → Option (A ⊕ (Bool ⊕ Unit))} (a b : List X) (emb : Nat → A) (hab : a.length = b.length)
    (h : ∀ k x y, a[k]? = some x → b[k]? = some y → step (emb k) = if x = y then some (.inl (emb (k + 1))) else some (.inr (.inl false))) (hend : step (emb a.length) = some (.inr (.inr ()))) :
    loopO step (emb 0) = some (if a = b then .inr () else .inl false) := by
  have key : ∀ m k, k + m = a.length → loopO step (emb k) = some (if a.drop k = b.drop k then .inr () else .inl false) := by
    intro m
    induction m with
    | zero =>
      intro k hk
      rw [List.drop_of_length_le (by omega), List.drop_of_length_le (by omega), if_pos rfl, show k = a.length by omega]
      exact loopO_done hend
    | succ m ih =>
      intro k hk
      have h1 : k < a.length := by omega
      have h2 : k < b.length := by omega
      have hs := h k a[k] b[k] (List.getElem?_eq_getElem h1) (List.getElem?_eq_getElem h2)
      rw [List.drop_eq_getElem_cons h1, List.drop_eq_getElem_cons h2]
      by_cases e : a[k] = b[k]
      · rw [if_pos e] at hs
        rw [loopO_next hs, ih (k + 1) (by omega), e]
        by_cases e2 : a.drop (k + 1) = b.drop (k + 1)
        · rw [if_pos e2, e2, if_pos rfl]
        · rw [if_neg e2, if_neg fun x => e2 (List.cons.inj x).2]
      · rw [if_neg e] at hs
        rw [loopO_done hs, if_neg fun x => e (List.cons.inj x).1]
  have := key a.length 0 (by omega)
  rwa [List.drop_zero, List.drop_zero] at this
theorem flat_if {A B : Type} (c : A → Bool) (f : A → B) : ∀ l : List A, (l.filter c).map f = l.flatMap fun x => if c x = true then [f x] else []
  | [] => rfl
  | a :: t => by
    rw [List.flatMap_cons, ← flat_if c f t]
    cases h : c a <;> simp [h]
theorem app_loop {A B X : Type} {step : A → Option (A ⊕ B)} (emb : Nat → List X → A) (f : Nat → List X) (fin : List X → B) (n D L k0 : Nat) (hD : ∀ j, (f j).length ≤ D)
    (hend : ∀ o j, n ≤ j → step (emb j o) = some (.inr (fin o))) (hstep : ∀ j o, k0 ≤ j → j < n → o.length ≤ L + D * j → step (emb j o) = some (.inl (emb (j + 1) (o ++ f j)))) :
    ∀ (m k : Nat) (o : List X), k0 ≤ k → m = n - k → o.length ≤ L + D * k → loopO step (emb k o) = some (fin (o ++ (List.range' k m).flatMap f))
  | 0, k, o, h0, hm, ho => by
    rw [List.range'_zero, List.flatMap_nil, List.append_nil]
    exact loopO_done (hend o k (by omega))
  | m + 1, k, o, h0, hm, ho => by
    have hl : (o ++ f k).length ≤ L + D * (k + 1) := by
      rw [List.length_append, Nat.mul_add, Nat.mul_one]
      have := hD k
      omega
    rw [loopO_next (hstep k o h0 (by omega) ho), app_loop emb f fin n D L k0 hD hend hstep m (k + 1) (o ++ f k) (by omega) (by omega) hl, List.range'_succ, List.flatMap_cons, List.append_assoc]
theorem flat_len {A X : Type} (f : A → List X) (D : Nat) (h : ∀ a, (f a).length ≤ D) : ∀ l : List A, (l.flatMap f).length ≤ D * l.length
  | [] => by simp
  | a :: t => by
    rw [List.flatMap_cons, List.length_append, List.length_cons, Nat.mul_add, Nat.mul_one]
    have := flat_len f D h t
    have := h a
    omega
theorem filt_idx {X : Type} (c : X → Bool) (g : Nat → X) (l : List X) (hg : ∀ k, k < l.length → l[k]? = some (g k)) : (List.range' 0 l.length).flatMap (fun k => if c (g k) = true then [g k] else []) = l.filter c := by
  have hl : l = (List.range' 0 l.length).map g := by
    apply List.ext_getElem?
    intro k
    by_cases h : k < l.length
    · rw [hg k h, List.getElem?_map, List.getElem?_range' h]; simp
    · rw [List.getElem?_eq_none (by omega), List.getElem?_eq_none (by simp; omega)]
  conv => rhs; rw [hl, List.filter_map]
  rw [flat_if]
  rfl


def F59_sh : FSh := ⟨[(.one (.si .i64)), (.one (.sl (.pair (.int .i64) (.int .i64)) false false))], []⟩

def F59_L9_sh : LSh := ⟨(fun ex => match ex with | .norm => [(0, none), (1, none), (5, none), (6, none), (7, none), (8, none), (10, none), (11, none)] | .exit i => if i = 4 then [(0, none), (1, none), (5, none), (6, none), (7, none), (10, none), (11, none)] else if i = 3 then [(0, none), (1, none), (5, none), (6, none), (7, none), (10, none), (11, none)] else if i = 2 then [(0, none), (1, none), (5, none), (10, none), (11, none)] else if i = 1 then [(0, none), (1, none), (5, none), (10, none), (11, none)] else if i = 0 then [(5, none)] else [] | .ret => [(4, none)]), [(0, (.one (.si .i64))), (1, (.one (.sl (.pair (.int .i64) (.int .i64)) false false))), (5, (.one (.rw 0 0))), (6, (.one (.si .i64))), (7, (.one (.si .i64))), (8, (.one (.si .i64))), (10, (.one (.si .i64))), (11, (.one (.si .i64)))], [(.row 0 (.list true (.int .i64)))], [⟨(.exit 4), [(0, (.one (.si .i64))), (1, (.one (.sl (.pair (.int .i64) (.int .i64)) false false))), (5, (.one (.rw 0 0))), (6, (.one (.si .i64))), (7, (.one (.si .i64))), (10, (.one (.si .i64))), (11, (.one (.si .i64)))], [(.row 0 (.list true (.int .i64)))]⟩], [], []⟩
noncomputable def F59_L9_step : ((Int × List ((Int × Int)) × Unit × Int × Int × Int × Int × Int) × List (List (Int))) → T (((Int × List ((Int × Int)) × Unit × Int × Int × Int × Int × Int) × List (List (Int))) ⊕ ((Int × List ((Int × Int)) × Unit × Int × Int × Int × Int) × List (List (Int)))) := fun ((n, ds, (), a, b, c, t10, t11), out) =>
 (.test (decide (c < n))
 (.sub (F78 (n, (ds, (a, b)))) fun z0 =>
 (.test z0
 (.sub (F78 (n, (ds, (b, c)))) fun z1 =>
 (.test z1
 (.sub (F78 (n, (ds, (a, c)))) fun z2 =>
 (.test z2
 (.test (decide (3 ≤ 3))
 (.test (decide (1 ≤ 1))
 (.test (decide ((0 + (List.length out)) ≤ (List.length out)))
 (.test (decide ((2 * (((List.length out) + 1) * 25)) ≤ 140737488355328))
 (.test (decide ((0 = 0) ∧ (((List.length out) + 1) = (List.length ((win out 0 (List.length out)) ++ [[a, b, c]])))))
 (.ret (Sum.inl ((n, (ds, ((), (a, (b, ((w64 (c + 1)), (t10, t11))))))), ((win out 0 (List.length out)) ++ [[a, b, c]]))))
 .fail)
 .fail)
 .fail)
 .fail)
 .fail)
 (.test (decide ((0 = 0) ∧ ((List.length out) = (List.length out))))
 (.ret (Sum.inl ((n, (ds, ((), (a, (b, ((w64 (c + 1)), (t10, t11))))))), out)))
 .fail)))
 (.test (decide ((0 = 0) ∧ ((List.length out) = (List.length out))))
 (.ret (Sum.inl ((n, (ds, ((), (a, (b, ((w64 (c + 1)), (t10, t11))))))), out)))
 .fail)))
 (.test (decide ((0 = 0) ∧ ((List.length out) = (List.length out))))
 (.ret (Sum.inl ((n, (ds, ((), (a, (b, ((w64 (c + 1)), (t10, t11))))))), out)))
 .fail)))
 (.test (decide ((0 = 0) ∧ ((List.length out) = (List.length out))))
 (.ret (Sum.inr ((n, (ds, ((), (a, (b, (t10, t11)))))), out)))
 .fail))
noncomputable def F59_L9 (v : ((Int × List ((Int × Int)) × Unit × Int × Int × Int × Int × Int) × List (List (Int)))) : Option ((Int × List ((Int × Int)) × Unit × Int × Int × Int × Int) × List (List (Int))) := loopO (fun v => (F59_L9_step v).run) v

def F59_L6_sh : LSh := ⟨(fun ex => match ex with | .norm => [(0, none), (1, none), (5, none), (6, none), (7, none), (10, none), (11, none)] | .exit i => if i = 2 then [(0, none), (1, none), (5, none), (10, none), (11, none)] else if i = 1 then [(0, none), (1, none), (5, none), (10, none), (11, none)] else if i = 0 then [(5, none)] else [] | .ret => [(4, none)]), [(0, (.one (.si .i64))), (1, (.one (.sl (.pair (.int .i64) (.int .i64)) false false))), (5, (.one (.rw 0 0))), (6, (.one (.si .i64))), (7, (.one (.si .i64))), (10, (.one (.si .i64))), (11, (.one (.si .i64)))], [(.row 0 (.list true (.int .i64)))], [⟨(.exit 2), [(0, (.one (.si .i64))), (1, (.one (.sl (.pair (.int .i64) (.int .i64)) false false))), (5, (.one (.rw 0 0))), (10, (.one (.si .i64))), (11, (.one (.si .i64)))], [(.row 0 (.list true (.int .i64)))]⟩], [], []⟩
noncomputable def F59_L6_step : ((Int × List ((Int × Int)) × Unit × Int × Int × Int × Int) × List (List (Int))) → T (((Int × List ((Int × Int)) × Unit × Int × Int × Int × Int) × List (List (Int))) ⊕ ((Int × List ((Int × Int)) × Unit × Int × Int) × List (List (Int)))) := fun ((n, ds, (), a, b, t10, t11), out) =>
 (.test (decide (b < n))
 (.test (decide ((0 = 0) ∧ ((List.length out) = (List.length out))))
 (.sub (F59_L9 ((n, (ds, ((), (a, (b, ((w64 (b + 1)), (t10, t11))))))), out)) fun z0 =>
 (.test (decide ((0 = 0) ∧ ((List.length z0.2) = (List.length z0.2))))
 (.ret (Sum.inl ((z0.1.1, (z0.1.2.1, ((), (z0.1.2.2.2.1, ((w64 (z0.1.2.2.2.2.1 + 1)), z0.1.2.2.2.2.2))))), z0.2)))
 .fail))
 .fail)
 (.test (decide ((0 = 0) ∧ ((List.length out) = (List.length out))))
 (.ret (Sum.inr ((n, (ds, ((), (t10, t11)))), out)))
 .fail))
noncomputable def F59_L6 (v : ((Int × List ((Int × Int)) × Unit × Int × Int × Int × Int) × List (List (Int)))) : Option ((Int × List ((Int × Int)) × Unit × Int × Int) × List (List (Int))) := loopO (fun v => (F59_L6_step v).run) v

def F59_L3_sh : LSh := ⟨(fun ex => match ex with | .norm => [(0, none), (1, none), (5, none), (10, none), (11, none)] | .exit i => if i = 0 then [(5, none)] else [] | .ret => [(4, none)]), [(0, (.one (.si .i64))), (1, (.one (.sl (.pair (.int .i64) (.int .i64)) false false))), (5, (.one (.rw 0 0))), (10, (.one (.si .i64))), (11, (.one (.si .i64)))], [(.row 0 (.list true (.int .i64)))], [⟨(.exit 0), [(5, (.one (.rw 0 0)))], [(.row 0 (.list true (.int .i64)))]⟩], [], []⟩
noncomputable def F59_L3_step : ((Int × List ((Int × Int)) × Unit × Int × Int) × List (List (Int))) → T (((Int × List ((Int × Int)) × Unit × Int × Int) × List (List (Int))) ⊕ (Unit × List (List (Int)))) := fun ((n, ds, (), t10, t11), out) =>
 (.test (decide (t11 < t10))
 (.test (decide ((0 = 0) ∧ ((List.length out) = (List.length out))))
 (.sub (F59_L6 ((n, (ds, ((), (t11, ((w64 (t11 + 1)), (t10, t11)))))), out)) fun z0 =>
 (.test (decide ((0 = 0) ∧ ((List.length z0.2) = (List.length z0.2))))
 (.ret (Sum.inl ((z0.1.1, (z0.1.2.1, ((), (z0.1.2.2.2.1, (w64 (z0.1.2.2.2.2 + 1)))))), z0.2)))
 .fail))
 .fail)
 (.test (decide ((0 = 0) ∧ ((List.length out) = (List.length out))))
 (.ret (Sum.inr ((), out)))
 .fail))
noncomputable def F59_L3 (v : ((Int × List ((Int × Int)) × Unit × Int × Int) × List (List (Int)))) : Option (Unit × List (List (Int))) := loopO (fun v => (F59_L3_step v).run) v

def F59_fo : List FO := [⟨[(.one (.rw 0 0))], [(.row 0 (.list true (.int .i64)))]⟩]
noncomputable def F59_t : (Int × List ((Int × Int))) → T (Unit × List (List (Int))) := fun (n, ds) =>
 (.test true
 (.sub (F59_L3 ((n, (ds, ((), (n, (0 : Int))))), ([] : List (List Int)))) fun z0 =>
 (.test (decide ((0 = 0) ∧ ((List.length z0.2) = (List.length z0.2))))
 (.ret ((), z0.2))
 .fail))
 .fail)
noncomputable def F59 (v : (Int × List ((Int × Int)))) : Option (Unit × List (List (Int))) := (F59_t v).run
noncomputable def F59_E : TEnv := (E0.add1 n_F78 F78_sh F78_fo F78)
theorem F59_Eok : (F59_E).OK := (E0ok.add1 F78_ok)
noncomputable def F59_told : Nat → Option SealT := fun id => if id = 9 then some (LSh.told F59_L9_sh 0 (F59_L9_step)) else if id = 6 then some (LSh.told F59_L6_sh 0 (F59_L6_step)) else if id = 3 then some (LSh.told F59_L3_sh 0 (F59_L3_step)) else none
theorem F59_L9_ok : ToldOK Tryz.prog 0 (loopAt (bodyOf fn_F59) [0, 0, 0]) (LSh.told F59_L9_sh 0 (F59_L9_step)) :=
  loop_ok (E := F59_E) (F59_Eok) (told := F59_told) (l := F59_L9_sh) (step := F59_L9_step) (loopsOK_of (ls := []) (by kernel_rfl) trivial) (by kernel_rfl) (fun v => by kernel_rfl)
theorem F59_L6_ok : ToldOK Tryz.prog 0 (loopAt (bodyOf fn_F59) [0, 0]) (LSh.told F59_L6_sh 0 (F59_L6_step)) :=
  loop_ok (E := F59_E) (F59_Eok) (told := F59_told) (l := F59_L6_sh) (step := F59_L6_step) (loopsOK_of (ls := [loopAt (bodyOf fn_F59) [0, 0, 0]]) (by kernel_rfl) ⟨.inr ⟨_, by kernel_rfl, F59_L9_ok⟩, trivial⟩) (by kernel_rfl) (fun v => by kernel_rfl)
theorem F59_L3_ok : ToldOK Tryz.prog 0 (loopAt (bodyOf fn_F59) [0]) (LSh.told F59_L3_sh 0 (F59_L3_step)) :=
  loop_ok (E := F59_E) (F59_Eok) (told := F59_told) (l := F59_L3_sh) (step := F59_L3_step) (loopsOK_of (ls := [loopAt (bodyOf fn_F59) [0, 0]]) (by kernel_rfl) ⟨.inr ⟨_, by kernel_rfl, F59_L6_ok⟩, trivial⟩) (by kernel_rfl) (fun v => by kernel_rfl)
theorem F59_ok : FOK Tryz.prog n_F59 F59_sh F59_fo F59 :=
  fn_ok (E := F59_E) (F59_Eok) (told := F59_told) (fl := []) (c := bodyOf fn_F59) (s := F59_sh) (l := F59_fo) (tree := F59_t) fnat_F59 (by kernel_rfl) (by kernel_rfl) (by kernel_rfl) (loopsOK_of (ls := [loopAt (bodyOf fn_F59) [0]]) (by kernel_rfl) ⟨.inr ⟨_, by kernel_rfl, F59_L3_ok⟩, trivial⟩) (fun v => by kernel_rfl)

def triN (n : Nat) (ds : List Dg) (a b c : Nat) : List (List Int) := if jo n ds (a : Int) (b : Int) ∧ jo n ds (b : Int) (c : Int) ∧ jo n ds (a : Int) (c : Int) then [[(a : Int), (b : Int), (c : Int)]] else []
def trisL (n : Nat) (ds : List Dg) : List (List Int) := (List.range' 0 n).flatMap fun a => (List.range' (a + 1) (n - (a + 1))).flatMap fun b => (List.range' (b + 1) (n - (b + 1))).flatMap (triN n ds a b)
theorem triN_len (n : Nat) (ds : List Dg) (a b c : Nat) : (triN n ds a b c).length ≤ 1 := by unfold triN; split <;> simp
theorem F59_eq {n : Nat} {ds : List Dg} (h : isTri n ds = true) : F59 ((n : Int), ds) = some ((), trisL n ds) := by
  have g := tri_rng h
  have inner : ∀ a b : Nat, a < b → b < n → ∀ out : List (List Int), out.length ≤ 144 * a + 12 * b → F59_L9 (((n : Int), (ds, ((), ((a : Int), ((b : Int), (((b + 1 : Nat) : Int), ((n : Int), (a : Int)))))))), out) = some (((n : Int), (ds, ((), ((a : Int), ((b : Int), ((n : Int), (a : Int))))))), out ++ (List.range' (b + 1) (n - (b + 1))).flatMap (triN n ds a b)) := by
    intro a b hab hb out ho
    refine app_loop (step := fun v => (F59_L9_step v).run) (fun k o => (((n : Int), (ds, ((), ((a : Int), ((b : Int), ((k : Int), ((n : Int), (a : Int)))))))), o)) (triN n ds a b) (fun o => (((n : Int), (ds, ((), ((a : Int), ((b : Int), ((n : Int), (a : Int))))))), o)) n 1 (144 * a + 12 * b) (b + 1) (triN_len n ds a b) ?_ ?_ (n - (b + 1)) (b + 1) out (Nat.le_refl _) rfl (by omega)
    · intro o j hj
      rw [F59_L9_step, T.run_test, if_neg (by simp; omega), T.run_test, if_pos (by simp), T.run_ret]
    · intro k o hk1 hk ho
      have v2 : w64 ((k : Int) + 1) = ((k + 1 : Nat) : Int) := by rw [w64_id (by omega) (by omega)]; omega
      have s1 := F78_eq h (a := (a : Int)) (b := (b : Int)) (by omega) (by omega) (by omega)
      have s2 := F78_eq h (a := (b : Int)) (b := (k : Int)) (by omega) (by omega) (by omega)
      have s3 := F78_eq h (a := (a : Int)) (b := (k : Int)) (by omega) (by omega) (by omega)
      rw [F59_L9_step, T.run_test, if_pos (decide_eq_true (by omega)), T.run_sub, s1, Option.bind_some, T.run_test]
      unfold triN
      by_cases c1 : jo n ds (a : Int) (b : Int)
      · rw [decide_eq_true c1, if_pos rfl, T.run_sub, s2, Option.bind_some, T.run_test]
        by_cases c2 : jo n ds (b : Int) (k : Int)
        · rw [decide_eq_true c2, if_pos rfl, T.run_sub, s3, Option.bind_some, T.run_test]
          by_cases c3 : jo n ds (a : Int) (k : Int)
          · rw [decide_eq_true c3, if_pos rfl, T.run_test, if_pos (by decide), T.run_test, if_pos (by decide), T.run_test, if_pos (by simp), T.run_test, if_pos (decide_eq_true (by omega)), win_all, T.run_test, if_pos (by simp), T.run_ret, v2, if_pos ⟨c1, c2, c3⟩]
          · rw [decide_eq_false c3, if_neg (by decide), T.run_test, if_pos (by simp), T.run_ret, v2, if_neg (fun hh => c3 hh.2.2), List.append_nil]
        · rw [decide_eq_false c2, if_neg (by decide), T.run_test, if_pos (by simp), T.run_ret, v2, if_neg (fun hh => c2 hh.2.1), List.append_nil]
      · rw [decide_eq_false c1, if_neg (by decide), T.run_test, if_pos (by simp), T.run_ret, v2, if_neg (fun hh => c1 hh.1), List.append_nil]
  have ilen : ∀ a b : Nat, ((List.range' (b + 1) (n - (b + 1))).flatMap (triN n ds a b)).length ≤ 12 := by
    intro a b
    have := flat_len (triN n ds a b) 1 (triN_len n ds a b) (List.range' (b + 1) (n - (b + 1)))
    rw [List.length_range'] at this
    omega
  have mid : ∀ a : Nat, a < n → ∀ out : List (List Int), out.length ≤ 144 * a → F59_L6 (((n : Int), (ds, ((), ((a : Int), (((a + 1 : Nat) : Int), ((n : Int), (a : Int))))))), out) = some (((n : Int), (ds, ((), ((n : Int), (a : Int))))), out ++ (List.range' (a + 1) (n - (a + 1))).flatMap fun b => (List.range' (b + 1) (n - (b + 1))).flatMap (triN n ds a b)) := by
    intro a ha out ho
    refine app_loop (step := fun v => (F59_L6_step v).run) (fun k o => (((n : Int), (ds, ((), ((a : Int), ((k : Int), ((n : Int), (a : Int))))))), o)) (fun b => (List.range' (b + 1) (n - (b + 1))).flatMap (triN n ds a b)) (fun o => (((n : Int), (ds, ((), ((n : Int), (a : Int))))), o)) n 12 (144 * a) (a + 1) (ilen a) ?_ ?_ (n - (a + 1)) (a + 1) out (Nat.le_refl _) rfl (by omega)
    · intro o j hj
      rw [F59_L6_step, T.run_test, if_neg (by simp; omega), T.run_test, if_pos (by simp), T.run_ret]
    · intro k o hk1 hk ho
      have v2 : w64 ((k : Int) + 1) = ((k + 1 : Nat) : Int) := by rw [w64_id (by omega) (by omega)]; omega
      rw [F59_L6_step, T.run_test, if_pos (decide_eq_true (by omega)), T.run_test, if_pos (by simp), T.run_sub, v2, inner a k (by omega) hk o (by omega), Option.bind_some, T.run_test, if_pos (by simp), T.run_ret]
      dsimp only
      rw [v2]
  have outer := app_loop (step := fun v => (F59_L3_step v).run) (fun k o => (((n : Int), (ds, ((), ((n : Int), (k : Int))))), o)) (fun a => (List.range' (a + 1) (n - (a + 1))).flatMap fun b => (List.range' (b + 1) (n - (b + 1))).flatMap (triN n ds a b)) (fun o => ((), o)) n 144 0 0
    (fun j => by
      have := flat_len (fun b => (List.range' (b + 1) (n - (b + 1))).flatMap (triN n ds j b)) 12 (ilen j) (List.range' (j + 1) (n - (j + 1)))
      rw [List.length_range'] at this
      omega)
    (fun o j hj => by
      rw [F59_L3_step, T.run_test, if_neg (by simp; omega), T.run_test, if_pos (by simp), T.run_ret])
    (fun k o _ hk ho => by
      have v2 : w64 ((k : Int) + 1) = ((k + 1 : Nat) : Int) := by rw [w64_id (by omega) (by omega)]; omega
      rw [F59_L3_step, T.run_test, if_pos (decide_eq_true (by omega)), T.run_test, if_pos (by simp), T.run_sub, v2, mid k hk o (by omega), Option.bind_some, T.run_test, if_pos (by simp), T.run_ret]
      dsimp only
      rw [v2])
    n 0 [] (Nat.le_refl 0) rfl (by simp)
  have ho : F59_L3 (((n : Int), (ds, ((), ((n : Int), (0 : Int))))), ([] : List (List Int))) = some ((), trisL n ds) := outer
  rw [F59, F59_t, T.run_test, if_pos rfl, T.run_sub, ho, Option.bind_some, T.run_test, if_pos (by simp), T.run_ret]


def F33_sh : FSh := ⟨[(.one (.sl (.int .i64) false false)), (.one (.si .i64))], []⟩

def F33_L2_sh : LSh := ⟨(fun ex => match ex with | .norm => [(0, none), (1, none), (7, none), (8, none)] | .exit i => if i = 0 then [] else [] | .ret => [(4, none)]), [(0, (.one (.sl (.int .i64) false false))), (1, (.one (.si .i64))), (7, (.one (.si .i64))), (8, (.one (.si .i64)))], [], [⟨.ret, [(4, (.one (.si .i64)))], []⟩, ⟨(.exit 0), [], []⟩], [], []⟩
noncomputable def F33_L2_step : (List (Int) × Int × Int × Int) → T ((List (Int) × Int × Int × Int) ⊕ (Int ⊕ Unit)) := fun (s, v, t7, t8) =>
 (.test (decide (t8 < t7))
 (.test (decide ((0 ≤ t8) ∧ (t8 < ((List.length s) : Int))))
 (.sub (s[(Int.toNat t8)]?) fun z0 =>
 (.test (v == z0)
 (.ret (Sum.inr (Sum.inl t8)))
 (.ret (Sum.inl (s, (v, (t7, (w64 (t8 + 1)))))))))
 .fail)
 (.ret (Sum.inr (Sum.inr ()))))
noncomputable def F33_L2 (v : (List (Int) × Int × Int × Int)) : Option (Int ⊕ Unit) := loopO (fun v => (F33_L2_step v).run) v

def F33_fo : List FO := [⟨[(.one (.si .i64))], []⟩]
noncomputable def F33_t : (List (Int) × Int) → T Int := fun (s, v) =>
 (.sub (F33_L2 (s, (v, (((List.length s) : Int), (0 : Int))))) fun z0 =>
 (.test (Sum.isLeft z0)
 (.sub (Sum.getLeft? z0) fun z1 =>
 (.ret z1))
 (.sub (Sum.getRight? z0) fun z2 =>
 (.ret (-1)))))
noncomputable def F33 (v : (List (Int) × Int)) : Option Int := (F33_t v).run
noncomputable def F33_E : TEnv := E0
theorem F33_Eok : (F33_E).OK := E0ok
noncomputable def F33_told : Nat → Option SealT := fun id => if id = 2 then some (LSh.told F33_L2_sh 0 (F33_L2_step)) else none
theorem F33_L2_ok : ToldOK Tryz.prog 0 (loopAt (bodyOf fn_F33) [0]) (LSh.told F33_L2_sh 0 (F33_L2_step)) :=
  loop_ok (E := F33_E) (F33_Eok) (told := F33_told) (l := F33_L2_sh) (step := F33_L2_step) (loopsOK_of (ls := []) (by kernel_rfl) trivial) (by kernel_rfl) (fun v => by kernel_rfl)
theorem F33_ok : FOK Tryz.prog n_F33 F33_sh F33_fo F33 :=
  fn_ok (E := F33_E) (F33_Eok) (told := F33_told) (fl := []) (c := bodyOf fn_F33) (s := F33_sh) (l := F33_fo) (tree := F33_t) fnat_F33 (by kernel_rfl) (by kernel_rfl) (by kernel_rfl) (loopsOK_of (ls := [loopAt (bodyOf fn_F33) [0]]) (by kernel_rfl) ⟨.inr ⟨_, by kernel_rfl, F33_L2_ok⟩, trivial⟩) (fun v => by kernel_rfl)

theorem F33_eq (s : List Int) (v : Int) (hl : s.length < 4611686018427387904) : F33 (s, v) = some (idxI (fun x => v == x) s) := by
  have h := loop_find (step := fun v => (F33_L2_step v).run) (xs := s) (fun x => v == x) (fun k => (s, (v, ((s.length : Int), (k : Int))))) (fun k => .inl (k : Int)) (.inr ())
    (fun k x hx => by
      have hlt := getElem?_lt hx
      have h1 : (k : Int) < (s.length : Int) := by omega
      have h2 : (0 : Int) ≤ k ∧ (k : Int) < (s.length : Int) := by omega
      simp only [F33_L2_step, T.run, Int.toNat_natCast, hx, Option.bind_some, h1, h2, decide_true, if_true, and_self]
      rw [w64_id (z := (k : Int) + 1) (by omega) (by omega)]
      cases hv : (v == x) <;> simp [hv])
    (by simp [F33_L2_step, T.run])
  rw [show ((0 : Nat) : Int) = 0 from rfl] at h
  simp only [F33, F33_t, T.run, F33_L2]
  rw [h]
  simp only [idxI]
  cases hf : s.findIdx? (fun x => v == x) <;> simp [Sum.isLeft, hf]


def F19_sh : FSh := ⟨[(.one (.sl (.int .i64) false false)), (.one (.si .i64))], []⟩

def F19_fo : List FO := [⟨[(.one .sb)], []⟩]
noncomputable def F19_t : (List (Int) × Int) → T Bool := fun (s, v) =>
 (.sub (F33 (s, v)) fun z0 =>
 (.ret (decide (z0 ≥ 0))))
noncomputable def F19 (v : (List (Int) × Int)) : Option Bool := (F19_t v).run
noncomputable def F19_E : TEnv := (E0.add1 n_F33 F33_sh F33_fo F33)
theorem F19_Eok : (F19_E).OK := (E0ok.add1 F33_ok)
noncomputable def F19_told : Nat → Option SealT := fun id => none
theorem F19_ok : FOK Tryz.prog n_F19 F19_sh F19_fo F19 :=
  fn_ok (E := F19_E) (F19_Eok) (told := F19_told) (fl := []) (c := bodyOf fn_F19) (s := F19_sh) (l := F19_fo) (tree := F19_t) fnat_F19 (by kernel_rfl) (by kernel_rfl) (by kernel_rfl) (loopsOK_of (ls := []) (by kernel_rfl) trivial) (fun v => by kernel_rfl)

theorem F19_eq (s : List Int) (v : Int) (hl : s.length < 4611686018427387904) : F19 (s, v) = some (s.any (fun x => v == x)) := by
  rw [F19, F19_t, T.run_sub, F33_eq s v hl, Option.bind_some, T.run_ret, idxI_ge]


end Go.Proofs.W
