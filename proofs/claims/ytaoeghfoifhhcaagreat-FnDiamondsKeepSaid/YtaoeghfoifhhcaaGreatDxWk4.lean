/- Functions of the program, walked, and what they compute. -/
import Derived.Test.YtaoeghfoifhhcaaGreatDxWk3
set_option linter.unusedVariables false
set_option linter.unusedSimpArgs false
set_option maxRecDepth 100000
set_option maxHeartbeats 4000000
namespace Go.Proofs.W
open Go Go.Gm Go.Proofs
open Go.RowKit Go.Shelf

theorem quid_triS {l : List Int} {ds : List Dg} (h : trOf l = some ds) : ∃ es, triS (l.length - 3) l (nameL l.length) = some es ∧ ds = sortD es ∧ (∀ z ∈ l, 1 ≤ z ∧ z ≤ 1000000) ∧ 3 ≤ l.length ∧ l.length ≤ 12 := by
  have hb := trOf_bounds (l := l) (by rw [h]; rfl)
  have hb12 : l.all (inB 1 12) = true := List.all_eq_true.2 fun v hv => by have := hb.2 v hv; rw [inB_iff]; omega
  have hs := trOf_spec l hb12 (by rw [inB_iff]; omega)
  rw [h] at hs
  obtain ⟨es, h1, h2⟩ := Option.map_eq_some_iff.1 hs
  exact ⟨es, h1, h2.symm, fun z hz => by have := hb.2 z hz; omega, hb.1.1, hb.1.2⟩
theorem nameL_getD {n a : Nat} (h : a < n) : (nameL n).getD a 0 = (a : Int) := by simp [nameL, List.getD_eq_getElem?_getD, h]
theorem fr_pair {l : List Int} {ds : List Dg} (h : trOf l = some ds) {a b : Nat} (hab : a < b) (hb : b < l.length) :
    1 ≤ eE l a b ∧ eE l a b ≤ 512 ∧ (eE l a b = 1 ↔ adj l.length a b ∨ ((a : Int), (b : Int)) ∈ ds) := by
  obtain ⟨es, h1, h2, h3, h4, h5⟩ := quid_triS h
  obtain ⟨g1, g2, g3⟩ := eE_main (l.length - 3) l (nameL l.length) es (by omega) h3 (nameL_sorted _) (by rw [nameL_length]; omega) h1 a b hab (by omega)
  rw [show l.length - 3 + 3 = l.length by omega, nameL_getD (by omega), nameL_getD hb] at g3
  refine ⟨g1, ?_, ?_⟩
  · have : ∀ k, k ≤ 9 → (2 : Int) ^ k ≤ 512 := by decide
    have := this (l.length - 3) (by omega)
    omega
  · rw [g3, h2, (sortD_perm es).mem_iff]
theorem en_mod (l : List Int) (i : Int) (k : Nat) : en (qa l) i k = en (qa l) (i % (l.length : Int)) k :=
  en_congr k fun t _ _ => by unfold qa; rw [Int.emod_add_emod]
theorem en_pair {l : List Int} (hc : clo (-1) l) (hl : 3 ≤ l.length) (i : Int) {k : Nat} (h1 : 1 ≤ k) (h2 : k < l.length) : ∃ r a b : Nat, (r : Int) = i % (l.length : Int) ∧ r < l.length ∧ a < b ∧ b < l.length ∧ en (qa l) i k = eE l a b ∧
    ((r + k < l.length ∧ a = r ∧ b = r + k) ∨ (l.length ≤ r + k ∧ a = r + k - l.length ∧ b = r)) := by
  obtain ⟨r, hr⟩ : ∃ r : Nat, (r : Int) = i % (l.length : Int) := ⟨(i % (l.length : Int)).toNat, by rw [Int.toNat_of_nonneg (Int.emod_nonneg _ (by omega))]⟩
  have hlt : r < l.length := by have := Int.emod_lt_of_pos i (show 0 < (l.length : Int) by omega); omega
  rw [en_mod, ← hr]
  by_cases h : r + k < l.length
  · refine ⟨r, r, r + k, rfl, hlt, by omega, h, ?_, .inl ⟨h, rfl, rfl⟩⟩
    rw [eE_en (by omega) (by omega), Nat.add_sub_cancel_left]
  · refine ⟨r, r + k - l.length, r, rfl, hlt, by omega, hlt, ?_, .inr ⟨by omega, rfl, rfl⟩⟩
    rw [en_glide' hl hc _ k (by omega), show (r : Int) + k = ((r + k - l.length : Nat) : Int) + l.length by omega, en_per, eE_en (by omega) (by omega)]
    congr 1
    omega
theorem en_pos {l : List Int} {ds : List Dg} (h : trOf l = some ds) (i : Int) {k : Nat} (h1 : 1 ≤ k) (h2 : k < l.length) : 1 ≤ en (qa l) i k ∧ en (qa l) i k ≤ 512 := by
  obtain ⟨_, _, _, _, h4, _⟩ := quid_triS h
  obtain ⟨r, a, b, _, _, hab, hb, e, _⟩ := en_pair (quid_clo (by rw [h]; rfl)) h4 i h1 h2
  rw [e]
  have := fr_pair h hab hb
  exact ⟨this.1, this.2.1⟩
def oD (i j : Nat) : Dg := ((min i j : Nat), (max i j : Nat))
theorem tri_rng {n : Nat} {ds : List Dg} (h : isTri n ds = true) : (∀ d ∈ ds, 0 ≤ d.1 ∧ d.1 + 1 < d.2 ∧ d.2 < n ∧ ¬ (d.1 = 0 ∧ d.2 = n - 1)) ∧ ds.Nodup ∧ (ds.length : Int) = n - 3 ∧ 3 ≤ n ∧ n ≤ 12 := by
  obtain ⟨g1, g2, g3, g4⟩ := (isTri_iff _ _).1 h
  refine ⟨fun d hd => ?_, ?_, g2, by omega, by omega⟩
  · have := inDg_iff.1 (g3 d hd)
    omega
  · exact g4.imp fun {a b} hh e => by subst e; simp [ltD] at hh
theorem sum_range_congr {f g : Nat → Int} {n : Nat} (h : ∀ p, p < n → f p = g p) : ((List.range n).map f).sum = ((List.range n).map g).sum := by
  congr 1
  exact List.map_congr_left fun p hp => h p (List.mem_range.1 hp)
theorem sum_range_succ' (f : Nat → Int) (n : Nat) : ((List.range (n + 1)).map f).sum = ((List.range n).map f).sum + f n := by
  simp [List.range_succ]
theorem sum_range_front (f : Nat → Int) : ∀ n : Nat, ((List.range (n + 1)).map f).sum = f 0 + ((List.range n).map fun t => f (t + 1)).sum
  | 0 => by simp
  | n + 1 => by
    rw [sum_range_succ', sum_range_front f n, sum_range_succ']
    omega
theorem sum_range_swap (f : Nat → Nat → Int) (n : Nat) : ∀ m : Nat, ((List.range m).map fun t => ((List.range n).map fun i => f t i).sum).sum = ((List.range n).map fun i => ((List.range m).map fun t => f t i).sum).sum
  | 0 => by
    have : ∀ n : Nat, ((List.range n).map fun _ => (0 : Int)).sum = 0 := by
      intro n
      induction n with
      | zero => rfl
      | succ n ih => rw [sum_range_succ', ih]; rfl
    simp only [List.range_zero, List.map_nil, List.sum_nil]
    exact (this n).symm
  | m + 1 => by
    rw [sum_range_succ' (fun t => ((List.range n).map fun i => f t i).sum) m, sum_range_swap f n m]
    rw [← sum_range_add (fun i => ((List.range m).map fun t => f t i).sum) (fun i => f m i)]
    exact sum_range_congr fun p _ => (sum_range_succ' (fun t => f t p) m).symm
theorem sum_range_rot (G : Nat → Int) (n : Nat) (hG : ∀ x, G (x + n) = G x) : ∀ i : Nat, ((List.range n).map fun t => G (i + t)).sum = ((List.range n).map G).sum
  | 0 => by simp only [Nat.zero_add]
  | i + 1 => by
    rw [← sum_range_rot G n hG i]
    cases n with
    | zero => rfl
    | succ n =>
      rw [sum_range_succ' (fun t => G (i + 1 + t)) n, sum_range_front (fun t => G (i + t)) n]
      have : G (i + 1 + n) = G (i + 0) := by rw [show i + 1 + n = i + (n + 1) by omega, hG]; rfl
      rw [this, Int.add_comm]
      congr 1
      exact sum_range_congr fun p _ => by rw [show i + 1 + p = i + (p + 1) by omega]
theorem sum_range_if (a : Int) (c : Prop) [Decidable c] (n : Nat) (h : c → 0 ≤ a ∧ a < (n : Int)) : ((List.range n).map fun (p : Nat) => if c ∧ a = (p : Int) then (1 : Int) else 0).sum = if c then 1 else 0 := by
  by_cases hc : c
  · rw [if_pos hc]
    have := sum_range_one a n
    rw [if_pos (h hc)] at this
    refine Eq.trans (sum_range_congr fun p _ => ?_) this
    by_cases e : a = (p : Int)
    · rw [if_pos ⟨hc, e⟩, if_pos e]
    · rw [if_neg (fun x => e x.2), if_neg e]
  · rw [if_neg hc]
    have : ∀ n : Nat, ((List.range n).map fun _ => (0 : Int)).sum = 0 := by
      intro n
      induction n with
      | zero => rfl
      | succ n ih => rw [sum_range_succ', ih]; rfl
    refine Eq.trans (sum_range_congr fun p _ => ?_) (this n)
    exact if_neg fun x => hc x.1
theorem sum_joined {n i : Nat} (hi : i < n) : ∀ ds : List Dg, ds.Nodup → (∀ d ∈ ds, 0 ≤ d.1 ∧ d.1 < d.2 ∧ d.2 < n) → ((List.range n).map fun j => if oD i j ∈ ds then (1 : Int) else 0).sum = cnt ds i
  | [], _, _ => by
    have : ∀ n : Nat, ((List.range n).map fun _ => (0 : Int)).sum = 0 := by
      intro n
      induction n with
      | zero => rfl
      | succ n ih => rw [sum_range_succ', ih]; rfl
    refine Eq.trans (sum_range_congr fun p _ => ?_) (this n)
    exact if_neg (List.not_mem_nil)
  | d :: t, hn, h => by
    have ih := sum_joined hi t (List.nodup_cons.1 hn).2 fun e he => h e (by simp [he])
    have hd := h d (by simp)
    have e1 : ((List.range n).map fun (j : Nat) => if oD i j ∈ d :: t then (1 : Int) else 0).sum = ((List.range n).map fun (j : Nat) => ((if d.1 = (i : Int) ∧ d.2 = (j : Int) then (1 : Int) else 0) + (if d.2 = (i : Int) ∧ d.1 = (j : Int) then (1 : Int) else 0)) + (if oD i j ∈ t then (1 : Int) else 0)).sum := by
      refine sum_range_congr fun j hj => ?_
      by_cases hx : oD i j = d
      · have hnt : oD i j ∉ t := by rw [hx]; exact (List.nodup_cons.1 hn).1
        rw [if_pos (by rw [hx]; simp), if_neg hnt]
        unfold oD at hx
        have h1 : d.1 = ((min i j : Nat) : Int) := by rw [← hx]
        have h2 : d.2 = ((max i j : Nat) : Int) := by rw [← hx]
        by_cases hij : i < j
        · rw [if_pos (by omega), if_neg (by omega)]; rfl
        · rw [if_neg (by omega), if_pos (by omega)]; rfl
      · have hne : ¬ (d.1 = (i : Int) ∧ d.2 = (j : Int)) := fun x => hx (Prod.ext (by show ((min i j : Nat) : Int) = d.1; omega) (by show ((max i j : Nat) : Int) = d.2; omega))
        have hne2 : ¬ (d.2 = (i : Int) ∧ d.1 = (j : Int)) := fun x => hx (Prod.ext (by show ((min i j : Nat) : Int) = d.1; omega) (by show ((max i j : Nat) : Int) = d.2; omega))
        rw [if_neg hne, if_neg hne2]
        by_cases hm : oD i j ∈ t
        · rw [if_pos (by simp [hm]), if_pos hm]; rfl
        · rw [if_neg (by simp [hm, hx]), if_neg hm]; rfl
    rw [e1, sum_range_add (fun (j : Nat) => (if d.1 = (i : Int) ∧ d.2 = (j : Int) then (1 : Int) else 0) + (if d.2 = (i : Int) ∧ d.1 = (j : Int) then (1 : Int) else 0)) (fun j => if oD i j ∈ t then (1 : Int) else 0),
      sum_range_add (fun (j : Nat) => if d.1 = (i : Int) ∧ d.2 = (j : Int) then (1 : Int) else 0) (fun (j : Nat) => if d.2 = (i : Int) ∧ d.1 = (j : Int) then (1 : Int) else 0), ih, sum_range_if d.2 (d.1 = (i : Int)) n (fun _ => by omega), sum_range_if d.1 (d.2 = (i : Int)) n (fun _ => by omega)]
    rfl
theorem en_one {l : List Int} {ds : List Dg} (h : trOf l = some ds) {i k : Nat} (hi : i < l.length) (h1 : 2 ≤ k) (h2 : k + 2 ≤ l.length) : en (qa l) (i : Int) k = 1 ↔ oD i ((i + k) % l.length) ∈ ds := by
  obtain ⟨_, _, _, _, h4, _⟩ := quid_triS h
  obtain ⟨r, a, b, hr, _, hab, hb, e, hc⟩ := en_pair (quid_clo (by rw [h]; rfl)) h4 (i : Int) (k := k) (by omega) (by omega)
  rw [Int.emod_eq_of_lt (by omega) (by omega)] at hr
  obtain rfl : r = i := by omega
  have hp := (fr_pair h hab hb).2.2
  rw [e, hp]
  have hna : ¬ adj l.length a b := by unfold adj; omega
  have ho : oD r ((r + k) % l.length) = ((a : Int), (b : Int)) := by
    unfold oD
    rcases hc with ⟨c1, c2, c3⟩ | ⟨c1, c2, c3⟩
    · rw [Nat.mod_eq_of_lt c1, c2, c3, Nat.min_eq_left (by omega), Nat.max_eq_right (by omega)]
    · rw [show r + k = (r + k - l.length) + l.length by omega, Nat.add_mod_right, Nat.mod_eq_of_lt (by omega), c2, c3, Nat.min_eq_right (by omega), Nat.max_eq_left (by omega)]
  rw [ho]
  exact ⟨fun x => x.resolve_left hna, .inr⟩
theorem ones_at {l : List Int} {ds : List Dg} (h : trOf l = some ds) {i : Nat} (hi : i < l.length) (hl : 4 ≤ l.length) : ((List.range (l.length - 3)).map fun t => if en (qa l) (i : Int) (t + 2) = 1 then (1 : Int) else 0).sum = cnt ds i := by
  obtain ⟨ht, _⟩ := trOf_tri h
  obtain ⟨g1, g2, _⟩ := tri_rng ht
  have hj := sum_joined hi ds g2 fun d hd => by have := g1 d hd; omega
  obtain ⟨m, hm⟩ : ∃ m, l.length = m + 3 := ⟨l.length - 3, by omega⟩
  have nodiag : ∀ j, j < l.length → (j = i ∨ j = (i + 1) % l.length ∨ j = (i + (l.length - 1)) % l.length) → oD i j ∉ ds := by
    intro j hj hc hmem
    have := g1 _ hmem
    simp only [oD] at this
    have e1 : (i + 1) % l.length = if i + 1 < l.length then i + 1 else 0 := by
      split
      · rw [Nat.mod_eq_of_lt (by omega)]
      · rw [show i + 1 = l.length by omega, Nat.mod_self]
    have e2 : (i + (l.length - 1)) % l.length = if i = 0 then l.length - 1 else i - 1 := by
      split
      · rw [Nat.mod_eq_of_lt (by omega)]; omega
      · rw [show i + (l.length - 1) = (i - 1) + l.length by omega, Nat.add_mod_right, Nat.mod_eq_of_lt (by omega)]
    rw [e1, e2] at hc
    by_cases c1 : i + 1 < l.length
    · rw [if_pos c1] at hc
      by_cases c2 : i = 0
      · rw [if_pos c2] at hc; omega
      · rw [if_neg c2] at hc; omega
    · rw [if_neg c1] at hc
      by_cases c2 : i = 0
      · rw [if_pos c2] at hc; omega
      · rw [if_neg c2] at hc; omega
  have hrot := sum_range_rot (fun x => if oD i (x % l.length) ∈ ds then (1 : Int) else 0) l.length (fun x => by simp only [Nat.add_mod_right]) i
  have hid : ((List.range l.length).map fun x => if oD i (x % l.length) ∈ ds then (1 : Int) else 0).sum = ((List.range l.length).map fun j => if oD i j ∈ ds then (1 : Int) else 0).sum := sum_range_congr fun p hp => by rw [Nat.mod_eq_of_lt hp]
  rw [hid, hj] at hrot
  rw [← hrot, hm, show m + 3 - 3 = m by omega, sum_range_succ', sum_range_front, sum_range_front]
  rw [hm] at nodiag
  have z0 : oD i ((i + 0) % (m + 3)) ∉ ds := nodiag _ (Nat.mod_lt _ (by omega)) (.inl (by rw [Nat.add_zero, Nat.mod_eq_of_lt (by omega)]))
  have z1 : oD i ((i + (0 + 1)) % (m + 3)) ∉ ds := nodiag _ (Nat.mod_lt _ (by omega)) (.inr (.inl (by rw [Nat.zero_add])))
  have z2 : oD i ((i + (m + 2)) % (m + 3)) ∉ ds := nodiag _ (Nat.mod_lt _ (by omega)) (.inr (.inr (by rw [show m + 3 - 1 = m + 2 by omega])))
  rw [if_neg z0, if_neg z1, if_neg z2]
  rw [Int.add_zero, Int.zero_add, Int.zero_add]
  refine sum_range_congr fun t ht => ?_
  have := en_one h hi (k := t + 2) (by omega) (by omega)
  rw [hm] at this
  show _ = if oD i ((i + (t + 1 + 1)) % (m + 3)) ∈ ds then (1 : Int) else 0
  rw [show i + (t + 1 + 1) = i + (t + 2) by omega]
  by_cases hx : en (qa l) (i : Int) (t + 2) = 1
  · rw [if_pos hx, if_pos (this.1 hx)]
  · rw [if_neg hx, if_neg fun y => hx (this.2 y)]
theorem ones_all {l : List Int} {ds : List Dg} (h : trOf l = some ds) (hl : 4 ≤ l.length) : ((List.range (l.length - 3)).map fun t => ((List.range l.length).map fun (i : Nat) => if en (qa l) (i : Int) (t + 2) = 1 then (1 : Int) else 0).sum).sum = 2 * ((l.length : Int) - 3) := by
  obtain ⟨ht, _⟩ := trOf_tri h
  obtain ⟨g1, g2, g3, _⟩ := tri_rng ht
  rw [sum_range_swap (fun t i => if en (qa l) (i : Int) (t + 2) = 1 then (1 : Int) else 0), ← g3, ← sum_cnt l.length ds fun d hd => by have := g1 d hd; omega]
  exact sum_range_congr fun i hi => ones_at h hi hl
theorem quid_rev {l : List Int} (h : (trOf l).isSome = true) : (trOf l.reverse).isSome = true := by
  have hb := trOf_bounds h
  refine clo_quid (by rw [List.length_reverse]; exact hb.1) (fun z hz => by have := hb.2 z (List.mem_reverse.1 hz); omega) ?_ (clo_rev (quid_clo h))
  rw [List.length_reverse, List.sum_reverse]
  exact quid_sum h
def rowF (q : List Int) (k : Nat) : List Int := (List.range q.length).map fun (i : Nat) => en (qa q) (i : Int) (k + 1)
def frF (q : List Int) : List (List Int) := (List.range (q.length - 3)).map fun t => rowF q (t + 1)
theorem rowF_length (q : List Int) (k : Nat) : (rowF q k).length = q.length := by simp [rowF]
theorem rowF_get {q : List Int} {k i : Nat} (h : i < q.length) : (rowF q k)[i]? = some (en (qa q) (i : Int) (k + 1)) := by simp [rowF, h]
theorem frF_length (q : List Int) : (frF q).length = q.length - 3 := by simp [frF]
theorem frF_get {q : List Int} {t : Nat} (h : t < q.length - 3) : (frF q)[t]? = some (rowF q (t + 1)) := by simp [frF, h]
theorem mem_dgL_iff {n : Nat} {d : Dg} : d ∈ dgL n ↔ inDg n d = true := by
  refine ⟨fun h => ?_, mem_dgL⟩
  unfold dgL at h
  obtain ⟨a, _, h⟩ := List.mem_flatMap.1 h
  exact (List.mem_filter.1 h).2
theorem ones_list {l : List Int} {ds : List Dg} (h : trOf l = some ds) : (dgL l.length).filter (fun d => decide (en (qa l) d.1 (d.2 - d.1).toNat = 1)) = ds := by
  obtain ⟨ht, _⟩ := trOf_tri h
  obtain ⟨g1, g2, g3, g4, g5⟩ := tri_rng ht
  have hdg : ∀ n, n ≤ 12 → (dgL n).Pairwise (fun d e => ltD d e = true) := by decide +kernel
  have hup := hdg l.length g5
  have hmem : ∀ d : Dg, d ∈ (dgL l.length).filter (fun d => decide (en (qa l) d.1 (d.2 - d.1).toNat = 1)) ↔ d ∈ ds := by
    intro d
    rw [List.mem_filter, decide_eq_true_eq]
    constructor
    · rintro ⟨h1, h2⟩
      have hi := inDg_iff.1 ((mem_dgL_iff.1 h1))
      obtain ⟨a, ha⟩ : ∃ a : Nat, d.1 = a := ⟨d.1.toNat, by omega⟩
      obtain ⟨b, hb⟩ : ∃ b : Nat, d.2 = b := ⟨d.2.toNat, by omega⟩
      have hp := (fr_pair h (a := a) (b := b) (by omega) (by omega)).2.2
      rw [ha, hb, show ((b : Int) - a).toNat = b - a by omega, ← eE_en (by omega) (by omega)] at h2
      rcases hp.1 h2 with hh | hh
      · unfold adj at hh; omega
      · rw [← ha, ← hb] at hh; exact hh
    · intro hd
      have := g1 d hd
      refine ⟨mem_dgL (inDg_iff.2 (by omega)), ?_⟩
      obtain ⟨a, ha⟩ : ∃ a : Nat, d.1 = a := ⟨d.1.toNat, by omega⟩
      obtain ⟨b, hb⟩ : ∃ b : Nat, d.2 = b := ⟨d.2.toNat, by omega⟩
      have hp := (fr_pair h (a := a) (b := b) (by omega) (by omega)).2.2
      rw [ha, hb, show ((b : Int) - a).toNat = b - a by omega, ← eE_en (by omega) (by omega)]
      refine hp.2 (.inr ?_)
      rw [← ha, ← hb]
      exact hd
  have hs1 : SortedD ((dgL l.length).filter (fun d => decide (en (qa l) d.1 (d.2 - d.1).toNat = 1))) := (hup.sublist List.filter_sublist).imp fun hh => leD_of_lt hh
  obtain ⟨es, _, h2, _⟩ := quid_triS h
  have hs2 : SortedD ds := by rw [h2]; exact sortD_sorted es
  refine sorted_unique hs1 hs2 ((List.perm_ext_iff_of_nodup ?_ g2).2 hmem)
  refine List.Pairwise.sublist List.filter_sublist (hup.imp fun {a b} hh e => ?_)
  subst e
  simp [ltD] at hh


def F64_sh : FSh := ⟨[(.one (.sl (.int .i64) false false))], []⟩

def F64_fo : List FO := [⟨[(.one .sb)], []⟩]
noncomputable def F64_t : List (Int) → T Bool := fun quiddity =>
 (.test (decide (((List.length quiddity) : Int) ≥ 4))
 (.sub (F51 quiddity) fun z0 =>
 (.ret z0))
 (.ret false))
noncomputable def F64 (v : List (Int)) : Option Bool := (F64_t v).run
noncomputable def F64_E : TEnv := (E0.add1 n_F51 F51_sh F51_fo F51)
theorem F64_Eok : (F64_E).OK := (E0ok.add1 F51_ok)
noncomputable def F64_told : Nat → Option SealT := fun id => none
theorem F64_ok : FOK Tryz.prog n_F64 F64_sh F64_fo F64 :=
  fn_ok (E := F64_E) (F64_Eok) (told := F64_told) (fl := []) (c := bodyOf fn_F64) (s := F64_sh) (l := F64_fo) (tree := F64_t) fnat_F64 (by kernel_rfl) (by kernel_rfl) (by kernel_rfl) (loopsOK_of (ls := []) (by kernel_rfl) trivial) (fun v => by kernel_rfl)

def rowed (q : List Int) : Bool := decide ((q.length : Int) ≥ 4) && (trOf q).isSome
theorem F64_eq (q : List Int) (hl : q.length < 4611686018427387904) : F64 q = some (rowed q) := by
  rw [F64, F64_t, T.run_test]
  unfold rowed
  by_cases h : (q.length : Int) ≥ 4
  · rw [if_pos (decide_eq_true h), T.run_sub, F51_eq q hl, Option.bind_some, T.run_ret, decide_eq_true h]; rfl
  · rw [if_neg (by rw [decide_eq_true_eq]; exact h), T.run_ret, decide_eq_false h]; rfl
theorem rowed_some {q : List Int} (h : rowed q = true) : 4 ≤ q.length ∧ ∃ ds, trOf q = some ds := by
  unfold rowed at h
  rw [Bool.and_eq_true, decide_eq_true_eq] at h
  exact ⟨by omega, Option.isSome_iff_exists.1 h.2⟩



theorem tmod_emod (k n : Int) (hn : 0 < n) : Int.tmod (Int.tmod k n + n) n = k % n := by
  have h1 := Int.tmod_lt_of_pos k hn
  have h2 : -n < Int.tmod k n := by
    have := Int.lt_tmod_of_pos k hn
    omega
  rw [Int.tmod_eq_emod_of_nonneg (by omega), Int.add_emod_right]
  have := Int.mul_tdiv_add_tmod k n
  conv => rhs; rw [← this]
  rw [Int.mul_add_emod_self_left]
theorem tmod_w (k n : Int) (hn : 0 < n) (hb : n ≤ 1000000) : w64 (Int.tmod k n + n) = Int.tmod k n + n := by
  have h1 := Int.tmod_lt_of_pos k hn
  have h2 : -n < Int.tmod k n := by
    have := Int.lt_tmod_of_pos k hn
    omega
  exact w64_id (by omega) (by omega)
theorem snocL {α : Type} (xs : List α) (x : α) : win xs 0 xs.length ++ [x] = xs ++ [x] := by rw [win_all]


def F76_sh : FSh := ⟨[(.one (.si .i64)), (.one (.si .i64))], []⟩

def F76_fo : List FO := [⟨[(.one (.si .i64))], []⟩]
noncomputable def F76_t : (Int × Int) → T Int := fun (i, n) =>
 (.test (decide (n ≠ 0))
 (.test (decide (n ≠ 0))
 (.ret (Int.tmod (w64 ((Int.tmod i n) + n)) n))
 .fail)
 .fail)
noncomputable def F76 (v : (Int × Int)) : Option Int := (F76_t v).run
noncomputable def F76_E : TEnv := E0
theorem F76_Eok : (F76_E).OK := E0ok
noncomputable def F76_told : Nat → Option SealT := fun id => none
theorem F76_ok : FOK Tryz.prog n_F76 F76_sh F76_fo F76 :=
  fn_ok (E := F76_E) (F76_Eok) (told := F76_told) (fl := []) (c := bodyOf fn_F76) (s := F76_sh) (l := F76_fo) (tree := F76_t) fnat_F76 (by kernel_rfl) (by kernel_rfl) (by kernel_rfl) (loopsOK_of (ls := []) (by kernel_rfl) trivial) (fun v => by kernel_rfl)

theorem F76_eq (i n : Int) (hn : 0 < n) (hb : n ≤ 1000000) : F76 (i, n) = some (i % n) := by
  rw [F76, F76_t, T.run_test, if_pos (decide_eq_true (by omega)), T.run_test, if_pos (decide_eq_true (by omega)), T.run_ret, tmod_w i n hn hb, tmod_emod i n hn]


def F65_sh : FSh := ⟨[(.one (.sl (.int .i64) false false)), (.one (.si .i64))], []⟩

def F65_L3_sh : LSh := ⟨(fun ex => match ex with | .norm => [(0, none), (1, none), (5, none), (6, none), (7, none)] | .exit i => if i = 0 then [(6, none)] else [] | .ret => [(4, none)]), [(0, (.one (.sl (.int .i64) false false))), (1, (.one (.si .i64))), (5, (.one (.si .i64))), (6, (.one (.rw 0 0))), (7, (.one (.si .i64)))], [(.row 0 (.int .i64))], [⟨(.exit 0), [(6, (.one (.rw 0 0)))], [(.row 0 (.int .i64))]⟩], [], []⟩
noncomputable def F65_L3_step : ((List (Int) × Int × Int × Unit × Int) × List (Int)) → T (((List (Int) × Int × Int × Unit × Int) × List (Int)) ⊕ (Unit × List (Int))) := fun ((quiddity, i, n, (), j), out) =>
 (.test (decide (j < n))
 (.sub (F76 ((w64 (i + j)), n)) fun z0 =>
 (.test (decide ((0 ≤ z0) ∧ (z0 < ((List.length quiddity) : Int))))
 (.sub (quiddity[(Int.toNat z0)]?) fun z1 =>
 (.test (decide ((0 ≤ j) ∧ (j < ((List.length out) : Int))))
 (.sub (out[(0 + (Int.toNat j))]?) fun z2 =>
 (.test (decide ((0 ≤ (w64 (j - 1))) ∧ ((w64 (j - 1)) < ((List.length out) : Int))))
 (.sub (out[(0 + (Int.toNat (w64 (j - 1))))]?) fun z3 =>
 (.test (decide (1 ≤ 1))
 (.test (decide ((0 + (List.length out)) ≤ (List.length out)))
 (.test (decide ((2 * (((List.length out) + 1) * 9)) ≤ 140737488355328))
 (.test (decide ((0 = 0) ∧ (((List.length out) + 1) = (List.length ((win out 0 (List.length out)) ++ [(w64 ((w64 (z1 * z2)) - z3))])))))
 (.ret (Sum.inl ((quiddity, (i, (n, ((), (w64 (j + 1)))))), ((win out 0 (List.length out)) ++ [(w64 ((w64 (z1 * z2)) - z3))]))))
 .fail)
 .fail)
 .fail)
 .fail))
 .fail))
 .fail))
 .fail))
 (.test (decide ((0 = 0) ∧ ((List.length out) = (List.length out))))
 (.ret (Sum.inr ((), out)))
 .fail))
noncomputable def F65_L3 (v : ((List (Int) × Int × Int × Unit × Int) × List (Int))) : Option (Unit × List (Int)) := loopO (fun v => (F65_L3_step v).run) v

def F65_fo : List FO := [⟨[(.one (.rw 0 0))], [(.row 0 (.int .i64))]⟩]
noncomputable def F65_t : (List (Int) × Int) → T (Unit × List (Int)) := fun (quiddity, i) =>
 (.test true
 (.sub (F65_L3 ((quiddity, (i, (((List.length quiddity) : Int), ((), (1 : Int))))), [(0 : Int), (1 : Int)])) fun z0 =>
 (.test (decide ((0 = 0) ∧ ((List.length z0.2) = (List.length z0.2))))
 (.ret ((), z0.2))
 .fail))
 .fail)
noncomputable def F65 (v : (List (Int) × Int)) : Option (Unit × List (Int)) := (F65_t v).run
noncomputable def F65_E : TEnv := (E0.add1 n_F76 F76_sh F76_fo F76)
theorem F65_Eok : (F65_E).OK := (E0ok.add1 F76_ok)
noncomputable def F65_told : Nat → Option SealT := fun id => if id = 3 then some (LSh.told F65_L3_sh 0 (F65_L3_step)) else none
theorem F65_L3_ok : ToldOK Tryz.prog 0 (loopAt (bodyOf fn_F65) [0]) (LSh.told F65_L3_sh 0 (F65_L3_step)) :=
  loop_ok (E := F65_E) (F65_Eok) (told := F65_told) (l := F65_L3_sh) (step := F65_L3_step) (loopsOK_of (ls := []) (by kernel_rfl) trivial) (by kernel_rfl) (fun v => by kernel_rfl)
theorem F65_ok : FOK Tryz.prog n_F65 F65_sh F65_fo F65 :=
  fn_ok (E := F65_E) (F65_Eok) (told := F65_told) (fl := []) (c := bodyOf fn_F65) (s := F65_sh) (l := F65_fo) (tree := F65_t) fnat_F65 (by kernel_rfl) (by kernel_rfl) (by kernel_rfl) (loopsOK_of (ls := [loopAt (bodyOf fn_F65) [0]]) (by kernel_rfl) ⟨.inr ⟨_, by kernel_rfl, F65_L3_ok⟩, trivial⟩) (fun v => by kernel_rfl)

def ensL (q : List Int) (i : Int) (k : Nat) : List Int := (List.range k).map fun (t : Nat) => en (qa q) i t
theorem ensL_length (q : List Int) (i : Int) (k : Nat) : (ensL q i k).length = k := by simp [ensL]
theorem ensL_get {q : List Int} {i : Int} {k t : Nat} (h : t < k) : (ensL q i k)[t]? = some (en (qa q) i t) := by simp [ensL, h]
theorem ensL_succ (q : List Int) (i : Int) (k : Nat) : ensL q i (k + 1) = ensL q i k ++ [en (qa q) i k] := by simp [ensL, List.range_succ]
theorem en_small {q : List Int} {ds : List Dg} (h : trOf q = some ds) (i : Int) {k : Nat} (hk : k ≤ q.length) : 0 ≤ en (qa q) i k ∧ en (qa q) i k ≤ 512 := by
  obtain ⟨_, _, _, _, h3, _⟩ := quid_triS h
  by_cases h0 : k = 0
  · subst h0; exact ⟨Int.le_refl 0, by show (0 : Int) ≤ 512; decide⟩
  · by_cases h1 : k < q.length
    · have := en_pos h i (k := k) (by omega) h1
      omega
    · rw [show k = q.length by omega, (en_close h3 (quid_clo (by rw [h]; rfl)) i).1]
      decide
theorem qa_some {q : List Int} (hq : 0 < q.length) (x : Int) : 0 ≤ x % (q.length : Int) ∧ x % (q.length : Int) < (q.length : Int) ∧ q[(x % (q.length : Int)).toNat]? = some (qa q x) := by
  have h1 := Int.emod_nonneg x (show (q.length : Int) ≠ 0 by omega)
  have h2 := Int.emod_lt_of_pos x (show 0 < (q.length : Int) by omega)
  refine ⟨h1, h2, ?_⟩
  unfold qa
  rw [List.getD_eq_getElem?_getD, List.getElem?_eq_getElem (by omega)]
  rfl
theorem qa_small {q : List Int} {ds : List Dg} (h : trOf q = some ds) (x : Int) : 0 ≤ qa q x ∧ qa q x ≤ 12 := by
  have hb := trOf_bounds (l := q) (by rw [h]; rfl)
  obtain ⟨h1, h2, h3⟩ := qa_some (q := q) (by omega) x
  have := hb.2 _ (List.mem_of_getElem? h3)
  omega
theorem F65_eq {q : List Int} {ds : List Dg} (h : trOf q = some ds) (i : Int) (hi : -100000 ≤ i ∧ i ≤ 100000) : F65 (q, i) = some ((), ensL q i (q.length + 1)) := by
  have hb := (trOf_bounds (l := q) (by rw [h]; rfl)).1
  have key : ∀ m j : Nat, 1 ≤ j → j + m = q.length → F65_L3 ((q, (i, ((q.length : Int), ((), (j : Int))))), ensL q i (j + 1)) = some ((), ensL q i (q.length + 1)) := by
    intro m
    induction m with
    | zero =>
      intro j h1 hj
      rw [show j = q.length by omega]
      simp only [F65_L3]
      refine loopO_done ?_
      rw [F65_L3_step, T.run_test, if_neg (by simp), T.run_test, if_pos (by simp), T.run_ret]
    | succ m ih =>
      intro j h1 hj
      have w0 : w64 (i + (j : Int)) = i + j := w64_id (by omega) (by omega)
      have w1 : w64 ((j : Int) + 1) = ((j + 1 : Nat) : Int) := by rw [w64_id (by omega) (by omega)]; omega
      have w2 : w64 ((j : Int) - 1) = ((j - 1 : Nat) : Int) := by rw [w64_id (by omega) (by omega)]; omega
      obtain ⟨q1, q2, q3⟩ := qa_some (q := q) (by omega) (i + j)
      have em := F76_eq (i + j) (q.length : Int) (by omega) (by omega)
      have e1 := ensL_get (q := q) (i := i) (k := j + 1) (t := j) (by omega)
      have e2 := ensL_get (q := q) (i := i) (k := j + 1) (t := j - 1) (by omega)
      have hl := ensL_length q i (j + 1)
      have hs := ensL_succ q i (j + 1)
      have b1 := en_small h i (k := j) (by omega)
      have b2 := en_small h i (k := j - 1) (by omega)
      have b3 := qa_small h (i + j)
      have hm := mul_le (a := qa q (i + j)) (b := en (qa q) i j) (A := 12) (B := 512) (by omega) (by omega) (by omega) (by omega)
      have hen : w64 (w64 (qa q (i + j) * en (qa q) i j) - en (qa q) i (j - 1)) = en (qa q) i (j + 1) := by
        rw [w64_id (z := qa q (i + j) * en (qa q) i j) (by omega) (by omega), w64_id (by omega) (by omega)]
        have := en_two (qa q) i (j - 1)
        rw [show j - 1 + 2 = j + 1 by omega, show j - 1 + 1 = j by omega, show i + (((j - 1 : Nat) : Int) + 1) = i + j by omega] at this
        exact this.symm
      rw [← ih (j + 1) (by omega) (by omega), hs]
      simp only [F65_L3]
      refine loopO_next ?_
      generalize ensL q i (j + 1) = out at *
      rw [F65_L3_step, T.run_test, if_pos (decide_eq_true (by omega)), T.run_sub, w0, em, Option.bind_some, T.run_test, if_pos (decide_eq_true ⟨q1, q2⟩), T.run_sub, q3, Option.bind_some,
        T.run_test, if_pos (decide_eq_true (by omega)), T.run_sub, Nat.zero_add, Int.toNat_natCast, e1, Option.bind_some, w2, T.run_test, if_pos (decide_eq_true (by omega)), T.run_sub, Int.toNat_natCast, Nat.zero_add, e2, Option.bind_some, hen, snocL,
        T.run_test, if_pos (by simp), T.run_test, if_pos (by simp), T.run_test, if_pos (decide_eq_true (by omega)), T.run_test, if_pos (decide_eq_true (by simp)), T.run_ret, w1]
  have this : F65_L3 ((q, (i, ((q.length : Int), ((), (1 : Int))))), ensL q i (1 + 1)) = _ := key (q.length - 1) 1 (by omega) (by omega)
  rw [F65, F65_t, T.run_test, if_pos rfl, T.run_sub, show ([(0 : Int), (1 : Int)] : List Int) = ensL q i (1 + 1) from rfl, this, Option.bind_some, T.run_test, if_pos (by simp), T.run_ret]


def F110_sh : FSh := ⟨[(.one (.sl (.int .i64) false false)), (.one (.si .i64))], []⟩

def F110_L3_sh : LSh := ⟨(fun ex => match ex with | .norm => [(0, none), (1, none), (5, none), (9, none), (10, none)] | .exit i => if i = 0 then [(5, none)] else [] | .ret => [(4, none)]), [(0, (.one (.sl (.int .i64) false false))), (1, (.one (.si .i64))), (5, (.one (.rw 0 0))), (9, (.one (.si .i64))), (10, (.one (.si .i64)))], [(.row 0 (.int .i64))], [⟨(.exit 0), [(5, (.one (.rw 0 0)))], [(.row 0 (.int .i64))]⟩], [], []⟩
noncomputable def F110_L3_step : ((List (Int) × Int × Unit × Int × Int) × List (Int)) → T (((List (Int) × Int × Unit × Int × Int) × List (Int)) ⊕ (Unit × List (Int))) := fun ((quiddity, k, (), t9, t10), out) =>
 (.test (decide (t10 < t9))
 (.sub (F65 (quiddity, t10)) fun z0 =>
 (.test (decide ((0 ≤ (w64 (k + 1))) ∧ ((w64 (k + 1)) < ((List.length z0.2) : Int))))
 (.sub (z0.2[(0 + (Int.toNat (w64 (k + 1))))]?) fun z1 =>
 (.test (decide (1 ≤ 1))
 (.test (decide ((0 + (List.length out)) ≤ (List.length out)))
 (.test (decide ((2 * (((List.length out) + 1) * 9)) ≤ 140737488355328))
 (.test (decide ((0 = 0) ∧ (((List.length out) + 1) = (List.length ((win out 0 (List.length out)) ++ [z1])))))
 (.ret (Sum.inl ((quiddity, (k, ((), (t9, (w64 (t10 + 1)))))), ((win out 0 (List.length out)) ++ [z1]))))
 .fail)
 .fail)
 .fail)
 .fail))
 .fail))
 (.test (decide ((0 = 0) ∧ ((List.length out) = (List.length out))))
 (.ret (Sum.inr ((), out)))
 .fail))
noncomputable def F110_L3 (v : ((List (Int) × Int × Unit × Int × Int) × List (Int))) : Option (Unit × List (Int)) := loopO (fun v => (F110_L3_step v).run) v

def F110_fo : List FO := [⟨[(.one (.rw 0 0))], [(.row 0 (.int .i64))]⟩]
noncomputable def F110_t : (List (Int) × Int) → T (Unit × List (Int)) := fun (quiddity, k) =>
 (.test true
 (.sub (F110_L3 ((quiddity, (k, ((), (((List.length quiddity) : Int), (0 : Int))))), ([] : List (Int)))) fun z0 =>
 (.test (decide ((0 = 0) ∧ ((List.length z0.2) = (List.length z0.2))))
 (.ret ((), z0.2))
 .fail))
 .fail)
noncomputable def F110 (v : (List (Int) × Int)) : Option (Unit × List (Int)) := (F110_t v).run
noncomputable def F110_E : TEnv := (E0.add1 n_F65 F65_sh F65_fo F65)
theorem F110_Eok : (F110_E).OK := (E0ok.add1 F65_ok)
noncomputable def F110_told : Nat → Option SealT := fun id => if id = 3 then some (LSh.told F110_L3_sh 0 (F110_L3_step)) else none
theorem F110_L3_ok : ToldOK Tryz.prog 0 (loopAt (bodyOf fn_F110) [0]) (LSh.told F110_L3_sh 0 (F110_L3_step)) :=
  loop_ok (E := F110_E) (F110_Eok) (told := F110_told) (l := F110_L3_sh) (step := F110_L3_step) (loopsOK_of (ls := []) (by kernel_rfl) trivial) (by kernel_rfl) (fun v => by kernel_rfl)
theorem F110_ok : FOK Tryz.prog n_F110 F110_sh F110_fo F110 :=
  fn_ok (E := F110_E) (F110_Eok) (told := F110_told) (fl := []) (c := bodyOf fn_F110) (s := F110_sh) (l := F110_fo) (tree := F110_t) fnat_F110 (by kernel_rfl) (by kernel_rfl) (by kernel_rfl) (loopsOK_of (ls := [loopAt (bodyOf fn_F110) [0]]) (by kernel_rfl) ⟨.inr ⟨_, by kernel_rfl, F110_L3_ok⟩, trivial⟩) (fun v => by kernel_rfl)

theorem F110_eq {q : List Int} {ds : List Dg} (h : trOf q = some ds) (k : Nat) (hk : k + 1 ≤ q.length) : F110 (q, (k : Int)) = some ((), rowF q k) := by
  have hb := (trOf_bounds (l := q) (by rw [h]; rfl)).1
  have key : ∀ m j : Nat, j + m = q.length → F110_L3 ((q, ((k : Int), ((), ((q.length : Int), (j : Int))))), (rowF q k).take j) = some ((), rowF q k) := by
    intro m
    induction m with
    | zero =>
      intro j hj
      rw [List.take_of_length_le (by rw [rowF_length]; omega)]
      simp only [F110_L3]
      refine loopO_done ?_
      rw [F110_L3_step, T.run_test, if_neg (by rw [decide_eq_true_eq]; omega), T.run_test, if_pos (by simp), T.run_ret]
    | succ m ih =>
      intro j hj
      have w0 : w64 ((k : Int) + 1) = ((k + 1 : Nat) : Int) := by rw [w64_id (by omega) (by omega)]; omega
      have w1 : w64 ((j : Int) + 1) = ((j + 1 : Nat) : Int) := by rw [w64_id (by omega) (by omega)]; omega
      have ee := F65_eq h (j : Int) (by omega)
      have hl := ensL_length q (j : Int) (q.length + 1)
      have e1 := ensL_get (q := q) (i := (j : Int)) (k := q.length + 1) (t := k + 1) (by omega)
      have hr := rowF_get (q := q) (k := k) (i := j) (by omega)
      have hrl : j < (rowF q k).length := by rw [rowF_length]; omega
      rw [List.getElem?_eq_getElem hrl] at hr
      have ht : (rowF q k).take (j + 1) = (rowF q k).take j ++ [en (qa q) (j : Int) (k + 1)] := by rw [List.take_succ_eq_append_getElem hrl, Option.some.inj hr]
      have htl : ((rowF q k).take j).length = j := by rw [List.length_take]; omega
      rw [← ih (j + 1) (by omega), ht]
      simp only [F110_L3]
      refine loopO_next ?_
      generalize (rowF q k).take j = out at *
      rw [F110_L3_step, T.run_test, if_pos (decide_eq_true (by omega)), T.run_sub, ee, Option.bind_some, w0, T.run_test, if_pos (decide_eq_true (by rw [hl]; omega)), T.run_sub, Nat.zero_add, Int.toNat_natCast, e1, Option.bind_some, snocL,
        T.run_test, if_pos (by simp), T.run_test, if_pos (by simp), T.run_test, if_pos (decide_eq_true (by omega)), T.run_test, if_pos (decide_eq_true (by simp)), T.run_ret, w1]
  have this : F110_L3 ((q, ((k : Int), ((), ((q.length : Int), (0 : Int))))), []) = _ := key q.length 0 (by omega)
  rw [F110, F110_t, T.run_test, if_pos rfl, T.run_sub, this, Option.bind_some, T.run_test, if_pos (by simp), T.run_ret]


def F77_sh : FSh := ⟨[(.one (.sl (.int .i64) false false))], []⟩

def F77_L3_sh : LSh := ⟨(fun ex => match ex with | .norm => [(0, none), (3, none), (4, none)] | .exit i => if i = 0 then [(3, none)] else [] | .ret => [(2, none)]), [(0, (.one (.sl (.int .i64) false false))), (3, (.one (.rw 0 0))), (4, (.one (.si .i64)))], [(.row 0 (.list true (.int .i64)))], [⟨(.exit 0), [(3, (.one (.rw 0 0)))], [(.row 0 (.list true (.int .i64)))]⟩], [], []⟩
noncomputable def F77_L3_step : ((List (Int) × Unit × Int) × List (List (Int))) → T (((List (Int) × Unit × Int) × List (List (Int))) ⊕ (Unit × List (List (Int)))) := fun ((quiddity, (), k), out) =>
 (.test (decide (k ≤ (w64 (((List.length quiddity) : Int) - 3))))
 (.sub (F110 (quiddity, k)) fun z0 =>
 (.test (decide ((0 + (List.length z0.2)) ≤ (List.length z0.2)))
 (.test (decide (1 ≤ 1))
 (.test (decide ((0 + (List.length out)) ≤ (List.length out)))
 (.test (decide ((2 * (((List.length out) + 1) * 25)) ≤ 140737488355328))
 (.test (decide ((0 = 0) ∧ (((List.length out) + 1) = (List.length ((win out 0 (List.length out)) ++ [(win z0.2 0 (List.length z0.2))])))))
 (.ret (Sum.inl ((quiddity, ((), (w64 (k + 1)))), ((win out 0 (List.length out)) ++ [(win z0.2 0 (List.length z0.2))]))))
 .fail)
 .fail)
 .fail)
 .fail)
 .fail))
 (.test (decide ((0 = 0) ∧ ((List.length out) = (List.length out))))
 (.ret (Sum.inr ((), out)))
 .fail))
noncomputable def F77_L3 (v : ((List (Int) × Unit × Int) × List (List (Int)))) : Option (Unit × List (List (Int))) := loopO (fun v => (F77_L3_step v).run) v

def F77_fo : List FO := [⟨[(.one (.rw 0 0))], [(.row 0 (.list true (.int .i64)))]⟩]
noncomputable def F77_t : List (Int) → T (Unit × List (List (Int))) := fun quiddity =>
 (.test true
 (.sub (F77_L3 ((quiddity, ((), (1 : Int))), ([] : List (List Int)))) fun z0 =>
 (.test (decide ((0 = 0) ∧ ((List.length z0.2) = (List.length z0.2))))
 (.ret ((), z0.2))
 .fail))
 .fail)
noncomputable def F77 (v : List (Int)) : Option (Unit × List (List (Int))) := (F77_t v).run
noncomputable def F77_E : TEnv := (E0.add1 n_F110 F110_sh F110_fo F110)
theorem F77_Eok : (F77_E).OK := (E0ok.add1 F110_ok)
noncomputable def F77_told : Nat → Option SealT := fun id => if id = 3 then some (LSh.told F77_L3_sh 0 (F77_L3_step)) else none
theorem F77_L3_ok : ToldOK Tryz.prog 0 (loopAt (bodyOf fn_F77) [0]) (LSh.told F77_L3_sh 0 (F77_L3_step)) :=
  loop_ok (E := F77_E) (F77_Eok) (told := F77_told) (l := F77_L3_sh) (step := F77_L3_step) (loopsOK_of (ls := []) (by kernel_rfl) trivial) (by kernel_rfl) (fun v => by kernel_rfl)
theorem F77_ok : FOK Tryz.prog n_F77 F77_sh F77_fo F77 :=
  fn_ok (E := F77_E) (F77_Eok) (told := F77_told) (fl := []) (c := bodyOf fn_F77) (s := F77_sh) (l := F77_fo) (tree := F77_t) fnat_F77 (by kernel_rfl) (by kernel_rfl) (by kernel_rfl) (loopsOK_of (ls := [loopAt (bodyOf fn_F77) [0]]) (by kernel_rfl) ⟨.inr ⟨_, by kernel_rfl, F77_L3_ok⟩, trivial⟩) (fun v => by kernel_rfl)

theorem F77_eq {q : List Int} {ds : List Dg} (h : trOf q = some ds) : F77 q = some ((), frF q) := by
  have hb := (trOf_bounds (l := q) (by rw [h]; rfl)).1
  have w3 : w64 ((q.length : Int) - 3) = (q.length : Int) - 3 := w64_id (by omega) (by omega)
  have key : ∀ m j : Nat, j + m = q.length - 3 → F77_L3 ((q, ((), ((j + 1 : Nat) : Int))), (frF q).take j) = some ((), frF q) := by
    intro m
    induction m with
    | zero =>
      intro j hj
      rw [List.take_of_length_le (by rw [frF_length]; omega)]
      simp only [F77_L3]
      refine loopO_done ?_
      rw [F77_L3_step, w3, T.run_test, if_neg (by rw [decide_eq_true_eq]; omega), T.run_test, if_pos (by simp), T.run_ret]
    | succ m ih =>
      intro j hj
      have w1 : w64 (((j + 1 : Nat) : Int) + 1) = ((j + 1 + 1 : Nat) : Int) := by rw [w64_id (by omega) (by omega)]; omega
      have er := F110_eq h (j + 1) (by omega)
      have hr := frF_get (q := q) (t := j) (by omega)
      have hrl : j < (frF q).length := by rw [frF_length]; omega
      rw [List.getElem?_eq_getElem hrl] at hr
      have ht : (frF q).take (j + 1) = (frF q).take j ++ [rowF q (j + 1)] := by rw [List.take_succ_eq_append_getElem hrl, Option.some.inj hr]
      have htl : ((frF q).take j).length = j := by rw [List.length_take]; omega
      rw [← ih (j + 1) (by omega), ht]
      simp only [F77_L3]
      refine loopO_next ?_
      generalize (frF q).take j = out at *
      rw [F77_L3_step, w3, T.run_test, if_pos (decide_eq_true (by omega)), T.run_sub, er, Option.bind_some]
      simp only [win_all]
      rw [T.run_test, if_pos (by simp), T.run_test, if_pos (by simp), T.run_test, if_pos (by simp), T.run_test, if_pos (decide_eq_true (by omega)), T.run_test, if_pos (decide_eq_true (by simp)), T.run_ret, w1]
  have this : F77_L3 ((q, ((), (1 : Int))), []) = _ := key (q.length - 3) 0 (by omega)
  rw [F77, F77_t, T.run_test, if_pos rfl, T.run_sub, this, Option.bind_some, T.run_test, if_pos (by simp), T.run_ret]


def F58_sh : FSh := ⟨[(.one (.sl (.int .i64) false false))], []⟩

def F58_fo : List FO := [⟨[(.one (.rw 0 0)), (.one .sb)], [(.row 0 (.list true (.int .i64)))]⟩]
noncomputable def F58_t : List (Int) → T ((Unit × Bool) × List (List (Int))) := fun quiddity =>
 (.sub (F64 quiddity) fun z0 =>
 (.test (! z0)
 (.test true
 (.ret (((), false), ([] : List (List Int))))
 .fail)
 (.sub (F77 quiddity) fun z1 =>
 (.test (decide ((0 = 0) ∧ ((List.length z1.2) = (List.length z1.2))))
 (.ret (((), true), z1.2))
 .fail))))
noncomputable def F58 (v : List (Int)) : Option ((Unit × Bool) × List (List (Int))) := (F58_t v).run
noncomputable def F58_E : TEnv := ((E0.add1 n_F64 F64_sh F64_fo F64).add1 n_F77 F77_sh F77_fo F77)
theorem F58_Eok : (F58_E).OK := ((E0ok.add1 F64_ok).add1 F77_ok)
noncomputable def F58_told : Nat → Option SealT := fun id => none
theorem F58_ok : FOK Tryz.prog n_F58 F58_sh F58_fo F58 :=
  fn_ok (E := F58_E) (F58_Eok) (told := F58_told) (fl := []) (c := bodyOf fn_F58) (s := F58_sh) (l := F58_fo) (tree := F58_t) fnat_F58 (by kernel_rfl) (by kernel_rfl) (by kernel_rfl) (loopsOK_of (ls := []) (by kernel_rfl) trivial) (fun v => by kernel_rfl)

theorem F58_eq (q : List Int) (hl : q.length < 4611686018427387904) : F58 q = some (((), rowed q), if rowed q then frF q else []) := by
  rw [F58, F58_t, T.run_sub, F64_eq q hl, Option.bind_some, T.run_test]
  cases h : rowed q with
  | false => rw [if_pos (by simp), T.run_test, if_pos rfl, T.run_ret]; rfl
  | true =>
    obtain ⟨h4, ds, hd⟩ := rowed_some h
    rw [if_neg (by simp), T.run_sub, F77_eq hd, Option.bind_some, T.run_test, if_pos (by simp), T.run_ret]; rfl


def F100_sh : FSh := ⟨[(.one (.si .i64)), (.one (.si .i64)), (.one (.si .i64))], []⟩

def F100_fo : List FO := [⟨[(.one .sb)], []⟩]
noncomputable def F100_t : (Int × Int × Int) → T Bool := fun (n, lo, hi) =>
 (.test (decide (n ≥ lo))
 (.ret (decide (n ≤ hi)))
 (.ret false))
noncomputable def F100 (v : (Int × Int × Int)) : Option Bool := (F100_t v).run
noncomputable def F100_E : TEnv := E0
theorem F100_Eok : (F100_E).OK := E0ok
noncomputable def F100_told : Nat → Option SealT := fun id => none
theorem F100_ok : FOK Tryz.prog n_F100 F100_sh F100_fo F100 :=
  fn_ok (E := F100_E) (F100_Eok) (told := F100_told) (fl := []) (c := bodyOf fn_F100) (s := F100_sh) (l := F100_fo) (tree := F100_t) fnat_F100 (by kernel_rfl) (by kernel_rfl) (by kernel_rfl) (loopsOK_of (ls := []) (by kernel_rfl) trivial) (fun v => by kernel_rfl)

theorem F100_eq (n low high : Int) : F100 (n, low, high) = some (inB low high n) := by
  simp only [F100, F100_t, T.run, ge_iff_le, decide_eq_true_eq, inB]
  by_cases h : low ≤ n <;> simp [h]


def F101_sh : FSh := ⟨[(.one (.si .i64))], []⟩

def F101_fo : List FO := [⟨[(.one .sb)], []⟩]
noncomputable def F101_t : Int → T Bool := fun n =>
 (.sub (F100 (n, ((3 : Int), (12 : Int)))) fun z0 =>
 (.ret z0))
noncomputable def F101 (v : Int) : Option Bool := (F101_t v).run
noncomputable def F101_E : TEnv := (E0.add1 n_F100 F100_sh F100_fo F100)
theorem F101_Eok : (F101_E).OK := (E0ok.add1 F100_ok)
noncomputable def F101_told : Nat → Option SealT := fun id => none
theorem F101_ok : FOK Tryz.prog n_F101 F101_sh F101_fo F101 :=
  fn_ok (E := F101_E) (F101_Eok) (told := F101_told) (fl := []) (c := bodyOf fn_F101) (s := F101_sh) (l := F101_fo) (tree := F101_t) fnat_F101 (by kernel_rfl) (by kernel_rfl) (by kernel_rfl) (loopsOK_of (ls := []) (by kernel_rfl) trivial) (fun v => by kernel_rfl)

def F87_sh : FSh := ⟨[(.one (.sl (.int .i64) false false)), (.one (.si .i64)), (.one (.si .i64))], []⟩

def F87_L2_sh : LSh := ⟨(fun ex => match ex with | .norm => [(1, none), (2, none), (9, none), (10, none), (11, none)] | .exit i => if i = 0 then [] else [] | .ret => [(6, none)]), [(1, (.one (.si .i64))), (2, (.one (.si .i64))), (9, (.one (.sl (.int .i64) false false))), (10, (.one (.si .i64))), (11, (.one (.si .i64)))], [], [⟨.ret, [(6, (.one .sb))], []⟩, ⟨(.exit 0), [], []⟩], [], []⟩
noncomputable def F87_L2_step : (Int × Int × List (Int) × Int × Int) → T ((Int × Int × List (Int) × Int × Int) ⊕ (Bool ⊕ Unit)) := fun (lo, hi, t9, t10, t11) =>
 (.test (decide (t11 < t10))
 (.test (decide ((0 ≤ t11) ∧ (t11 < ((List.length t9) : Int))))
 (.sub (t9[(Int.toNat t11)]?) fun z0 =>
 (.sub (F100 (z0, (lo, hi))) fun z1 =>
 (.test (! z1)
 (.ret (Sum.inr (Sum.inl false)))
 (.ret (Sum.inl (lo, (hi, (t9, (t10, (w64 (t11 + 1)))))))))))
 .fail)
 (.ret (Sum.inr (Sum.inr ()))))
noncomputable def F87_L2 (v : (Int × Int × List (Int) × Int × Int)) : Option (Bool ⊕ Unit) := loopO (fun v => (F87_L2_step v).run) v

def F87_fo : List FO := [⟨[(.one .sb)], []⟩]
noncomputable def F87_t : (List (Int) × Int × Int) → T Bool := fun (l, lo, hi) =>
 (.sub (F87_L2 (lo, (hi, (l, (((List.length l) : Int), (0 : Int)))))) fun z0 =>
 (.test (Sum.isLeft z0)
 (.sub (Sum.getLeft? z0) fun z1 =>
 (.ret z1))
 (.sub (Sum.getRight? z0) fun z2 =>
 (.ret true))))
noncomputable def F87 (v : (List (Int) × Int × Int)) : Option Bool := (F87_t v).run
noncomputable def F87_E : TEnv := (E0.add1 n_F100 F100_sh F100_fo F100)
theorem F87_Eok : (F87_E).OK := (E0ok.add1 F100_ok)
noncomputable def F87_told : Nat → Option SealT := fun id => if id = 2 then some (LSh.told F87_L2_sh 0 (F87_L2_step)) else none
theorem F87_L2_ok : ToldOK Tryz.prog 0 (loopAt (bodyOf fn_F87) [0]) (LSh.told F87_L2_sh 0 (F87_L2_step)) :=
  loop_ok (E := F87_E) (F87_Eok) (told := F87_told) (l := F87_L2_sh) (step := F87_L2_step) (loopsOK_of (ls := []) (by kernel_rfl) trivial) (by kernel_rfl) (fun v => by kernel_rfl)
theorem F87_ok : FOK Tryz.prog n_F87 F87_sh F87_fo F87 :=
  fn_ok (E := F87_E) (F87_Eok) (told := F87_told) (fl := []) (c := bodyOf fn_F87) (s := F87_sh) (l := F87_fo) (tree := F87_t) fnat_F87 (by kernel_rfl) (by kernel_rfl) (by kernel_rfl) (loopsOK_of (ls := [loopAt (bodyOf fn_F87) [0]]) (by kernel_rfl) ⟨.inr ⟨_, by kernel_rfl, F87_L2_ok⟩, trivial⟩) (fun v => by kernel_rfl)

theorem F87_eq (l : List Int) (lo hi : Int) (hl : l.length < 4611686018427387904) : F87 (l, lo, hi) = some (l.all (inB lo hi)) := by
  have h := loop_any (step := fun v => (F87_L2_step v).run) (xs := l) (fun n => !inB lo hi n) (fun k => (lo, hi, l, (l.length : Int), (k : Int))) (.inl false) (.inr ())
    (fun k x hx => by
      have hk := getElem?_lt hx
      simp only [F87_L2_step, T.run, F100_eq, Option.bind_some, Int.toNat_natCast, hx]
      rw [w64_id (by omega) (by omega)]
      cases inB lo hi x <;> simp [hk])
    (by simp [F87_L2_step, T.run])
  simp only [F87, F87_t, T.run, F87_L2]
  simp only [Int.natCast_zero] at h
  rw [h, ← all_any]
  cases hb : l.any (fun n => !inB lo hi n) <;> simp


def F66_sh : FSh := ⟨[(.one (.si .i64)), (.one (.si .i64))], []⟩

def F66_fo : List FO := [⟨[(.one (.si .i64))], []⟩]
noncomputable def F66_t : (Int × Int) → T Int := fun (a, b) =>
 (.test (decide (a < b))
 (.ret a)
 (.ret b))
noncomputable def F66 (v : (Int × Int)) : Option Int := (F66_t v).run
noncomputable def F66_E : TEnv := E0
theorem F66_Eok : (F66_E).OK := E0ok
noncomputable def F66_told : Nat → Option SealT := fun id => none
theorem F66_ok : FOK Tryz.prog n_F66 F66_sh F66_fo F66 :=
  fn_ok (E := F66_E) (F66_Eok) (told := F66_told) (fl := []) (c := bodyOf fn_F66) (s := F66_sh) (l := F66_fo) (tree := F66_t) fnat_F66 (by kernel_rfl) (by kernel_rfl) (by kernel_rfl) (loopsOK_of (ls := []) (by kernel_rfl) trivial) (fun v => by kernel_rfl)


def mx2 (m z : Int) : Int := if m > z then m else z
def mxI : List Int → Int
  | [] => 0
  | x :: t => t.foldl mx2 x


def F78_sh : FSh := ⟨[(.one (.si .i64)), (.one (.si .i64))], []⟩

def F78_fo : List FO := [⟨[(.one (.si .i64))], []⟩]
noncomputable def F78_t : (Int × Int) → T Int := fun (a, b) =>
 (.test (decide (a > b))
 (.ret a)
 (.ret b))
noncomputable def F78 (v : (Int × Int)) : Option Int := (F78_t v).run
noncomputable def F78_E : TEnv := E0
theorem F78_Eok : (F78_E).OK := E0ok
noncomputable def F78_told : Nat → Option SealT := fun id => none
theorem F78_ok : FOK Tryz.prog n_F78 F78_sh F78_fo F78 :=
  fn_ok (E := F78_E) (F78_Eok) (told := F78_told) (fl := []) (c := bodyOf fn_F78) (s := F78_sh) (l := F78_fo) (tree := F78_t) fnat_F78 (by kernel_rfl) (by kernel_rfl) (by kernel_rfl) (loopsOK_of (ls := []) (by kernel_rfl) trivial) (fun v => by kernel_rfl)

theorem F78_eq (a b : Int) : F78 (a, b) = some (mx2 a b) := by
  rw [F78, F78_t, T.run_test]
  unfold mx2
  by_cases h : a > b
  · rw [if_pos (decide_eq_true h), if_pos h]; rfl
  · rw [if_neg (by rw [decide_eq_true_eq]; exact h), if_neg h]; rfl


def F79_sh : FSh := ⟨[(.ag [(.si .i64), (.si .i64)]), (.ag [(.si .i64), (.si .i64)])], []⟩

def F79_fo : List FO := [⟨[(.one .sb)], []⟩]
noncomputable def F79_t : ((Int × Int) × (Int × Int)) → T Bool := fun ((d_0, d_1), (e_0, e_1)) =>
 (.test (decide (d_0 < e_0))
 (.ret true)
 (.test (d_0 == e_0)
 (.ret (decide (d_1 < e_1)))
 (.ret false)))
noncomputable def F79 (v : ((Int × Int) × (Int × Int))) : Option Bool := (F79_t v).run
noncomputable def F79_E : TEnv := E0
theorem F79_Eok : (F79_E).OK := E0ok
noncomputable def F79_told : Nat → Option SealT := fun id => none
theorem F79_ok : FOK Tryz.prog n_F79 F79_sh F79_fo F79 :=
  fn_ok (E := F79_E) (F79_Eok) (told := F79_told) (fl := []) (c := bodyOf fn_F79) (s := F79_sh) (l := F79_fo) (tree := F79_t) fnat_F79 (by kernel_rfl) (by kernel_rfl) (by kernel_rfl) (loopsOK_of (ls := []) (by kernel_rfl) trivial) (fun v => by kernel_rfl)

theorem F79_eq (d e : Dg) : F79 (d, e) = some (ltD d e) := by
  obtain ⟨a, b⟩ := d
  obtain ⟨c, f⟩ := e
  simp only [F79, F79_t, T.run, ltD]
  by_cases h1 : a < c
  · simp [h1]
  · by_cases h2 : a = c
    · subst h2; simp [h1]
    · simp [h1, h2]


def F59_sh : FSh := ⟨[(.one (.sl (.pair (.int .i64) (.int .i64)) false false))], []⟩

def F59_L6_sh : LSh := ⟨(fun ex => match ex with | .norm => [(3, none), (5, none), (6, none), (8, none), (9, none), (10, none)] | .exit i => if i = 2 then [(3, none), (5, none), (6, none), (8, none), (9, none), (10, none)] else if i = 1 then [(3, none), (8, none), (9, none), (10, none)] else if i = 0 then [(3, none)] else [] | .ret => [(2, none)]), [(3, (.one (.rw 0 0))), (5, (.one (.pf 1 0 0))), (6, (.one (.si .i64))), (8, (.one (.sl (.pair (.int .i64) (.int .i64)) false false))), (9, (.one (.si .i64))), (10, (.one (.si .i64)))], [(.row 0 (.pair (.int .i64) (.int .i64))), (.rcd 0 [(.si .i64), (.si .i64)])], [⟨(.exit 2), [(3, (.one (.rw 0 0))), (5, (.one (.pf 1 0 0))), (6, (.one (.si .i64))), (8, (.one (.sl (.pair (.int .i64) (.int .i64)) false false))), (9, (.one (.si .i64))), (10, (.one (.si .i64)))], [(.row 0 (.pair (.int .i64) (.int .i64))), (.rcd 0 [(.si .i64), (.si .i64)])]⟩], [], []⟩
noncomputable def F59_L6_step : ((Unit × Unit × Int × List ((Int × Int)) × Int × Int) × (List ((Int × Int)) × (Int × Int))) → T (((Unit × Unit × Int × List ((Int × Int)) × Int × Int) × (List ((Int × Int)) × (Int × Int))) ⊕ ((Unit × Unit × Int × List ((Int × Int)) × Int × Int) × (List ((Int × Int)) × (Int × Int)))) := fun (((), (), k, t8, t9, t10), (out, (d_0, d_1))) =>
 (.test (decide (k < ((List.length out) : Int)))
 (.test (decide ((0 ≤ k) ∧ (k < ((List.length out) : Int))))
 (.sub (out[(0 + (Int.toNat k))]?) fun z0 =>
 (.sub (F79 ((z0.1, z0.2), (d_0, d_1))) fun z1 =>
 (.test z1
 (.test (decide ((0 = 0) ∧ ((List.length out) = (List.length out))))
 (.ret (Sum.inl (((), ((), ((w64 (k + 1)), (t8, (t9, t10))))), (out, (d_0, d_1)))))
 .fail)
 (.test (decide ((0 = 0) ∧ ((List.length out) = (List.length out))))
 (.ret (Sum.inr (((), ((), (k, (t8, (t9, t10))))), (out, (d_0, d_1)))))
 .fail))))
 .fail)
 (.test (decide ((0 = 0) ∧ ((List.length out) = (List.length out))))
 (.ret (Sum.inr (((), ((), (k, (t8, (t9, t10))))), (out, (d_0, d_1)))))
 .fail))
noncomputable def F59_L6 (v : ((Unit × Unit × Int × List ((Int × Int)) × Int × Int) × (List ((Int × Int)) × (Int × Int)))) : Option ((Unit × Unit × Int × List ((Int × Int)) × Int × Int) × (List ((Int × Int)) × (Int × Int))) := loopO (fun v => (F59_L6_step v).run) v

def F59_L3_sh : LSh := ⟨(fun ex => match ex with | .norm => [(3, none), (8, none), (9, none), (10, none)] | .exit i => if i = 0 then [(3, none)] else [] | .ret => [(2, none)]), [(3, (.one (.rw 0 0))), (8, (.one (.sl (.pair (.int .i64) (.int .i64)) false false))), (9, (.one (.si .i64))), (10, (.one (.si .i64)))], [(.row 0 (.pair (.int .i64) (.int .i64)))], [⟨(.exit 0), [(3, (.one (.rw 0 0)))], [(.row 0 (.pair (.int .i64) (.int .i64)))]⟩], [], []⟩
noncomputable def F59_L3_step : ((Unit × List ((Int × Int)) × Int × Int) × List ((Int × Int))) → T (((Unit × List ((Int × Int)) × Int × Int) × List ((Int × Int))) ⊕ (Unit × List ((Int × Int)))) := fun (((), t8, t9, t10), out) =>
 (.test (decide (t10 < t9))
 (.test (decide ((0 ≤ t10) ∧ (t10 < ((List.length t8) : Int))))
 (.sub (t8[(Int.toNat t10)]?) fun z0 =>
 (.test (decide ((0 = 0) ∧ ((List.length out) = (List.length out))))
 (.sub (F59_L6 (((), ((), ((0 : Int), (t8, (t9, t10))))), (out, (z0.1, z0.2)))) fun z1 =>
 (.test (decide (0 ≤ z1.1.2.2.1))
 (.test (decide ((0 ≤ (Int.toNat z1.1.2.2.1)) ∧ ((Int.toNat z1.1.2.2.1) ≤ (List.length z1.2.1))))
 (.test (decide ((0 + ((Int.toNat z1.1.2.2.1) - 0)) ≤ (List.length z1.2.1)))
 (.test true
 (.test (decide ((2 * ((0 + (List.length (win z1.2.1 0 ((Int.toNat z1.1.2.2.1) - 0)))) * 17)) ≤ 140737488355328))
 (.test (decide (1 ≤ (List.length (List.set (List.replicate 1 ((0 : Int), (0 : Int))) 0 (z1.2.2.1, z1.2.2.2)))))
 (.test (decide ((0 + (0 + (List.length (win z1.2.1 0 ((Int.toNat z1.1.2.2.1) - 0))))) ≤ (List.length ((win (List.replicate 0 ((0 : Int), (0 : Int))) 0 0) ++ (win z1.2.1 0 ((Int.toNat z1.1.2.2.1) - 0))))))
 (.test (decide ((2 * (((0 + (List.length (win z1.2.1 0 ((Int.toNat z1.1.2.2.1) - 0)))) + (List.length (win (List.set (List.replicate 1 ((0 : Int), (0 : Int))) 0 (z1.2.2.1, z1.2.2.2)) 0 1))) * 17)) ≤ 140737488355328))
 (.test (decide (0 ≤ z1.1.2.2.1))
 (.test (decide (((Int.toNat z1.1.2.2.1) ≤ (List.length z1.2.1)) ∧ ((List.length z1.2.1) ≤ (List.length z1.2.1))))
 (.test (decide (((0 + (Int.toNat z1.1.2.2.1)) + ((List.length z1.2.1) - (Int.toNat z1.1.2.2.1))) ≤ (List.length z1.2.1)))
 (.test (decide ((0 + ((0 + (List.length (win z1.2.1 0 ((Int.toNat z1.1.2.2.1) - 0)))) + (List.length (win (List.set (List.replicate 1 ((0 : Int), (0 : Int))) 0 (z1.2.2.1, z1.2.2.2)) 0 1)))) ≤ (List.length ((win ((win (List.replicate 0 ((0 : Int), (0 : Int))) 0 0) ++ (win z1.2.1 0 ((Int.toNat z1.1.2.2.1) - 0))) 0 (0 + (List.length (win z1.2.1 0 ((Int.toNat z1.1.2.2.1) - 0))))) ++ (win (List.set (List.replicate 1 ((0 : Int), (0 : Int))) 0 (z1.2.2.1, z1.2.2.2)) 0 1)))))
 (.test (decide ((2 * ((((0 + (List.length (win z1.2.1 0 ((Int.toNat z1.1.2.2.1) - 0)))) + (List.length (win (List.set (List.replicate 1 ((0 : Int), (0 : Int))) 0 (z1.2.2.1, z1.2.2.2)) 0 1))) + (List.length (win z1.2.1 (0 + (Int.toNat z1.1.2.2.1)) ((List.length z1.2.1) - (Int.toNat z1.1.2.2.1))))) * 17)) ≤ 140737488355328))
 (.test (decide ((0 = 0) ∧ ((((0 + (List.length (win z1.2.1 0 ((Int.toNat z1.1.2.2.1) - 0)))) + (List.length (win (List.set (List.replicate 1 ((0 : Int), (0 : Int))) 0 (z1.2.2.1, z1.2.2.2)) 0 1))) + (List.length (win z1.2.1 (0 + (Int.toNat z1.1.2.2.1)) ((List.length z1.2.1) - (Int.toNat z1.1.2.2.1))))) = (List.length ((win ((win ((win (List.replicate 0 ((0 : Int), (0 : Int))) 0 0) ++ (win z1.2.1 0 ((Int.toNat z1.1.2.2.1) - 0))) 0 (0 + (List.length (win z1.2.1 0 ((Int.toNat z1.1.2.2.1) - 0))))) ++ (win (List.set (List.replicate 1 ((0 : Int), (0 : Int))) 0 (z1.2.2.1, z1.2.2.2)) 0 1)) 0 ((0 + (List.length (win z1.2.1 0 ((Int.toNat z1.1.2.2.1) - 0)))) + (List.length (win (List.set (List.replicate 1 ((0 : Int), (0 : Int))) 0 (z1.2.2.1, z1.2.2.2)) 0 1)))) ++ (win z1.2.1 (0 + (Int.toNat z1.1.2.2.1)) ((List.length z1.2.1) - (Int.toNat z1.1.2.2.1))))))))
 (.ret (Sum.inl (((), (z1.1.2.2.2.1, (z1.1.2.2.2.2.1, (w64 (z1.1.2.2.2.2.2 + 1))))), ((win ((win ((win (List.replicate 0 ((0 : Int), (0 : Int))) 0 0) ++ (win z1.2.1 0 ((Int.toNat z1.1.2.2.1) - 0))) 0 (0 + (List.length (win z1.2.1 0 ((Int.toNat z1.1.2.2.1) - 0))))) ++ (win (List.set (List.replicate 1 ((0 : Int), (0 : Int))) 0 (z1.2.2.1, z1.2.2.2)) 0 1)) 0 ((0 + (List.length (win z1.2.1 0 ((Int.toNat z1.1.2.2.1) - 0)))) + (List.length (win (List.set (List.replicate 1 ((0 : Int), (0 : Int))) 0 (z1.2.2.1, z1.2.2.2)) 0 1)))) ++ (win z1.2.1 (0 + (Int.toNat z1.1.2.2.1)) ((List.length z1.2.1) - (Int.toNat z1.1.2.2.1)))))))
 .fail)
 .fail)
 .fail)
 .fail)
 .fail)
 .fail)
 .fail)
 .fail)
 .fail)
 .fail)
 .fail)
 .fail)
 .fail)
 .fail))
 .fail))
 .fail)
 (.test (decide ((0 = 0) ∧ ((List.length out) = (List.length out))))
 (.ret (Sum.inr ((), out)))
 .fail))
noncomputable def F59_L3 (v : ((Unit × List ((Int × Int)) × Int × Int) × List ((Int × Int)))) : Option (Unit × List ((Int × Int))) := loopO (fun v => (F59_L3_step v).run) v

def F59_fo : List FO := [⟨[(.one (.rw 0 0))], [(.row 0 (.pair (.int .i64) (.int .i64)))]⟩]
noncomputable def F59_t : List ((Int × Int)) → T (Unit × List ((Int × Int))) := fun ds =>
 (.test true
 (.sub (F59_L3 (((), (ds, (((List.length ds) : Int), (0 : Int)))), ([] : List (Int × Int)))) fun z0 =>
 (.test (decide ((0 = 0) ∧ ((List.length z0.2) = (List.length z0.2))))
 (.ret ((), z0.2))
 .fail))
 .fail)
noncomputable def F59 (v : List ((Int × Int))) : Option (Unit × List ((Int × Int))) := (F59_t v).run
noncomputable def F59_E : TEnv := (E0.add1 n_F79 F79_sh F79_fo F79)
theorem F59_Eok : (F59_E).OK := (E0ok.add1 F79_ok)
noncomputable def F59_told : Nat → Option SealT := fun id => if id = 6 then some (LSh.told F59_L6_sh 0 (F59_L6_step)) else if id = 3 then some (LSh.told F59_L3_sh 0 (F59_L3_step)) else none
theorem F59_L6_ok : ToldOK Tryz.prog 0 (loopAt (bodyOf fn_F59) [0, 0]) (LSh.told F59_L6_sh 0 (F59_L6_step)) :=
  loop_ok (E := F59_E) (F59_Eok) (told := F59_told) (l := F59_L6_sh) (step := F59_L6_step) (loopsOK_of (ls := []) (by kernel_rfl) trivial) (by kernel_rfl) (fun v => by kernel_rfl)
theorem F59_L3_ok : ToldOK Tryz.prog 0 (loopAt (bodyOf fn_F59) [0]) (LSh.told F59_L3_sh 0 (F59_L3_step)) :=
  loop_ok (E := F59_E) (F59_Eok) (told := F59_told) (l := F59_L3_sh) (step := F59_L3_step) (loopsOK_of (ls := [loopAt (bodyOf fn_F59) [0, 0]]) (by kernel_rfl) ⟨.inr ⟨_, by kernel_rfl, F59_L6_ok⟩, trivial⟩) (by kernel_rfl) (fun v => by kernel_rfl)
theorem F59_ok : FOK Tryz.prog n_F59 F59_sh F59_fo F59 :=
  fn_ok (E := F59_E) (F59_Eok) (told := F59_told) (fl := []) (c := bodyOf fn_F59) (s := F59_sh) (l := F59_fo) (tree := F59_t) fnat_F59 (by kernel_rfl) (by kernel_rfl) (by kernel_rfl) (loopsOK_of (ls := [loopAt (bodyOf fn_F59) [0]]) (by kernel_rfl) ⟨.inr ⟨_, by kernel_rfl, F59_L3_ok⟩, trivial⟩) (fun v => by kernel_rfl)

theorem F59_place (d : Dg) (out : List Dg) (t8 : List Dg) (a b : Int) (hl : out.length < 1000000) :
    ∃ k : Nat, k ≤ out.length ∧ out.take k ++ d :: out.drop k = insD d out ∧ F59_L6 (((), ((), ((0 : Int), (t8, (a, b))))), (out, d)) = some (((), ((), ((k : Int), (t8, (a, b))))), (out, d)) := by
  obtain ⟨k, h1, h2, h3, h4, h5⟩ := take_while_idx d out
  refine ⟨k, h1, by unfold insD; rw [h2, h3], ?_⟩
  obtain ⟨d0, d1⟩ := d
  have key : ∀ n j, j + n = k → F59_L6 (((), ((), ((j : Int), (t8, (a, b))))), (out, (d0, d1))) = some (((), ((), ((k : Int), (t8, (a, b))))), (out, (d0, d1))) := by
    intro n
    induction n with
    | zero =>
      intro j hj
      have : j = k := by omega
      subst this
      simp only [F59_L6]
      refine loopO_done ?_
      by_cases hk : j < out.length
      · have c0 : (j : Int) < (out.length : Int) := by omega
        have c1 : (0 : Int) ≤ (j : Int) ∧ (j : Int) < (out.length : Int) := by omega
        simp only [F59_L6_step, T.run, c0, c1, decide_true, if_true, Int.toNat_natCast, Nat.zero_add, gD_some hk, Option.bind_some, F79_eq, h5 hk, and_self]
        simp
      · have c0 : ¬ ((j : Int) < (out.length : Int)) := by omega
        simp only [F59_L6_step, T.run, c0, decide_false]
        simp
    | succ n ih =>
      intro j hj
      have hk : j < out.length := by omega
      have ih := ih (j + 1) (by omega)
      simp only [F59_L6] at ih ⊢
      rw [← ih]
      refine loopO_next ?_
      have c0 : (j : Int) < (out.length : Int) := by omega
      have c1 : (0 : Int) ≤ (j : Int) ∧ (j : Int) < (out.length : Int) := by omega
      have w1 : w64 ((j : Int) + 1) = ((j + 1 : Nat) : Int) := by rw [w64_id (by omega) (by omega)]; omega
      simp only [F59_L6_step, T.run, c0, c1, decide_true, if_true, Int.toNat_natCast, Nat.zero_add, gD_some hk, Option.bind_some, F79_eq, h4 j (by omega), and_self, w1]
  simpa using key k 0 (by omega)
theorem insD_length (d : Dg) (l : List Dg) : (insD d l).length = l.length + 1 := by simpa using (insD_perm d l).length_eq
theorem F59_eq (l : List Dg) (hl : l.length < 100000) : F59 l = some ((), sortD l) := by
  have h := loop_fold (step := fun v => (F59_L3_step v).run) (xs := l) (fun k (s : List Dg) => s.length = k) (fun k s => (((), (l, ((l.length : Int), (k : Int)))), s)) (fun out d => insD d out) (fun s => ((), s))
    (fun k s d hk hd => by
      have hlt := getElem?_lt hd
      have c0 : (k : Int) < (l.length : Int) := by omega
      have c1 : (0 : Int) ≤ (k : Int) ∧ (k : Int) < (l.length : Int) := by omega
      have w1 : w64 ((k : Int) + 1) = ((k + 1 : Nat) : Int) := by rw [w64_id (by omega) (by omega)]; omega
      obtain ⟨m, m1, m2, m3⟩ := F59_place d s l (l.length : Int) (k : Int) (by omega)
      refine ⟨?_, by rw [insD_length, hk]⟩
      have t1 : win s 0 (m - 0) = s.take m := win_take _ _
      have t2 : win (s.take m) 0 m = s.take m := by rw [win_take, List.take_take, Nat.min_self]
      have t3 : win s m (s.length - m) = s.drop m := by unfold win; rw [List.take_of_length_le (by simp)]
      have l1 : (s.take m).length = m := by simp; omega
      have l2 : (s.drop m).length = s.length - m := by simp
      have t4 : win ([] : List Dg) 0 0 = [] := rfl
      have l3 : (s.take m ++ [d]).length = m + 1 := by simp; omega
      have t5 : win (s.take m ++ [d]) 0 (m + 1) = s.take m ++ [d] := by rw [← l3]; exact win_all _
      have e : s.take m ++ [d] ++ s.drop m = insD d s := by rw [← m2]; simp
      simp only [F59_L3_step, T.run, c0, c1, decide_true, if_true, Int.toNat_natCast, Option.bind_some, and_self, hd, m3, win_one, List.replicate_zero, t1, t4, List.nil_append, l1, Nat.zero_add, t2, t3, l2, List.length_cons, List.length_nil, t5, e]
      have n1 : (0 : Int) ≤ (m : Int) := by omega
      have n2 : m - 0 ≤ s.length := by omega
      have n3 : m ≤ s.length := m1
      have n4 : 2 * ((m + 1 + (s.length - m)) * 17) ≤ 140737488355328 := by omega
      have n5 : 2 * (m * 17) ≤ 140737488355328 := by omega
      have n6 : 2 * ((m + 1) * 17) ≤ 140737488355328 := by omega
      have n7 : m + (s.length - m) ≤ s.length := by omega
      have n8 : m + 1 + (s.length - m) = s.length + 1 := by omega
      simp [n1, n2, n3, n4, n5, n6, n7, n8, w1, insD_length, l1]
      omega)
    (fun s hs => by simp [F59_L3_step, T.run])
    [] rfl
  simp only [Int.natCast_zero] at h
  simp only [F59, F59_t, T.run, F59_L3, h.1, Option.bind_some]
  simp [sortD]


def F102_sh : FSh := ⟨[(.one (.sl (.int .i64) false false))], []⟩

def F102_L5_sh : LSh := ⟨(fun ex => match ex with | .norm => [(4, none), (5, none), (26, none), (27, none)] | .exit i => if i = 0 then [(4, none), (5, none)] else [] | .ret => [(2, none), (3, none)]), [(4, (.one (.rw 0 0))), (5, (.one (.rw 1 0))), (26, (.one (.si .i64))), (27, (.one (.si .i64)))], [(.row 0 (.int .i64)), (.row 0 (.int .i64))], [⟨(.exit 0), [(4, (.one (.rw 0 0))), (5, (.one (.rw 1 0)))], [(.row 0 (.int .i64)), (.row 0 (.int .i64))]⟩], [], []⟩
noncomputable def F102_L5_step : ((Unit × Unit × Int × Int) × (List (Int) × List (Int))) → T (((Unit × Unit × Int × Int) × (List (Int) × List (Int))) ⊕ ((Unit × Unit) × (List (Int) × List (Int)))) := fun (((), (), t26, t27), (left, corners)) =>
 (.test (decide (t27 < t26))
 (.test (decide (1 ≤ (List.length (List.set (List.replicate 1 (0 : Int)) 0 t27))))
 (.test (decide ((0 + (List.length corners)) ≤ (List.length corners)))
 (.test (decide ((2 * (((List.length corners) + (List.length (win (List.set (List.replicate 1 (0 : Int)) 0 t27) 0 1))) * 9)) ≤ 140737488355328))
 (.test (decide ((0 = 0) ∧ ((List.length left) = (List.length left))))
 (.test (decide ((0 = 0) ∧ (((List.length corners) + (List.length (win (List.set (List.replicate 1 (0 : Int)) 0 t27) 0 1))) = (List.length ((win corners 0 (List.length corners)) ++ (win (List.set (List.replicate 1 (0 : Int)) 0 t27) 0 1))))))
 (.ret (Sum.inl (((), ((), (t26, (w64 (t27 + 1))))), (left, ((win corners 0 (List.length corners)) ++ (win (List.set (List.replicate 1 (0 : Int)) 0 t27) 0 1))))))
 .fail)
 .fail)
 .fail)
 .fail)
 .fail)
 (.test (decide ((0 = 0) ∧ ((List.length left) = (List.length left))))
 (.test (decide ((0 = 0) ∧ ((List.length corners) = (List.length corners))))
 (.ret (Sum.inr (((), ()), (left, corners))))
 .fail)
 .fail))
noncomputable def F102_L5 (v : ((Unit × Unit × Int × Int) × (List (Int) × List (Int)))) : Option ((Unit × Unit) × (List (Int) × List (Int))) := loopO (fun v => (F102_L5_step v).run) v

def F102_L13_sh : LSh := ⟨(fun ex => match ex with | .norm => [(4, none), (5, none), (7, none), (8, none), (38, none), (39, none), (40, none)] | .exit i => if i = 4 then [(4, none), (5, none), (7, none), (8, none)] else if i = 3 then [(4, none), (5, none), (7, none)] else if i = 2 then [(4, none), (7, none)] else [] | .ret => [(2, none), (3, none)]), [(4, (.one (.rw 0 0))), (5, (.one (.rw 1 0))), (7, (.one (.rw 2 0))), (8, (.one (.si .i64))), (38, (.one (.rw 0 0))), (39, (.one (.si .i64))), (40, (.one (.si .i64)))], [(.row 0 (.int .i64)), (.row 0 (.int .i64)), (.row 0 (.pair (.int .i64) (.int .i64)))], [⟨(.exit 4), [(4, (.one (.rw 0 0))), (5, (.one (.rw 1 0))), (7, (.one (.rw 2 0))), (8, (.one (.si .i64)))], [(.row 0 (.int .i64)), (.row 0 (.int .i64)), (.row 0 (.pair (.int .i64) (.int .i64)))]⟩], [], []⟩
noncomputable def F102_L13_step : ((Unit × Unit × Unit × Int × Unit × Int × Int) × (List (Int) × List (Int) × List ((Int × Int)))) → T (((Unit × Unit × Unit × Int × Unit × Int × Int) × (List (Int) × List (Int) × List ((Int × Int)))) ⊕ ((Unit × Unit × Unit × Int) × (List (Int) × List (Int) × List ((Int × Int))))) := fun (((), (), (), at', (), t39, t40), (left, corners, out)) =>
 (.test (decide (t40 < t39))
 (.test (decide ((0 ≤ t40) ∧ (t40 < ((List.length left) : Int))))
 (.sub (left[(0 + (Int.toNat t40))]?) fun z0 =>
 (.test (z0 == 1)
 (.test (decide (at' < 0))
 (.test (decide ((0 = 0) ∧ ((List.length left) = (List.length left))))
 (.test (decide ((0 = 0) ∧ ((List.length corners) = (List.length corners))))
 (.test (decide ((0 = 0) ∧ ((List.length out) = (List.length out))))
 (.test (decide ((0 = 0) ∧ ((List.length left) = (List.length left))))
 (.ret (Sum.inl (((), ((), ((), (t40, ((), (t39, (w64 (t40 + 1)))))))), (left, (corners, out)))))
 .fail)
 .fail)
 .fail)
 .fail)
 (.test (decide ((0 = 0) ∧ ((List.length left) = (List.length left))))
 (.test (decide ((0 = 0) ∧ ((List.length corners) = (List.length corners))))
 (.test (decide ((0 = 0) ∧ ((List.length out) = (List.length out))))
 (.test (decide ((0 = 0) ∧ ((List.length left) = (List.length left))))
 (.ret (Sum.inl (((), ((), ((), (at', ((), (t39, (w64 (t40 + 1)))))))), (left, (corners, out)))))
 .fail)
 .fail)
 .fail)
 .fail))
 (.test (decide ((0 = 0) ∧ ((List.length left) = (List.length left))))
 (.test (decide ((0 = 0) ∧ ((List.length corners) = (List.length corners))))
 (.test (decide ((0 = 0) ∧ ((List.length out) = (List.length out))))
 (.test (decide ((0 = 0) ∧ ((List.length left) = (List.length left))))
 (.ret (Sum.inl (((), ((), ((), (at', ((), (t39, (w64 (t40 + 1)))))))), (left, (corners, out)))))
 .fail)
 .fail)
 .fail)
 .fail)))
 .fail)
 (.test (decide ((0 = 0) ∧ ((List.length left) = (List.length left))))
 (.test (decide ((0 = 0) ∧ ((List.length corners) = (List.length corners))))
 (.test (decide ((0 = 0) ∧ ((List.length out) = (List.length out))))
 (.ret (Sum.inr (((), ((), ((), at'))), (left, (corners, out)))))
 .fail)
 .fail)
 .fail))
noncomputable def F102_L13 (v : ((Unit × Unit × Unit × Int × Unit × Int × Int) × (List (Int) × List (Int) × List ((Int × Int))))) : Option ((Unit × Unit × Unit × Int) × (List (Int) × List (Int) × List ((Int × Int)))) := loopO (fun v => (F102_L13_step v).run) v

def F102_L10_sh : LSh := ⟨(fun ex => match ex with | .norm => [(4, none), (5, none), (7, none)] | .exit i => if i = 2 then [(4, none), (7, none)] else [] | .ret => [(2, none), (3, none)]), [(4, (.one (.rw 0 0))), (5, (.one (.rw 1 0))), (7, (.one (.rw 2 0)))], [(.row 0 (.int .i64)), (.row 0 (.int .i64)), (.row 0 (.pair (.int .i64) (.int .i64)))], [⟨.ret, [(2, (.one (.rw 0 0))), (3, (.one .sb))], [(.row 0 (.pair (.int .i64) (.int .i64)))]⟩, ⟨(.exit 2), [(4, (.one (.rw 0 0))), (7, (.one (.rw 1 0)))], [(.row 0 (.int .i64)), (.row 0 (.pair (.int .i64) (.int .i64)))]⟩], [], []⟩
noncomputable def F102_L10_step : ((Unit × Unit × Unit) × (List (Int) × List (Int) × List ((Int × Int)))) → T (((Unit × Unit × Unit) × (List (Int) × List (Int) × List ((Int × Int)))) ⊕ (((Unit × Bool) × List ((Int × Int))) ⊕ ((Unit × Unit) × (List (Int) × List ((Int × Int)))))) := fun (((), (), ()), (left, corners, out)) =>
 (.test (decide (((List.length left) : Int) > 3))
 (.test (decide ((0 = 0) ∧ ((List.length left) = (List.length left))))
 (.test (decide ((0 = 0) ∧ ((List.length corners) = (List.length corners))))
 (.test (decide ((0 = 0) ∧ ((List.length out) = (List.length out))))
 (.test (decide ((0 = 0) ∧ ((List.length left) = (List.length left))))
 (.sub (F102_L13 (((), ((), ((), ((-1), ((), (((List.length left) : Int), (0 : Int))))))), (left, (corners, out)))) fun z0 =>
 (.test (decide (z0.1.2.2.2 < 0))
 (.test true
 (.ret (Sum.inr (Sum.inl (((), false), ([] : List (Int × Int))))))
 .fail)
 (.test (decide (((List.length z0.2.1) : Int) ≠ 0))
 (.test (decide (((List.length z0.2.1) : Int) ≠ 0))
 (.test (decide ((0 ≤ (Int.tmod (w64 ((w64 (z0.1.2.2.2 + ((List.length z0.2.1) : Int))) - 1)) ((List.length z0.2.1) : Int))) ∧ ((Int.tmod (w64 ((w64 (z0.1.2.2.2 + ((List.length z0.2.1) : Int))) - 1)) ((List.length z0.2.1) : Int)) < ((List.length z0.2.1) : Int))))
 (.sub (z0.2.1[(0 + (Int.toNat (Int.tmod (w64 ((w64 (z0.1.2.2.2 + ((List.length z0.2.1) : Int))) - 1)) ((List.length z0.2.1) : Int))))]?) fun z1 =>
 (.test (decide ((0 ≤ (Int.tmod (w64 ((w64 (z0.1.2.2.2 + ((List.length z0.2.1) : Int))) - 1)) ((List.length z0.2.1) : Int))) ∧ ((Int.tmod (w64 ((w64 (z0.1.2.2.2 + ((List.length z0.2.1) : Int))) - 1)) ((List.length z0.2.1) : Int)) < ((List.length z0.2.1) : Int))))
 (.sub (z0.2.1[(0 + (Int.toNat (Int.tmod (w64 ((w64 (z0.1.2.2.2 + ((List.length z0.2.1) : Int))) - 1)) ((List.length z0.2.1) : Int))))]?) fun z2 =>
 (.test (decide ((0 ≤ (Int.tmod (w64 (z0.1.2.2.2 + 1)) ((List.length z0.2.1) : Int))) ∧ ((Int.tmod (w64 (z0.1.2.2.2 + 1)) ((List.length z0.2.1) : Int)) < ((List.length z0.2.1) : Int))))
 (.sub ((List.set z0.2.1 (0 + (Int.toNat (Int.tmod (w64 ((w64 (z0.1.2.2.2 + ((List.length z0.2.1) : Int))) - 1)) ((List.length z0.2.1) : Int)))) (w64 (z1 - 1)))[(0 + (Int.toNat (Int.tmod (w64 (z0.1.2.2.2 + 1)) ((List.length z0.2.1) : Int))))]?) fun z3 =>
 (.test (decide ((0 ≤ (Int.tmod (w64 (z0.1.2.2.2 + 1)) ((List.length z0.2.1) : Int))) ∧ ((Int.tmod (w64 (z0.1.2.2.2 + 1)) ((List.length z0.2.1) : Int)) < ((List.length z0.2.1) : Int))))
 (.sub ((List.set z0.2.1 (0 + (Int.toNat (Int.tmod (w64 ((w64 (z0.1.2.2.2 + ((List.length z0.2.1) : Int))) - 1)) ((List.length z0.2.1) : Int)))) (w64 (z1 - 1)))[(0 + (Int.toNat (Int.tmod (w64 (z0.1.2.2.2 + 1)) ((List.length z0.2.1) : Int))))]?) fun z4 =>
 (.test (decide ((0 ≤ (Int.tmod (w64 ((w64 (z0.1.2.2.2 + ((List.length z0.2.1) : Int))) - 1)) ((List.length z0.2.1) : Int))) ∧ ((Int.tmod (w64 ((w64 (z0.1.2.2.2 + ((List.length z0.2.1) : Int))) - 1)) ((List.length z0.2.1) : Int)) < ((List.length z0.2.1) : Int))))
 (.sub ((List.set (List.set z0.2.1 (0 + (Int.toNat (Int.tmod (w64 ((w64 (z0.1.2.2.2 + ((List.length z0.2.1) : Int))) - 1)) ((List.length z0.2.1) : Int)))) (w64 (z1 - 1))) (0 + (Int.toNat (Int.tmod (w64 (z0.1.2.2.2 + 1)) ((List.length z0.2.1) : Int)))) (w64 (z3 - 1)))[(0 + (Int.toNat (Int.tmod (w64 ((w64 (z0.1.2.2.2 + ((List.length z0.2.1) : Int))) - 1)) ((List.length z0.2.1) : Int))))]?) fun z5 =>
 (.test (decide (z5 < 1))
 (.test true
 (.ret (Sum.inr (Sum.inl (((), false), ([] : List (Int × Int))))))
 .fail)
 (.test (decide ((0 ≤ (Int.tmod (w64 (z0.1.2.2.2 + 1)) ((List.length z0.2.1) : Int))) ∧ ((Int.tmod (w64 (z0.1.2.2.2 + 1)) ((List.length z0.2.1) : Int)) < ((List.length z0.2.1) : Int))))
 (.sub ((List.set (List.set z0.2.1 (0 + (Int.toNat (Int.tmod (w64 ((w64 (z0.1.2.2.2 + ((List.length z0.2.1) : Int))) - 1)) ((List.length z0.2.1) : Int)))) (w64 (z1 - 1))) (0 + (Int.toNat (Int.tmod (w64 (z0.1.2.2.2 + 1)) ((List.length z0.2.1) : Int)))) (w64 (z3 - 1)))[(0 + (Int.toNat (Int.tmod (w64 (z0.1.2.2.2 + 1)) ((List.length z0.2.1) : Int))))]?) fun z6 =>
 (.test (decide (z6 < 1))
 (.test true
 (.ret (Sum.inr (Sum.inl (((), false), ([] : List (Int × Int))))))
 .fail)
 (.test (decide ((0 ≤ (Int.tmod (w64 ((w64 (z0.1.2.2.2 + ((List.length z0.2.1) : Int))) - 1)) ((List.length z0.2.1) : Int))) ∧ ((Int.tmod (w64 ((w64 (z0.1.2.2.2 + ((List.length z0.2.1) : Int))) - 1)) ((List.length z0.2.1) : Int)) < ((List.length z0.2.2.1) : Int))))
 (.sub (z0.2.2.1[(0 + (Int.toNat (Int.tmod (w64 ((w64 (z0.1.2.2.2 + ((List.length z0.2.1) : Int))) - 1)) ((List.length z0.2.1) : Int))))]?) fun z7 =>
 (.test (decide ((0 ≤ (Int.tmod (w64 (z0.1.2.2.2 + 1)) ((List.length z0.2.1) : Int))) ∧ ((Int.tmod (w64 (z0.1.2.2.2 + 1)) ((List.length z0.2.1) : Int)) < ((List.length z0.2.2.1) : Int))))
 (.sub (z0.2.2.1[(0 + (Int.toNat (Int.tmod (w64 (z0.1.2.2.2 + 1)) ((List.length z0.2.1) : Int))))]?) fun z8 =>
 (.sub (F66 (z7, z8)) fun z9 =>
 (.test (decide ((0 ≤ (Int.tmod (w64 ((w64 (z0.1.2.2.2 + ((List.length z0.2.1) : Int))) - 1)) ((List.length z0.2.1) : Int))) ∧ ((Int.tmod (w64 ((w64 (z0.1.2.2.2 + ((List.length z0.2.1) : Int))) - 1)) ((List.length z0.2.1) : Int)) < ((List.length z0.2.2.1) : Int))))
 (.sub (z0.2.2.1[(0 + (Int.toNat (Int.tmod (w64 ((w64 (z0.1.2.2.2 + ((List.length z0.2.1) : Int))) - 1)) ((List.length z0.2.1) : Int))))]?) fun z10 =>
 (.test (decide ((0 ≤ (Int.tmod (w64 (z0.1.2.2.2 + 1)) ((List.length z0.2.1) : Int))) ∧ ((Int.tmod (w64 (z0.1.2.2.2 + 1)) ((List.length z0.2.1) : Int)) < ((List.length z0.2.2.1) : Int))))
 (.sub (z0.2.2.1[(0 + (Int.toNat (Int.tmod (w64 (z0.1.2.2.2 + 1)) ((List.length z0.2.1) : Int))))]?) fun z11 =>
 (.sub (F78 (z10, z11)) fun z12 =>
 (.test (decide (1 ≤ (List.length (List.set (List.replicate 1 ((0 : Int), (0 : Int))) 0 (z9, z12)))))
 (.test (decide ((0 + (List.length z0.2.2.2)) ≤ (List.length z0.2.2.2)))
 (.test (decide ((2 * (((List.length z0.2.2.2) + (List.length (win (List.set (List.replicate 1 ((0 : Int), (0 : Int))) 0 (z9, z12)) 0 1))) * 17)) ≤ 140737488355328))
 (.test (decide (0 ≤ z0.1.2.2.2))
 (.test (decide ((0 ≤ (Int.toNat z0.1.2.2.2)) ∧ ((Int.toNat z0.1.2.2.2) ≤ (List.length z0.2.1))))
 (.test (decide ((0 + ((Int.toNat z0.1.2.2.2) - 0)) ≤ (List.length (List.set (List.set z0.2.1 (0 + (Int.toNat (Int.tmod (w64 ((w64 (z0.1.2.2.2 + ((List.length z0.2.1) : Int))) - 1)) ((List.length z0.2.1) : Int)))) (w64 (z1 - 1))) (0 + (Int.toNat (Int.tmod (w64 (z0.1.2.2.2 + 1)) ((List.length z0.2.1) : Int)))) (w64 (z3 - 1))))))
 (.sub (F84 (win (List.set (List.set z0.2.1 (0 + (Int.toNat (Int.tmod (w64 ((w64 (z0.1.2.2.2 + ((List.length z0.2.1) : Int))) - 1)) ((List.length z0.2.1) : Int)))) (w64 (z1 - 1))) (0 + (Int.toNat (Int.tmod (w64 (z0.1.2.2.2 + 1)) ((List.length z0.2.1) : Int)))) (w64 (z3 - 1))) 0 ((Int.toNat z0.1.2.2.2) - 0))) fun z13 =>
 (.test (decide (0 ≤ (w64 (z0.1.2.2.2 + 1))))
 (.test (decide (((Int.toNat (w64 (z0.1.2.2.2 + 1))) ≤ (List.length z0.2.1)) ∧ ((List.length z0.2.1) ≤ (List.length z0.2.1))))
 (.test (decide (((0 + (Int.toNat (w64 (z0.1.2.2.2 + 1)))) + ((List.length z0.2.1) - (Int.toNat (w64 (z0.1.2.2.2 + 1))))) ≤ (List.length (List.set (List.set z0.2.1 (0 + (Int.toNat (Int.tmod (w64 ((w64 (z0.1.2.2.2 + ((List.length z0.2.1) : Int))) - 1)) ((List.length z0.2.1) : Int)))) (w64 (z1 - 1))) (0 + (Int.toNat (Int.tmod (w64 (z0.1.2.2.2 + 1)) ((List.length z0.2.1) : Int)))) (w64 (z3 - 1))))))
 (.test (decide ((0 + (List.length z13.2)) ≤ (List.length z13.2)))
 (.test (decide ((2 * (((List.length z13.2) + (List.length (win (List.set (List.set z0.2.1 (0 + (Int.toNat (Int.tmod (w64 ((w64 (z0.1.2.2.2 + ((List.length z0.2.1) : Int))) - 1)) ((List.length z0.2.1) : Int)))) (w64 (z1 - 1))) (0 + (Int.toNat (Int.tmod (w64 (z0.1.2.2.2 + 1)) ((List.length z0.2.1) : Int)))) (w64 (z3 - 1))) (0 + (Int.toNat (w64 (z0.1.2.2.2 + 1)))) ((List.length z0.2.1) - (Int.toNat (w64 (z0.1.2.2.2 + 1))))))) * 9)) ≤ 140737488355328))
 (.test (decide (0 ≤ z0.1.2.2.2))
 (.test (decide ((0 ≤ (Int.toNat z0.1.2.2.2)) ∧ ((Int.toNat z0.1.2.2.2) ≤ (List.length z0.2.2.1))))
 (.test (decide ((0 + ((Int.toNat z0.1.2.2.2) - 0)) ≤ (List.length z0.2.2.1)))
 (.sub (F84 (win z0.2.2.1 0 ((Int.toNat z0.1.2.2.2) - 0))) fun z14 =>
 (.test (decide (0 ≤ (w64 (z0.1.2.2.2 + 1))))
 (.test (decide (((Int.toNat (w64 (z0.1.2.2.2 + 1))) ≤ (List.length z0.2.2.1)) ∧ ((List.length z0.2.2.1) ≤ (List.length z0.2.2.1))))
 (.test (decide (((0 + (Int.toNat (w64 (z0.1.2.2.2 + 1)))) + ((List.length z0.2.2.1) - (Int.toNat (w64 (z0.1.2.2.2 + 1))))) ≤ (List.length z0.2.2.1)))
 (.test (decide ((0 + (List.length z14.2)) ≤ (List.length z14.2)))
 (.test (decide ((2 * (((List.length z14.2) + (List.length (win z0.2.2.1 (0 + (Int.toNat (w64 (z0.1.2.2.2 + 1)))) ((List.length z0.2.2.1) - (Int.toNat (w64 (z0.1.2.2.2 + 1))))))) * 9)) ≤ 140737488355328))
 (.test (decide ((0 = 0) ∧ (((List.length z13.2) + (List.length (win (List.set (List.set z0.2.1 (0 + (Int.toNat (Int.tmod (w64 ((w64 (z0.1.2.2.2 + ((List.length z0.2.1) : Int))) - 1)) ((List.length z0.2.1) : Int)))) (w64 (z1 - 1))) (0 + (Int.toNat (Int.tmod (w64 (z0.1.2.2.2 + 1)) ((List.length z0.2.1) : Int)))) (w64 (z3 - 1))) (0 + (Int.toNat (w64 (z0.1.2.2.2 + 1)))) ((List.length z0.2.1) - (Int.toNat (w64 (z0.1.2.2.2 + 1))))))) = (List.length ((win z13.2 0 (List.length z13.2)) ++ (win (List.set (List.set z0.2.1 (0 + (Int.toNat (Int.tmod (w64 ((w64 (z0.1.2.2.2 + ((List.length z0.2.1) : Int))) - 1)) ((List.length z0.2.1) : Int)))) (w64 (z1 - 1))) (0 + (Int.toNat (Int.tmod (w64 (z0.1.2.2.2 + 1)) ((List.length z0.2.1) : Int)))) (w64 (z3 - 1))) (0 + (Int.toNat (w64 (z0.1.2.2.2 + 1)))) ((List.length z0.2.1) - (Int.toNat (w64 (z0.1.2.2.2 + 1))))))))))
 (.test (decide ((0 = 0) ∧ (((List.length z14.2) + (List.length (win z0.2.2.1 (0 + (Int.toNat (w64 (z0.1.2.2.2 + 1)))) ((List.length z0.2.2.1) - (Int.toNat (w64 (z0.1.2.2.2 + 1))))))) = (List.length ((win z14.2 0 (List.length z14.2)) ++ (win z0.2.2.1 (0 + (Int.toNat (w64 (z0.1.2.2.2 + 1)))) ((List.length z0.2.2.1) - (Int.toNat (w64 (z0.1.2.2.2 + 1))))))))))
 (.test (decide ((0 = 0) ∧ (((List.length z0.2.2.2) + (List.length (win (List.set (List.replicate 1 ((0 : Int), (0 : Int))) 0 (z9, z12)) 0 1))) = (List.length ((win z0.2.2.2 0 (List.length z0.2.2.2)) ++ (win (List.set (List.replicate 1 ((0 : Int), (0 : Int))) 0 (z9, z12)) 0 1))))))
 (.ret (Sum.inl (((), ((), ())), (((win z13.2 0 (List.length z13.2)) ++ (win (List.set (List.set z0.2.1 (0 + (Int.toNat (Int.tmod (w64 ((w64 (z0.1.2.2.2 + ((List.length z0.2.1) : Int))) - 1)) ((List.length z0.2.1) : Int)))) (w64 (z1 - 1))) (0 + (Int.toNat (Int.tmod (w64 (z0.1.2.2.2 + 1)) ((List.length z0.2.1) : Int)))) (w64 (z3 - 1))) (0 + (Int.toNat (w64 (z0.1.2.2.2 + 1)))) ((List.length z0.2.1) - (Int.toNat (w64 (z0.1.2.2.2 + 1)))))), (((win z14.2 0 (List.length z14.2)) ++ (win z0.2.2.1 (0 + (Int.toNat (w64 (z0.1.2.2.2 + 1)))) ((List.length z0.2.2.1) - (Int.toNat (w64 (z0.1.2.2.2 + 1)))))), ((win z0.2.2.2 0 (List.length z0.2.2.2)) ++ (win (List.set (List.replicate 1 ((0 : Int), (0 : Int))) 0 (z9, z12)) 0 1)))))))
 .fail)
 .fail)
 .fail)
 .fail)
 .fail)
 .fail)
 .fail)
 .fail))
 .fail)
 .fail)
 .fail)
 .fail)
 .fail)
 .fail)
 .fail)
 .fail))
 .fail)
 .fail)
 .fail)
 .fail)
 .fail)
 .fail)))
 .fail))
 .fail)))
 .fail))
 .fail)))
 .fail)))
 .fail))
 .fail))
 .fail))
 .fail))
 .fail)
 .fail)
 .fail)))
 .fail)
 .fail)
 .fail)
 .fail)
 (.test (decide ((0 = 0) ∧ ((List.length left) = (List.length left))))
 (.test (decide ((0 = 0) ∧ ((List.length out) = (List.length out))))
 (.ret (Sum.inr (Sum.inr (((), ()), (left, out)))))
 .fail)
 .fail))
noncomputable def F102_L10 (v : ((Unit × Unit × Unit) × (List (Int) × List (Int) × List ((Int × Int))))) : Option (((Unit × Bool) × List ((Int × Int))) ⊕ ((Unit × Unit) × (List (Int) × List ((Int × Int))))) := loopO (fun v => (F102_L10_step v).run) v

def F102_fo : List FO := [⟨[(.one (.rw 0 0)), (.one .sb)], [(.row 0 (.pair (.int .i64) (.int .i64)))]⟩]
noncomputable def F102_t : List (Int) → T ((Unit × Bool) × List ((Int × Int))) := fun quiddity =>
 (.sub (F101 ((List.length quiddity) : Int)) fun z0 =>
 (.test (! z0)
 (.test true
 (.ret (((), false), ([] : List (Int × Int))))
 .fail)
 (.sub (F87 (quiddity, ((1 : Int), (12 : Int)))) fun z1 =>
 (.test (! z1)
 (.test true
 (.ret (((), false), ([] : List (Int × Int))))
 .fail)
 (.sub (F84 quiddity) fun z2 =>
 (.test (decide ((0 = 0) ∧ ((List.length z2.2) = (List.length z2.2))))
 (.test (decide ((0 = 0) ∧ (0 = (List.length (List.replicate 0 (0 : Int))))))
 (.sub (F102_L5 (((), ((), (((List.length z2.2) : Int), (0 : Int)))), (z2.2, (List.replicate 0 (0 : Int))))) fun z3 =>
 (.test (decide ((0 = 0) ∧ ((List.length z3.2.1) = (List.length z3.2.1))))
 (.test (decide ((0 = 0) ∧ ((List.length z3.2.2) = (List.length z3.2.2))))
 (.test (decide ((0 = 0) ∧ (0 = (List.length ([] : List (Int × Int))))))
 (.sub (F102_L10 (((), ((), ())), (z3.2.1, (z3.2.2, ([] : List (Int × Int)))))) fun z4 =>
 (.test (Sum.isLeft z4)
 (.sub (Sum.getLeft? z4) fun z5 =>
 (.test (decide ((0 = 0) ∧ ((List.length z5.2) = (List.length z5.2))))
 (.ret (((), z5.1.2), z5.2))
 .fail))
 (.sub (Sum.getRight? z4) fun z6 =>
 (.test (decide ((0 + (List.length z6.2.2)) ≤ (List.length z6.2.2)))
 (.sub (F59 (win z6.2.2 0 (List.length z6.2.2))) fun z7 =>
 (.test (decide (((0 : Int) ≤ (0 : Int)) ∧ (0 < ((List.length z6.2.1) : Int))))
 (.sub (z6.2.1[0]?) fun z8 =>
 (.test (z8 == 1)
 (.test (decide (((0 : Int) ≤ (1 : Int)) ∧ (1 < ((List.length z6.2.1) : Int))))
 (.sub (z6.2.1[1]?) fun z9 =>
 (.test (z9 == 1)
 (.test (decide (((0 : Int) ≤ (2 : Int)) ∧ (2 < ((List.length z6.2.1) : Int))))
 (.sub (z6.2.1[2]?) fun z10 =>
 (.test (decide ((0 = 0) ∧ ((List.length z7.2) = (List.length z7.2))))
 (.ret (((), (z10 == 1)), z7.2))
 .fail))
 .fail)
 (.test (decide ((0 = 0) ∧ ((List.length z7.2) = (List.length z7.2))))
 (.ret (((), false), z7.2))
 .fail)))
 .fail)
 (.test (decide ((0 = 0) ∧ ((List.length z7.2) = (List.length z7.2))))
 (.ret (((), false), z7.2))
 .fail)))
 .fail))
 .fail))))
 .fail)
 .fail)
 .fail))
 .fail)
 .fail))))))
noncomputable def F102 (v : List (Int)) : Option ((Unit × Bool) × List ((Int × Int))) := (F102_t v).run
noncomputable def F102_E : TEnv := ((((((E0.add1 n_F101 F101_sh F101_fo F101).add1 n_F87 F87_sh F87_fo F87).add1 n_F84 F84_sh F84_fo F84).add1 n_F66 F66_sh F66_fo F66).add1 n_F78 F78_sh F78_fo F78).add1 n_F59 F59_sh F59_fo F59)
theorem F102_Eok : (F102_E).OK := ((((((E0ok.add1 F101_ok).add1 F87_ok).add1 F84_ok).add1 F66_ok).add1 F78_ok).add1 F59_ok)
noncomputable def F102_told : Nat → Option SealT := fun id => if id = 5 then some (LSh.told F102_L5_sh 0 (F102_L5_step)) else if id = 13 then some (LSh.told F102_L13_sh 0 (F102_L13_step)) else if id = 10 then some (LSh.told F102_L10_sh 0 (F102_L10_step)) else none
theorem F102_L5_ok : ToldOK Tryz.prog 0 (loopAt (bodyOf fn_F102) [0]) (LSh.told F102_L5_sh 0 (F102_L5_step)) :=
  loop_ok (E := F102_E) (F102_Eok) (told := F102_told) (l := F102_L5_sh) (step := F102_L5_step) (loopsOK_of (ls := []) (by kernel_rfl) trivial) (by kernel_rfl) (fun v => by kernel_rfl)
theorem F102_L13_ok : ToldOK Tryz.prog 0 (loopAt (bodyOf fn_F102) [1, 0]) (LSh.told F102_L13_sh 0 (F102_L13_step)) :=
  loop_ok (E := F102_E) (F102_Eok) (told := F102_told) (l := F102_L13_sh) (step := F102_L13_step) (loopsOK_of (ls := []) (by kernel_rfl) trivial) (by kernel_rfl) (fun v => by kernel_rfl)
theorem F102_L10_ok : ToldOK Tryz.prog 0 (loopAt (bodyOf fn_F102) [1]) (LSh.told F102_L10_sh 0 (F102_L10_step)) :=
  loop_ok (E := F102_E) (F102_Eok) (told := F102_told) (l := F102_L10_sh) (step := F102_L10_step) (loopsOK_of (ls := [loopAt (bodyOf fn_F102) [1, 0]]) (by kernel_rfl) ⟨.inr ⟨_, by kernel_rfl, F102_L13_ok⟩, trivial⟩) (by kernel_rfl) (fun v => by kernel_rfl)
theorem F102_ok : FOK Tryz.prog n_F102 F102_sh F102_fo F102 :=
  fn_ok (E := F102_E) (F102_Eok) (told := F102_told) (fl := []) (c := bodyOf fn_F102) (s := F102_sh) (l := F102_fo) (tree := F102_t) fnat_F102 (by kernel_rfl) (by kernel_rfl) (by kernel_rfl) (loopsOK_of (ls := [loopAt (bodyOf fn_F102) [0], loopAt (bodyOf fn_F102) [1]]) (by kernel_rfl) ⟨.inr ⟨_, by kernel_rfl, F102_L5_ok⟩, ⟨.inr ⟨_, by kernel_rfl, F102_L10_ok⟩, trivial⟩⟩) (fun v => by kernel_rfl)

theorem F102_names (left : List Int) (hl : left.length < 1000000) : F102_L5 (((), ((), ((left.length : Int), (0 : Int)))), (left, [])) = some (((), ()), (left, nameL left.length)) := by
  have key : ∀ m k, k + m = left.length → F102_L5 (((), ((), ((left.length : Int), (k : Int)))), (left, nameL k)) = some (((), ()), (left, nameL left.length)) := by
    intro m
    induction m with
    | zero =>
      intro k hk
      have : k = left.length := by omega
      subst this
      simp only [F102_L5]
      exact loopO_done (by simp [F102_L5_step, T.run])
    | succ m ih =>
      intro k hk
      have ih := ih (k + 1) (by omega)
      simp only [F102_L5] at ih ⊢
      rw [← ih]
      refine loopO_next ?_
      have c0 : (k : Int) < (left.length : Int) := by omega
      have w1 : w64 ((k : Int) + 1) = ((k + 1 : Nat) : Int) := by rw [w64_id (by omega) (by omega)]; omega
      have hw : win (nameL k) 0 k = nameL k := by have := win_all (nameL k); rwa [nameL_length] at this
      have c1 : 2 * ((k + 1) * 9) ≤ 140737488355328 := by omega
      have hs : nameL k ++ [(k : Int)] = nameL (k + 1) := (nameL_succ k).symm
      simp only [F102_L5_step, T.run, c0, decide_true, if_true, win_one, nameL_length, hw, w1, List.length_cons, List.length_nil, c1, hs, Nat.zero_add]
      simp [c1]
  simpa [nameL] using key left.length 0 (by omega)
theorem F102_first (left corners : List Int) (out : List Dg) (hl : left.length < 1000000) :
    F102_L13 (((), ((), ((), ((-1), ((), ((left.length : Int), (0 : Int))))))), (left, (corners, out))) = some (((), ((), ((), idxI (fun x => (1 : Int) == x) left))), (left, (corners, out))) := by
  have key : ∀ m k (at' : Int), k + m = left.length → (at' < 0 → at' = -1) → F102_L13 (((), ((), ((), (at', ((), ((left.length : Int), (k : Int))))))), (left, (corners, out))) =
      some (((), ((), ((), if at' < 0 then (match (left.drop k).findIdx? (fun x => (1 : Int) == x) with | some i => ((k + i : Nat) : Int) | none => -1) else at'))), (left, (corners, out))) := by
    intro m
    induction m with
    | zero =>
      intro k at' hk ha
      have : k = left.length := by omega
      subst this
      rw [List.drop_length]
      simp only [F102_L13]
      refine loopO_done ?_
      by_cases h : at' < 0
      · have := ha h; subst this; simp [F102_L13_step, T.run]
      · simp [F102_L13_step, T.run, h]
    | succ m ih =>
      intro k at' hk ha
      have hlt : k < left.length := by omega
      have g0 := List.getElem?_eq_getElem hlt
      have c0 : (k : Int) < (left.length : Int) := by omega
      have c1 : (0 : Int) ≤ (k : Int) ∧ (k : Int) < (left.length : Int) := by omega
      have w1 : w64 ((k : Int) + 1) = ((k + 1 : Nat) : Int) := by rw [w64_id (by omega) (by omega)]; omega
      rw [List.drop_eq_getElem_cons hlt, List.findIdx?_cons]
      have st : (F102_L13_step (((), ((), ((), (at', ((), ((left.length : Int), (k : Int))))))), (left, (corners, out)))).run =
          some (.inl (((), ((), ((), ((if (left[k] == 1) = true ∧ at' < 0 then (k : Int) else at'), ((), ((left.length : Int), ((k + 1 : Nat) : Int))))))), (left, (corners, out)))) := by
        simp only [F102_L13_step, T.run, c0, c1, decide_true, if_true, and_self, Int.toNat_natCast, Nat.zero_add, g0, Option.bind_some, w1]
        cases hb : left[k] == 1 <;> by_cases h : at' < 0 <;> simp [h]
      have ih' := ih (k + 1) (if (left[k] == 1) = true ∧ at' < 0 then (k : Int) else at') (by omega) (by split <;> omega)
      simp only [F102_L13] at ih' ⊢
      rw [loopO_next st, ih']
      have hsym : ((1 : Int) == left[k]) = (left[k] == 1) := by rw [beq_int, beq_int]; congr 1; exact propext eq_comm
      rw [hsym]
      cases hb : left[k] == 1 with
      | true =>
        by_cases h : at' < 0
        · have : ¬ ((k : Int) < 0) := by omega
          simp [h, this]
        · simp [h]
      | false =>
        by_cases h : at' < 0
        · simp only [Bool.false_eq_true, false_and, if_false, h, if_true]
          cases (left.drop (k + 1)).findIdx? (fun x => (1 : Int) == x) with
          | none => rfl
          | some i => simp only [Option.map_some]; rw [show k + 1 + i = k + (i + 1) by omega]
        · simp [h]
  have := key left.length 0 (-1) (by omega) (fun _ => rfl)
  rw [Int.natCast_zero, List.drop_zero] at this
  rw [this]
  simp only [idxI]
  simp
  rfl
theorem F102_cut (left names : List Int) (out : List Dg) (k i : Nat) (hk : k < 100000) (hl : left.length = k + 4) (hn : names.length = k + 4) (ho : out.length < 100000) (he : ear left = some i) :
    (F102_L10_step (((), ((), ())), (left, (names, out)))).run = some (if okC left i then .inl (((), ((), ())), (cutL left i, (names.eraseIdx i, out ++ [cutD names i]))) else .inr (.inl (((), false), []))) := by
  obtain ⟨hi, _⟩ := ear_lt he
  obtain ⟨n1, n2, n3, n4, n5, n6⟩ := nb_facts (by omega : 3 ≤ left.length) hi
  obtain ⟨t1, t2⟩ := nb_tmod (by omega : 3 ≤ left.length) (by omega) hi
  have hf := F102_first left names out (by omega)
  have hii : idxI (fun x => (1 : Int) == x) left = (i : Int) := by unfold idxI; unfold ear at he; rw [he]
  rw [hii] at hf
  have c0 : (left.length : Int) > 3 := by omega
  have c1 : ¬ ((i : Int) < 0) := by omega
  have c2 : (left.length : Int) ≠ 0 := by omega
  have c3 : (0 : Int) ≤ (nbB left.length i : Int) ∧ (nbB left.length i : Int) < (left.length : Int) := by omega
  have c4 : (0 : Int) ≤ (nbC left.length i : Int) ∧ (nbC left.length i : Int) < (left.length : Int) := by omega
  have c5 : (0 : Int) ≤ (nbB left.length i : Int) ∧ (nbB left.length i : Int) < (names.length : Int) := by omega
  have c6 : (0 : Int) ≤ (nbC left.length i : Int) ∧ (nbC left.length i : Int) < (names.length : Int) := by omega
  have g1 := set_getD n1
  have g2 : (left.set (nbB left.length i) (w64 (left.getD (nbB left.length i) 0 - 1)))[nbC left.length i]? = some ((decAt left (nbB left.length i)).getD (nbC left.length i) 0) := set_getD (by simpa using n2)
  have g2' : (decAt left (nbB left.length i)).getD (nbC left.length i) 0 = left.getD (nbC left.length i) 0 := by
    unfold decAt
    simp only [List.getD_eq_getElem?_getD]
    rw [List.getElem?_set_ne n5]
  have g3 := set_getD (l := names) (p := nbB left.length i) (by omega)
  have g4 := set_getD (l := names) (p := nbC left.length i) (by omega)
  have w1 : w64 ((i : Int) + 1) = ((i + 1 : Nat) : Int) := by rw [w64_id (by omega) (by omega)]; omega
  rw [w1] at t2
  have hD' : (min (names.getD (nbB left.length i) 0) (names.getD (nbC left.length i) 0), max (names.getD (nbB left.length i) 0) (names.getD (nbC left.length i) 0)) = cutD names i := by unfold cutD; rw [hl, hn]
  have hmin : ∀ a b, F66 (a, b) = some (min a b) := by
    intro a b
    simp only [F66, F66_t, T.run]
    by_cases h : a < b <;> simp [h] <;> omega
  have hmax : ∀ a b, F78 (a, b) = some (max a b) := by
    intro a b
    simp only [F78, F78_t, T.run]
    by_cases h : a > b <;> simp [h] <;> omega
  have c7 : 2 * ((out.length + 1) * 17) ≤ 140737488355328 := by omega
  have l1 : (decAt (decAt left (nbB left.length i)) (nbC left.length i)).length = left.length := by rw [decAt_length, decAt_length]
  have e1 : left.set (nbB left.length i) (w64 (left.getD (nbB left.length i) 0 - 1)) = decAt left (nbB left.length i) := rfl
  have e2 : (decAt left (nbB left.length i)).set (nbC left.length i) (w64 (left.getD (nbC left.length i) 0 - 1)) = decAt (decAt left (nbB left.length i)) (nbC left.length i) := by unfold decAt; rw [← decAt, g2']
  have g5 : (decAt (decAt left (nbB left.length i)) (nbC left.length i))[nbB left.length i]? = some (w64 (left.getD (nbB left.length i) 0 - 1)) := by
    conv => lhs; unfold decAt
    rw [List.getElem?_set_ne (Ne.symm n5), List.getElem?_set_self n1]
  have g6 : (decAt (decAt left (nbB left.length i)) (nbC left.length i))[nbC left.length i]? = some (w64 (left.getD (nbC left.length i) 0 - 1)) := by
    rw [← e2, List.getElem?_set_self (by rw [decAt_length]; exact n2)]
  rw [e1, g2'] at g2
  have htl : ((decAt (decAt left (nbB left.length i)) (nbC left.length i)).take i).length = i := by rw [List.length_take, l1]; omega
  have htn : (names.take i).length = i := by rw [List.length_take]; omega
  have own1 := F84_eq ((decAt (decAt left (nbB left.length i)) (nbC left.length i)).take i) (by rw [htl]; omega)
  have own2 := F84_eq (names.take i) (by rw [htn]; omega)
  have d1 : win (decAt (decAt left (nbB left.length i)) (nbC left.length i)) (i + 1) (left.length - (i + 1)) = (decAt (decAt left (nbB left.length i)) (nbC left.length i)).drop (i + 1) := by
    unfold win; rw [List.take_of_length_le (by rw [List.length_drop, l1]; omega)]
  have d2 : win names (i + 1) (names.length - (i + 1)) = names.drop (i + 1) := by
    unfold win; rw [List.take_of_length_le (by rw [List.length_drop]; omega)]
  have x1 : (decAt (decAt left (nbB left.length i)) (nbC left.length i)).take i ++ (decAt (decAt left (nbB left.length i)) (nbC left.length i)).drop (i + 1) = cutL left i := take_drop_erase _ _
  have x2 : names.take i ++ names.drop (i + 1) = names.eraseIdx i := take_drop_erase _ _
  have f1 : (0 : Int) ≤ (i : Int) := by omega
  have f2 : 0 ≤ i ∧ i ≤ left.length := by omega
  have f3 : i ≤ left.length := by omega
  have f4 : (0 : Int) ≤ ((i + 1 : Nat) : Int) := by omega
  have f5 : i + 1 ≤ left.length ∧ left.length ≤ left.length := by omega
  have f6 : i + 1 + (left.length - (i + 1)) ≤ left.length := by omega
  have f7 : 2 * ((i + (left.length - (i + 1))) * 9) ≤ 140737488355328 := by omega
  have f8 : 0 ≤ i ∧ i ≤ names.length := by omega
  have f9 : i ≤ names.length := by omega
  have f10 : i + 1 ≤ names.length ∧ names.length ≤ names.length := by omega
  have f11 : i + 1 + (names.length - (i + 1)) ≤ names.length := by omega
  have f12 : 2 * ((i + (names.length - (i + 1))) * 9) ≤ 140737488355328 := by omega
  have f13 : i + (left.length - (i + 1)) = (cutL left i).length := by rw [cutL_length hi]; omega
  have f14 : i + (names.length - (i + 1)) = (names.eraseIdx i).length := by rw [List.length_eraseIdx, if_pos (by omega)]; omega
  have x1' := x1
  have x2' := x2
  simp only [F102_L10_step, T.run, c0, decide_true, if_true, Nat.zero_add, Nat.le_refl, hf, Option.bind_some, c1, decide_false, Bool.false_eq_true, if_false, c2, ne_eq, not_false_eq_true, t1, t2, c3, c4, c5, c6, and_self, Int.toNat_natCast, g1, e1, g2, e2, g3, g4, g5, g6, hmin, hmax, hD', win_one, w1, l1, true_and, win_take, Nat.sub_zero, f1, f2, f3, f4, own1, own2, htl, htn, d1, d2]
  have tk : ∀ {X : Type} (l : List X), (l.take i).take i = l.take i := fun l => by rw [List.take_take, Nat.min_self]
  have dl1 : ((decAt (decAt left (nbB left.length i)) (nbC left.length i)).drop (i + 1)).length = left.length - (i + 1) := by rw [List.length_drop, l1]
  have dl2 : (names.drop (i + 1)).length = names.length - (i + 1) := by rw [List.length_drop]
  have t1' : List.take 1 ((List.replicate 1 ((0 : Int), (0 : Int))).set 0 (cutD names i)) = [cutD names i] := rfl
  have t2' : ((List.replicate 1 ((0 : Int), (0 : Int))).set 0 (cutD names i)).length = 1 := rfl
  have f5' : i + 1 ≤ left.length := by omega
  have f7' : 2 * ((cutL left i).length * 9) ≤ 140737488355328 := by rw [← f13]; exact f7
  have f12' : 2 * ((names.eraseIdx i).length * 9) ≤ 140737488355328 := by rw [← f14]; exact f12
  have f10' : i + 1 ≤ names.length := by omega
  simp only [tk, dl1, dl2, t1', t2', List.take_length, x1, x2, f5', f6, f7, f7', f9, f10', f11, f12, f12', f13, f14, and_true, decide_true, if_true, List.length_cons, List.length_nil, Nat.zero_add, c7, List.length_append, Nat.le_refl]
  unfold okC
  by_cases h1 : w64 (left.getD (nbB left.length i) 0 - 1) < 1
  · have h1' : ¬ (1 ≤ w64 (left.getD (nbB left.length i) 0 - 1)) := by omega
    simp only [h1, h1', decide_true, if_true, false_and, decide_false, Bool.false_eq_true, if_false]
  · have h1' : 1 ≤ w64 (left.getD (nbB left.length i) 0 - 1) := by omega
    by_cases h2 : w64 (left.getD (nbC left.length i) 0 - 1) < 1
    · have h2' : ¬ (1 ≤ w64 (left.getD (nbC left.length i) 0 - 1)) := by omega
      simp only [h1, h1', h2, h2', decide_true, if_true, and_false, decide_false, Bool.false_eq_true, if_false]
    · have h2' : 1 ≤ w64 (left.getD (nbC left.length i) 0 - 1) := by omega
      simp only [h1, h1', h2, h2', decide_true, if_true, and_self, decide_false, Bool.false_eq_true, if_false]
theorem F102_cuts : ∀ (k : Nat) (left names : List Int) (out : List Dg), k < 1000 → left.length = k + 3 → names.length = k + 3 → out.length + k < 10000 →
    F102_L10 (((), ((), ())), (left, (names, out))) = some (match triSW k left names with
      | none => .inl (((), false), [])
      | some r => .inr (((), ()), (r.1, out ++ r.2)))
  | 0, left, names, out, hk, hl, hn, ho => by
    simp only [F102_L10, triSW]
    refine loopO_done ?_
    have c0 : ¬ ((left.length : Int) > 3) := by omega
    simp [F102_L10_step, T.run, c0]
  | k + 1, left, names, out, hk, hl, hn, ho => by
    cases he : ear left with
    | none =>
      have hf := F102_first left names out (by omega)
      have hii : idxI (fun x => (1 : Int) == x) left = -1 := by unfold idxI; unfold ear at he; rw [he]
      rw [hii] at hf
      have c0 : (left.length : Int) > 3 := by omega
      simp only [F102_L10, triSW, he]
      refine loopO_done ?_
      simp only [F102_L10_step, T.run, c0, decide_true, if_true, hf, Option.bind_some, true_and]
      simp
    | some i =>
      have st := F102_cut left names out k i (by omega) (by omega) (by omega) (by omega) he
      simp only [F102_L10, triSW, he] at st ⊢
      cases hok : okC left i with
      | false =>
        rw [hok] at st
        rw [loopO_done st]
        rfl
      | true =>
        rw [hok] at st
        have hlc := cutL_length (ear_lt he).1
        have ih := F102_cuts k (cutL left i) (names.eraseIdx i) (out ++ [cutD names i]) (by omega) (by omega) (by rw [List.length_eraseIdx, if_pos (by have := (ear_lt he).1; omega)]; omega) (by simp; omega)
        simp only [F102_L10] at ih
        rw [loopO_next st, ih]
        cases triSW k (cutL left i) (names.eraseIdx i) with
        | none => rfl
        | some r => simp
theorem F102_eq (l : List Int) (hl : l.length < 4611686018427387904) : ∃ r, r.length ≤ 9 ∧ F102 l = some (match trOf l with | some ds => (((), true), ds) | none => (((), false), r)) ∧ ((trOf l).isSome → ∀ ds, trOf l = some ds → ds.length ≤ 9) := by
  have hdl : ∀ ds, trOf l = some ds → ds.length ≤ 9 := by
    intro ds h
    unfold trOf at h
    split at h
    · rename_i hn
      rw [inB_iff] at hn
      split at h
      · rename_i es hT
        split at h
        · cases h
          rw [sortD_length, (tri_good _ _ _ _ (nameL_sorted _) (by omega) (by rw [nameL_length]; omega) hT).1]
          omega
        · cases h
      · cases h
    · cases h
  simp only [F102, F102_t, T.run, F101, F101_t, F100_eq, Option.bind_some]
  cases hn : inB 3 12 (l.length : Int) with
  | false => exact ⟨[], by simp, by simp [trOf, hn], fun _ => hdl⟩
  | true =>
    have hn' := inB_iff.1 hn
    rw [F87_eq l 1 12 hl]
    cases ha : l.all (inB 1 12) with
    | false => exact ⟨[], by simp, by simp [trOf_bad l ha], fun _ => hdl⟩
    | true =>
      have hown := F84_eq l (by omega)
      have h5 := F102_names l (by omega)
      have h10 := F102_cuts (l.length - 3) l (nameL l.length) [] (by omega) (by omega) (by rw [nameL_length]; omega) (by simp; omega)
      have htri := triS_W (l.length - 3) l (nameL l.length)
      have hsp := trOf_spec l ha hn
      simp only [Bool.not_true, Bool.false_eq_true, if_false, Option.bind_some, hown, List.replicate_zero, List.length_nil, true_and, decide_true, if_true, h5, h10]
      cases hW : triSW (l.length - 3) l (nameL l.length) with
      | none =>
        rw [htri, hW] at hsp
        exact ⟨[], by simp, by rw [← hsp]; simp, fun _ => hdl⟩
      | some r =>
        obtain ⟨l3, ds⟩ := r
        obtain ⟨g1, g2⟩ := triSW_len _ _ _ _ (by omega) hW
        simp only at g1 g2
        rw [htri, hW] at hsp
        have hs := F59_eq ds (by omega)
        have hls := sortD_length ds
        match l3, g1 with
        | [a, b, c], _ =>
          refine ⟨sortD ds, by omega, ?_, fun _ => hdl⟩
          rw [← hsp]
          simp only [Sum.isLeft, Sum.getRight?, Option.bind_some, Bool.false_eq_true, if_false, List.nil_append, Nat.zero_add, Nat.le_refl, decide_true, if_true, win_all, hs]
          by_cases ea : a = 1 <;> by_cases eb : b = 1 <;> by_cases ec : c = 1 <;> simp [ea, eb, ec]


def F52_sh : FSh := ⟨[(.one (.sl (.int .i64) false false))], []⟩

def F52_fo : List FO := [⟨[(.one .sb)], []⟩]
noncomputable def F52_t : List (Int) → T Bool := fun quiddity =>
 (.sub (F102 quiddity) fun z0 =>
 (.ret z0.1.2))
noncomputable def F52 (v : List (Int)) : Option Bool := (F52_t v).run
noncomputable def F52_E : TEnv := (E0.add1 n_F102 F102_sh F102_fo F102)
theorem F52_Eok : (F52_E).OK := (E0ok.add1 F102_ok)
noncomputable def F52_told : Nat → Option SealT := fun id => none
theorem F52_ok : FOK Tryz.prog n_F52 F52_sh F52_fo F52 :=
  fn_ok (E := F52_E) (F52_Eok) (told := F52_told) (fl := []) (c := bodyOf fn_F52) (s := F52_sh) (l := F52_fo) (tree := F52_t) fnat_F52 (by kernel_rfl) (by kernel_rfl) (by kernel_rfl) (loopsOK_of (ls := []) (by kernel_rfl) trivial) (fun v => by kernel_rfl)

theorem F52_eq (l : List Int) (hl : l.length < 4611686018427387904) : F52 l = some (trOf l).isSome := by
  obtain ⟨r, _, h, _⟩ := F102_eq l hl
  simp only [F52, F52_t, T.run, h, Option.bind_some]
  cases trOf l <;> rfl


def F80_sh : FSh := ⟨[(.one (.sl (.int .i64) false false))], []⟩

def F80_fo : List FO := [⟨[(.one .sb)], []⟩]
noncomputable def F80_t : List (Int) → T Bool := fun quiddity =>
 (.sub (F52 quiddity) fun z0 =>
 (.test z0
 (.ret (decide (((List.length quiddity) : Int) ≥ 4)))
 (.ret false)))
noncomputable def F80 (v : List (Int)) : Option Bool := (F80_t v).run
noncomputable def F80_E : TEnv := (E0.add1 n_F52 F52_sh F52_fo F52)
theorem F80_Eok : (F80_E).OK := (E0ok.add1 F52_ok)
noncomputable def F80_told : Nat → Option SealT := fun id => none
theorem F80_ok : FOK Tryz.prog n_F80 F80_sh F80_fo F80 :=
  fn_ok (E := F80_E) (F80_Eok) (told := F80_told) (fl := []) (c := bodyOf fn_F80) (s := F80_sh) (l := F80_fo) (tree := F80_t) fnat_F80 (by kernel_rfl) (by kernel_rfl) (by kernel_rfl) (loopsOK_of (ls := []) (by kernel_rfl) trivial) (fun v => by kernel_rfl)

theorem F80_eq (q : List Int) (hl : q.length < 4611686018427387904) : F80 q = some (rowed q) := by
  rw [F80, F80_t, T.run_sub, F52_eq q hl, Option.bind_some, T.run_test]
  unfold rowed
  cases (trOf q).isSome with
  | true => rw [if_pos rfl, T.run_ret, Bool.and_true]
  | false => rw [if_neg (by simp), T.run_ret, Bool.and_false]


def F67_sh : FSh := ⟨[(.one (.sl (.int .i64) false false)), (.one (.si .i64)), (.one (.si .i64))], []⟩

def F67_L4_sh : LSh := ⟨(fun ex => match ex with | .norm => [(0, none), (2, none), (7, none), (8, none), (9, none), (10, none)] | .exit i => if i = 0 then [(9, none)] else [] | .ret => [(6, none)]), [(0, (.one (.sl (.int .i64) false false))), (2, (.one (.si .i64))), (7, (.one (.si .i64))), (8, (.one (.si .i64))), (9, (.one (.si .i64))), (10, (.one (.si .i64)))], [], [⟨(.exit 0), [(9, (.one (.si .i64)))], []⟩], [], []⟩
noncomputable def F67_L4_step : (List (Int) × Int × Int × Int × Int × Int) → T ((List (Int) × Int × Int × Int × Int × Int) ⊕ Int) := fun (quiddity, j, n, before, at', k) =>
 (.test (decide (k < j))
 (.test (decide (n ≠ 0))
 (.test (decide (n ≠ 0))
 (.test (decide ((0 ≤ (Int.tmod (w64 ((Int.tmod k n) + n)) n)) ∧ ((Int.tmod (w64 ((Int.tmod k n) + n)) n) < ((List.length quiddity) : Int))))
 (.sub (quiddity[(Int.toNat (Int.tmod (w64 ((Int.tmod k n) + n)) n))]?) fun z0 =>
 (.ret (Sum.inl (quiddity, (j, (n, (at', ((w64 ((w64 (z0 * at')) - before)), (w64 (k + 1))))))))))
 .fail)
 .fail)
 .fail)
 (.ret (Sum.inr at')))
noncomputable def F67_L4 (v : (List (Int) × Int × Int × Int × Int × Int)) : Option Int := loopO (fun v => (F67_L4_step v).run) v

def F67_fo : List FO := [⟨[(.one (.si .i64))], []⟩]
noncomputable def F67_t : (List (Int) × Int × Int) → T Int := fun (quiddity, i, j) =>
 (.sub (F67_L4 (quiddity, (j, (((List.length quiddity) : Int), ((-1), ((0 : Int), i)))))) fun z0 =>
 (.ret z0))
noncomputable def F67 (v : (List (Int) × Int × Int)) : Option Int := (F67_t v).run
noncomputable def F67_E : TEnv := E0
theorem F67_Eok : (F67_E).OK := E0ok
noncomputable def F67_told : Nat → Option SealT := fun id => if id = 4 then some (LSh.told F67_L4_sh 0 (F67_L4_step)) else none
theorem F67_L4_ok : ToldOK Tryz.prog 0 (loopAt (bodyOf fn_F67) [0]) (LSh.told F67_L4_sh 0 (F67_L4_step)) :=
  loop_ok (E := F67_E) (F67_Eok) (told := F67_told) (l := F67_L4_sh) (step := F67_L4_step) (loopsOK_of (ls := []) (by kernel_rfl) trivial) (by kernel_rfl) (fun v => by kernel_rfl)
theorem F67_ok : FOK Tryz.prog n_F67 F67_sh F67_fo F67 :=
  fn_ok (E := F67_E) (F67_Eok) (told := F67_told) (fl := []) (c := bodyOf fn_F67) (s := F67_sh) (l := F67_fo) (tree := F67_t) fnat_F67 (by kernel_rfl) (by kernel_rfl) (by kernel_rfl) (loopsOK_of (ls := [loopAt (bodyOf fn_F67) [0]]) (by kernel_rfl) ⟨.inr ⟨_, by kernel_rfl, F67_L4_ok⟩, trivial⟩) (fun v => by kernel_rfl)

theorem F67_eq {q : List Int} {ds : List Dg} (h : trOf q = some ds) (i : Int) (hi : -100000 ≤ i ∧ i ≤ 100000) (k : Nat) (hk : k ≤ q.length) : F67 (q, (i, i + (k : Int))) = some (en (qa q) i k) := by
  have hb := (trOf_bounds (l := q) (by rw [h]; rfl)).1
  have key : ∀ m j : Nat, j + m = k → F67_L4 (q, (i + (k : Int), ((q.length : Int), ((if j = 0 then -1 else en (qa q) i (j - 1)), (en (qa q) i j, i + (j : Int)))))) = some (en (qa q) i k) := by
    intro m
    induction m with
    | zero =>
      intro j hj
      rw [show j = k by omega]
      simp only [F67_L4]
      refine loopO_done ?_
      rw [F67_L4_step, T.run_test, if_neg (by simp), T.run_ret]
    | succ m ih =>
      intro j hj
      have w1 : w64 (i + (j : Int) + 1) = i + ((j + 1 : Nat) : Int) := by rw [w64_id (by omega) (by omega)]; omega
      obtain ⟨q1, q2, q3⟩ := qa_some (q := q) (by omega) (i + j)
      have tw := tmod_w (i + j) (q.length : Int) (by omega) (by omega)
      have te := tmod_emod (i + j) (q.length : Int) (by omega)
      have b1 := en_small h i (k := j) (by omega)
      have b2 := en_small h i (k := j - 1) (by omega)
      have b3 := qa_small h (i + j)
      have hm := mul_le (a := qa q (i + j)) (b := en (qa q) i j) (A := 12) (B := 512) (by omega) (by omega) (by omega) (by omega)
      have hen : w64 (w64 (qa q (i + j) * en (qa q) i j) - (if j = 0 then -1 else en (qa q) i (j - 1))) = en (qa q) i (j + 1) := by
        rw [w64_id (z := qa q (i + j) * en (qa q) i j) (by omega) (by omega)]
        by_cases hj0 : j = 0
        · subst hj0
          rw [if_pos rfl]
          show w64 (qa q (i + ((0 : Nat) : Int)) * 0 - (-1)) = 1
          rw [Int.mul_zero]
          decide
        · rw [if_neg hj0, w64_id (by omega) (by omega)]
          have := en_two (qa q) i (j - 1)
          rw [show j - 1 + 2 = j + 1 by omega, show j - 1 + 1 = j by omega, show i + (((j - 1 : Nat) : Int) + 1) = i + j by omega] at this
          exact this.symm
      have ih := ih (j + 1) (by omega)
      rw [if_neg (by omega), Nat.add_sub_cancel] at ih
      rw [← ih]
      simp only [F67_L4]
      refine loopO_next ?_
      rw [F67_L4_step, T.run_test, if_pos (decide_eq_true (by omega)), T.run_test, if_pos (decide_eq_true (by omega)), T.run_test, if_pos (decide_eq_true (by omega)), tw, te, T.run_test, if_pos (decide_eq_true ⟨q1, q2⟩), T.run_sub, q3, Option.bind_some, T.run_ret, hen, w1]
  have := key k 0 (by omega)
  rw [if_pos rfl, Int.natCast_zero, Int.add_zero] at this
  rw [F67, F67_t, T.run_sub, show (0 : Int) = en (qa q) i 0 from rfl, this, Option.bind_some, T.run_ret]


def F88_sh : FSh := ⟨[(.one (.sl (.int .i64) false false)), (.one (.si .i64))], []⟩

def F88_L3_sh : LSh := ⟨(fun ex => match ex with | .norm => [(0, none), (1, none), (5, none), (8, none), (9, none)] | .exit i => if i = 0 then [(5, none)] else [] | .ret => [(4, none)]), [(0, (.one (.sl (.int .i64) false false))), (1, (.one (.si .i64))), (5, (.one (.rw 0 0))), (8, (.one (.si .i64))), (9, (.one (.si .i64)))], [(.row 0 (.int .i64))], [⟨(.exit 0), [(5, (.one (.rw 0 0)))], [(.row 0 (.int .i64))]⟩], [], []⟩
noncomputable def F88_L3_step : ((List (Int) × Int × Unit × Int × Int) × List (Int)) → T (((List (Int) × Int × Unit × Int × Int) × List (Int)) ⊕ (Unit × List (Int))) := fun ((quiddity, k, (), t8, t9), out) =>
 (.test (decide (t9 < t8))
 (.sub (F67 (quiddity, (t9, (w64 ((w64 (t9 + k)) + 1))))) fun z0 =>
 (.test (decide (1 ≤ 1))
 (.test (decide ((0 + (List.length out)) ≤ (List.length out)))
 (.test (decide ((2 * (((List.length out) + 1) * 9)) ≤ 140737488355328))
 (.test (decide ((0 = 0) ∧ (((List.length out) + 1) = (List.length ((win out 0 (List.length out)) ++ [z0])))))
 (.ret (Sum.inl ((quiddity, (k, ((), (t8, (w64 (t9 + 1)))))), ((win out 0 (List.length out)) ++ [z0]))))
 .fail)
 .fail)
 .fail)
 .fail))
 (.test (decide ((0 = 0) ∧ ((List.length out) = (List.length out))))
 (.ret (Sum.inr ((), out)))
 .fail))
noncomputable def F88_L3 (v : ((List (Int) × Int × Unit × Int × Int) × List (Int))) : Option (Unit × List (Int)) := loopO (fun v => (F88_L3_step v).run) v

def F88_fo : List FO := [⟨[(.one (.rw 0 0))], [(.row 0 (.int .i64))]⟩]
noncomputable def F88_t : (List (Int) × Int) → T (Unit × List (Int)) := fun (quiddity, k) =>
 (.test true
 (.sub (F88_L3 ((quiddity, (k, ((), (((List.length quiddity) : Int), (0 : Int))))), ([] : List (Int)))) fun z0 =>
 (.test (decide ((0 = 0) ∧ ((List.length z0.2) = (List.length z0.2))))
 (.ret ((), z0.2))
 .fail))
 .fail)
noncomputable def F88 (v : (List (Int) × Int)) : Option (Unit × List (Int)) := (F88_t v).run
noncomputable def F88_E : TEnv := (E0.add1 n_F67 F67_sh F67_fo F67)
theorem F88_Eok : (F88_E).OK := (E0ok.add1 F67_ok)
noncomputable def F88_told : Nat → Option SealT := fun id => if id = 3 then some (LSh.told F88_L3_sh 0 (F88_L3_step)) else none
theorem F88_L3_ok : ToldOK Tryz.prog 0 (loopAt (bodyOf fn_F88) [0]) (LSh.told F88_L3_sh 0 (F88_L3_step)) :=
  loop_ok (E := F88_E) (F88_Eok) (told := F88_told) (l := F88_L3_sh) (step := F88_L3_step) (loopsOK_of (ls := []) (by kernel_rfl) trivial) (by kernel_rfl) (fun v => by kernel_rfl)
theorem F88_ok : FOK Tryz.prog n_F88 F88_sh F88_fo F88 :=
  fn_ok (E := F88_E) (F88_Eok) (told := F88_told) (fl := []) (c := bodyOf fn_F88) (s := F88_sh) (l := F88_fo) (tree := F88_t) fnat_F88 (by kernel_rfl) (by kernel_rfl) (by kernel_rfl) (loopsOK_of (ls := [loopAt (bodyOf fn_F88) [0]]) (by kernel_rfl) ⟨.inr ⟨_, by kernel_rfl, F88_L3_ok⟩, trivial⟩) (fun v => by kernel_rfl)

theorem F88_eq {q : List Int} {ds : List Dg} (h : trOf q = some ds) (k : Nat) (hk : k + 1 ≤ q.length) : F88 (q, (k : Int)) = some ((), rowF q k) := by
  have hb := (trOf_bounds (l := q) (by rw [h]; rfl)).1
  have key : ∀ m j : Nat, j + m = q.length → F88_L3 ((q, ((k : Int), ((), ((q.length : Int), (j : Int))))), (rowF q k).take j) = some ((), rowF q k) := by
    intro m
    induction m with
    | zero =>
      intro j hj
      rw [List.take_of_length_le (by rw [rowF_length]; omega)]
      simp only [F88_L3]
      refine loopO_done ?_
      rw [F88_L3_step, T.run_test, if_neg (by rw [decide_eq_true_eq]; omega), T.run_test, if_pos (by simp), T.run_ret]
    | succ m ih =>
      intro j hj
      have w0 : w64 (w64 ((j : Int) + k) + 1) = (j : Int) + ((k + 1 : Nat) : Int) := by rw [w64_id (z := (j : Int) + k) (by omega) (by omega), w64_id (by omega) (by omega)]; omega
      have w1 : w64 ((j : Int) + 1) = ((j + 1 : Nat) : Int) := by rw [w64_id (by omega) (by omega)]; omega
      have ee := F67_eq h (j : Int) (by omega) (k + 1) hk
      have hr := rowF_get (q := q) (k := k) (i := j) (by omega)
      have hrl : j < (rowF q k).length := by rw [rowF_length]; omega
      rw [List.getElem?_eq_getElem hrl] at hr
      have ht : (rowF q k).take (j + 1) = (rowF q k).take j ++ [en (qa q) (j : Int) (k + 1)] := by rw [List.take_succ_eq_append_getElem hrl, Option.some.inj hr]
      have htl : ((rowF q k).take j).length = j := by rw [List.length_take]; omega
      rw [← ih (j + 1) (by omega), ht]
      simp only [F88_L3]
      refine loopO_next ?_
      generalize (rowF q k).take j = out at *
      rw [F88_L3_step, T.run_test, if_pos (decide_eq_true (by omega)), T.run_sub, w0, ee, Option.bind_some, snocL,
        T.run_test, if_pos (by simp), T.run_test, if_pos (by simp), T.run_test, if_pos (decide_eq_true (by omega)), T.run_test, if_pos (decide_eq_true (by simp)), T.run_ret, w1]
  have this : F88_L3 ((q, ((k : Int), ((), ((q.length : Int), (0 : Int))))), []) = _ := key q.length 0 (by omega)
  rw [F88, F88_t, T.run_test, if_pos rfl, T.run_sub, this, Option.bind_some, T.run_test, if_pos (by simp), T.run_ret]


end Go.Proofs.W
