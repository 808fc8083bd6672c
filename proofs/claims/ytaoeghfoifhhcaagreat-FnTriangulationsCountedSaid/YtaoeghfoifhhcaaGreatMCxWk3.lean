import Derived.Test.YtaoeghfoifhhcaaGreatMCxWk2
set_option linter.unusedVariables false
set_option linter.unusedSimpArgs false
set_option maxRecDepth 100000
set_option maxHeartbeats 4000000
namespace Go.Proofs.W
open Go Go.Gm Go.Proofs
open Go.RowKit Go.Shelf
theorem goL_complete (m : Nat) : ∀ (rest b t : List Dg), t.Sublist rest → b.length + t.length = m → t ≠ [] → (b ++ t).Pairwise (fun d e => crossD e d = false) → b ++ t ∈ goL m rest b
 | [], b, t, h, hm, hne, hp => absurd (List.sublist_nil.1 h) hne
 | d :: rest, b, t, h, hm, hne, hp => by
  rw [goL_cons, List.mem_append]
  cases h with
  | cons _ h => exact .inr (goL_complete m rest b t h hm hne hp)
  | cons_cons _ h =>
   rename_i t'
   left
   have hf : freeD d b = true := by
    unfold freeD
    rw [Bool.not_eq_true', List.any_eq_false]
    intro e he
    have := (List.pairwise_append.1 hp).2.2 e he d (by simp)
    rw [this]; simp
   rw [if_pos hf]
   unfold lookL
   cases t' with
   | nil =>
    rw [if_pos (by simpa using hm)]
    simp
   | cons x t'' =>
    rw [if_neg (by simp only [List.length_append, List.length_cons, List.length_nil] at hm ⊢; omega)]
    have := goL_complete m rest (b ++ [d]) (x :: t'') h (by simp only [List.length_append, List.length_cons, List.length_nil] at hm ⊢; omega) (by simp) (by simpa using hp)
    simpa using this
theorem sub_of_sorted {X : Type} {lt : X → X → Prop} (irr : ∀ a, ¬ lt a a) (tr : ∀ a b c, lt a b → lt b c → lt a c) : ∀ (l s : List X), l.Pairwise lt → s.Pairwise lt → (∀ x ∈ s, x ∈ l) → s.Sublist l
 | [], s, hl, hs, h => by
  cases s with
  | nil => exact List.Sublist.refl _
  | cons x s => exact absurd (h x (by simp)) (by simp)
 | a :: l, [], hl, hs, h => List.nil_sublist _
 | a :: l, x :: s, hl, hs, h => by
  obtain ⟨hl1, hl2⟩ := List.pairwise_cons.1 hl
  obtain ⟨hs1, hs2⟩ := List.pairwise_cons.1 hs
  rcases List.mem_cons.1 (h x (by simp)) with rfl | hx
  ·refine List.Sublist.cons_cons _ (sub_of_sorted irr tr l s hl2 hs2 fun y hy => ?_)
   rcases List.mem_cons.1 (h y (by simp [hy])) with rfl | h'
   ·exact absurd (hs1 _ hy) (irr _)
   ·exact h'
  ·refine List.Sublist.cons _ (sub_of_sorted irr tr l (x :: s) hl2 hs fun y hy => ?_)
   have hax := hl1 x hx
   rcases List.mem_cons.1 (h y hy) with rfl | h'
   ·rcases List.mem_cons.1 hy with rfl | hy
    ·exact hx
    ·exact absurd (tr _ _ _ hax (hs1 _ hy)) (irr _)
   ·exact h'
theorem dgL_up (n : Nat) (h : n ≤ 9) : (dgL n).Pairwise (fun d e => ltD d e = true) := by
 have : ∀ k, k ≤ 9 → (dgL k).Pairwise (fun d e => ltD d e = true) := by decide +kernel
 exact this n h
theorem mem_dgL {n : Nat} {d : Dg} (h : inDg n d = true) : d ∈ dgL n := by
 have h' := inDg_iff.1 h
 unfold dgL
 rw [List.mem_flatMap]
 refine ⟨d.1.toNat, List.mem_range.2 (by omega), List.mem_filter.2 ⟨List.mem_map.2 ⟨d.2.toNat, List.mem_range.2 (by omega), ?_⟩, h⟩⟩
 obtain ⟨a, b⟩ := d
 simp only [Prod.mk.injEq]
 simp only at h'
 omega
theorem tri_allT {n : Nat} {ds : List Dg} (hn : n ≤ 9) (h : isTri n ds = true) : ds ∈ allT n := by
 obtain ⟨h1, h2, h3, h4⟩ := (isTri_iff _ _).1 h
 have hsub : ds.Sublist (dgL n) := sub_of_sorted (lt := fun d e => ltD d e = true) (fun a => by rw [ltD_iff]; omega) (fun a b c => by rw [ltD_iff, ltD_iff, ltD_iff]; omega)
  _ _ (dgL_up n hn) (h4.imp fun h => h.1) fun d hd => mem_dgL (h3 d hd)
 unfold allT lookL
 split
 ·rename_i h0
  have : ds = [] := List.eq_nil_of_length_eq_zero (by simp at h0; omega)
  simp [this]
 ·rename_i h0
  have := goL_complete (n - 3) (dgL n) [] ds hsub (by simp; omega) (by intro e; subst e; simp at h2 h0; omega) (by rw [List.nil_append]; exact h4.imp fun h => h.2)
  simpa using this
def Gp (o p : List Int) : Prop := o.length = p.length ∧ ∀ i, o.getD i 0 = 0 ∨ o.getD i 0 = p.getD i 0
theorem Gp.refl (p : List Int) : Gp p p := ⟨rfl, fun i => .inr rfl⟩
theorem Gp.trans {o p q : List Int} (h1 : Gp o p) (h2 : Gp p q) : Gp o q := ⟨h1.1.trans h2.1, fun i => by
 rcases h1.2 i with h | h
 ·exact .inl h
 ·rw [h]; exact h2.2 i⟩
theorem getD_set (l : List Int) (k i : Nat) (v : Int) : (l.set k v).getD i 0 = if k = i ∧ k < l.length then v else l.getD i 0 := by
 rw [List.getD_eq_getElem?_getD, List.getElem?_set]
 by_cases h : k = i
 ·subst h
  by_cases h' : k < l.length
  ·rw [if_pos rfl, if_pos h', if_pos ⟨rfl, h'⟩]; rfl
  ·rw [if_pos rfl, if_neg h', if_neg (by omega), List.getD_eq_getElem?_getD, List.getElem?_eq_none (by omega)]
 ·rw [if_neg h, if_neg (by omega), List.getD_eq_getElem?_getD]
theorem Gp.set {o p : List Int} (h : Gp o p) (k : Nat) : Gp (o.set k 0) p := ⟨by rw [List.length_set]; exact h.1, fun i => by
 rw [getD_set]
 split
 ·exact .inl rfl
 ·exact h.2 i⟩
def chI (n k : Int) : Int := if 0 ≤ k ∧ k ≤ n then chA n k.toNat 0 1 else 0
def chS (n k : Int) : Int := if k < 0 ∨ n < k then 0 else chB n k k.toNat 1 1
def catE (k : Int) : Int := if k > 2 then catV k else 1
def earV (ch : Int → Int → Int) (n k : Int) : Int := w64 (Int.tdiv (w64 ((w64 ((w64 (n * (w64 (1 * ((2 : Int) ^ (Int.toNat (w64 (n - (w64 (2 * k)))))))))) * ch (w64 (n - 4)) (w64 ((w64 (2 * k)) - 4)))) * catE k)) k)
def earG (f : Int → Int) (n : Int) : Nat → Int → List Int → List Int
 | 0, _, out => out
 | m + 1, k, out => if 2 * k ≤ n then earG f n m (k + 1) (out.set k.toNat (f k)) else out
def earT (n : Int) : List Int := if n = 3 then [0, 0, 0, 1] else earG (earV chI n) n 10 2 (List.replicate (n + 1).toNat 0)
def corV (ch : Int → Int → Int) (n k : Int) : Int := w64 (Int.tdiv (w64 (k * ch (w64 ((w64 ((w64 (2 * n)) - 4)) - k)) (w64 (n - 2)))) (w64 ((w64 ((w64 (2 * n)) - 4)) - k)))
def corT (n : Int) : List Int := 0 :: (List.range (n - 2).toNat).map fun (t : Nat) => corV chI n ((t : Int) + 1)
def sumK : List Int → Nat → Int → Int
 | [], _, s => s
 | x :: t, k, s => sumK t (k + 1) (w64 (s + w64 ((k : Int) * x)))
theorem ear_same : ∀ n : Nat, 4 ≤ n → n ≤ 12 → earG (earV chS n) n 10 2 (List.replicate ((n : Int) + 1).toNat 0) = earG (earV chI n) n 10 2 (List.replicate ((n : Int) + 1).toNat 0) := by
 have : ∀ n : Nat, n ≤ 12 → 4 ≤ n → earG (earV chS n) n 10 2 (List.replicate ((n : Int) + 1).toNat 0) = earG (earV chI n) n 10 2 (List.replicate ((n : Int) + 1).toNat 0) := by decide +kernel
 exact fun n h1 h2 => this n h2 h1
theorem cor_same : ∀ n : Nat, 3 ≤ n → n ≤ 12 → ∀ t : Nat, t < n - 2 → corV chS n ((t : Int) + 1) = corV chI n ((t : Int) + 1) := by
 have : ∀ n : Nat, n ≤ 12 → 3 ≤ n → ∀ t : Nat, t < n - 2 → corV chS n ((t : Int) + 1) = corV chI n ((t : Int) + 1) := by decide +kernel
 exact fun n h1 h2 => this n h2 h1
theorem tab_facts (n : Nat) (h1 : 3 ≤ n) (h2 : n ≤ 12) : (earT n).sum = catV n ∧ (corT n).sum = catV n ∧ (earT n).length = n + 1 ∧ (corT n).length = n - 1 ∧ (∀ x ∈ earT n, 0 ≤ x ∧ x ≤ 1000000) ∧ (∀ x ∈ corT n, 0 ≤ x ∧ x ≤ 1000000) ∧
  w64 (sumK (corT n) 0 0 * n) = w64 (catV n * w64 (w64 (3 * (n : Int)) - 6)) := by
 have : ∀ n : Nat, n ≤ 12 → 3 ≤ n → (earT n).sum = catV n ∧ (corT n).sum = catV n ∧ (earT n).length = n + 1 ∧ (corT n).length = n - 1 ∧ (∀ x ∈ earT n, 0 ≤ x ∧ x ≤ 1000000) ∧ (∀ x ∈ corT n, 0 ≤ x ∧ x ≤ 1000000) ∧
  w64 (sumK (corT n) 0 0 * n) = w64 (catV n * w64 (w64 (3 * (n : Int)) - 6)) := by decide +kernel
 exact this n h2 h1
theorem cat_len (n : Nat) (h1 : 3 ≤ n) (h2 : n ≤ 8) : ((allT n).length : Int) = catV n := by
 have : ∀ n : Nat, n ≤ 8 → 3 ≤ n → ((allT n).length : Int) = catV n := by decide +kernel
 exact this n h2 h1
def q0 (q : List Int) : Int := q.getD 0 0
def qe (q : List Int) : Int := (q.countP (fun x => x == 1) : Nat)
theorem tab_all (n : Nat) (h1 : 3 ≤ n) (h2 : n ≤ 7) : (∀ k : Nat, k < n - 1 → 1 ≤ k → (((allT n).map (quid n)).countP (fun q => q0 q == (k : Int)) : Nat) = (corT n).getD k 0) ∧
  ∀ k : Nat, k < n + 1 → (((allT n).map (quid n)).countP (fun q => qe q == (k : Int)) : Nat) = (earT n).getD k 0 := by
 have : ∀ n : Nat, n ≤ 7 → 3 ≤ n → (∀ k : Nat, k < n - 1 → 1 ≤ k → (((allT n).map (quid n)).countP (fun q => q0 q == (k : Int)) : Nat) = (corT n).getD k 0) ∧
  ∀ k : Nat, k < n + 1 → (((allT n).map (quid n)).countP (fun q => qe q == (k : Int)) : Nat) = (earT n).getD k 0 := by decide +kernel
 exact this n h2 h1
theorem allQ_count (n : Nat) (p : List Int → Bool) : (allQ n).countP p = ((allT n).map (quid n)).countP p := by
 unfold allQ
 exact (sortL_perm _).countP_eq p
def ltLD : List Dg → List Dg → Bool
 | d :: l, e :: m => if d = e then ltLD l m else ltD d e
 | _, _ => false
def upL : List (List Dg) → Bool
 | a :: b :: t => ltLD a b && upL (b :: t)
 | _ => true
theorem upL_get : ∀ (l : List (List Dg)), upL l = true → ∀ (i : Nat) (a b : List Dg), l[i]? = some a → l[i + 1]? = some b → ltLD a b = true
 | [], _, i, a, b, h, _ => by simp at h
 | [x], _, i, a, b, _, h => by simp at h
 | x :: y :: t, h, 0, a, b, h1, h2 => by
  simp only [List.getElem?_cons_succ, List.getElem?_cons_zero, Option.some.injEq] at h1 h2
  subst h1 h2
  rw [upL, Bool.and_eq_true] at h
  exact h.1
 | x :: y :: t, h, i + 1, a, b, h1, h2 => by
  rw [upL, Bool.and_eq_true] at h
  exact upL_get (y :: t) h.2 i a b (by simpa using h1) (by simpa using h2)
theorem allT_up (n : Nat) (h1 : 3 ≤ n) (h2 : n ≤ 8) : upL (allT n) = true := by
 have : ∀ n : Nat, n ≤ 8 → 3 ≤ n → upL (allT n) = true := by decide +kernel
 exact this n h2 h1
theorem allT_isTri (n : Nat) (h1 : 3 ≤ n) (h2 : n ≤ 8) : ∀ ds ∈ allT n, isTri n ds = true := by
 have : ∀ n : Nat, n ≤ 8 → 3 ≤ n → ∀ ds ∈ allT n, isTri n ds = true := by decide +kernel
 exact this n h2 h1
theorem allT_nodup (n : Nat) (h1 : 3 ≤ n) (h2 : n ≤ 8) : (allT n).Nodup := by
 have : ∀ n : Nat, n ≤ 8 → 3 ≤ n → (allT n).Nodup := by decide +kernel
 exact this n h2 h1
def rkR (n : Int) (ds : List Dg) : Int × Bool := if isTri n ds && inB 3 8 n then (idxI (fun a => decide (a = ds)) (allT n.toNat), true) else (0, false)
theorem idx_at {L : List (List Dg)} (hn : L.Nodup) {i : Nat} {ds : List Dg} (h : L[i]? = some ds) : L.findIdx? (fun a => decide (a = ds)) = some i := by
 obtain ⟨hi, e⟩ := List.getElem?_eq_some_iff.1 h
 refine List.findIdx?_eq_some_iff_getElem.2 ⟨hi, by rw [e]; exact decide_eq_true rfl, fun j hj => ?_⟩
 have : L[j] ≠ ds := fun e2 => (List.pairwise_iff_getElem.1 hn) j i (by omega) hi hj (e2.trans e.symm)
 simp [this]
theorem rk_find {n : Nat} {ds : List Dg} (h : isTri (n : Int) ds = true) (h3 : 3 ≤ n) (h8 : n ≤ 8) : ∃ i : Nat, (allT n)[i]? = some ds ∧ (allT n).findIdx? (fun a => decide (a = ds)) = some i := by
 obtain ⟨i, hi⟩ := List.getElem?_of_mem (tri_allT (by omega) h)
 exact ⟨i, hi, idx_at (allT_nodup n h3 h8) hi⟩
def tofR (n rank : Int) : List Dg × Bool := if inB 3 8 n && inB 0 (catV n - 1) rank then ((allT n.toNat).getD rank.toNat [], true) else ([], false)
theorem tof_get {n : Nat} (h3 : 3 ≤ n) (h8 : n ≤ 8) {i : Nat} {ds : List Dg} (h : (allT n)[i]? = some ds) : tofR (n : Int) (i : Int) = (ds, true) := by
 have hi := getElem?_lt h
 have hc := cat_len n h3 h8
 unfold tofR
 rw [if_pos (by rw [Bool.and_eq_true, inB_iff, inB_iff]; omega), Int.toNat_natCast, Int.toNat_natCast, List.getD_eq_getElem?_getD, h]
 rfl
theorem sorted_ext {l m : List Int} (h1 : l.Pairwise (· < ·)) (h2 : m.Pairwise (· < ·)) (h : ∀ v, v ∈ l ↔ v ∈ m) : l = m := by
 have n1 : l.Nodup := h1.imp fun {a b} h => by omega
 have n2 : m.Nodup := h2.imp fun {a b} h => by omega
 exact List.Perm.eq_of_pairwise (fun a b _ _ g1 g2 => by omega) h1 h2 ((List.perm_ext_iff_of_nodup n1 n2).2 h)
theorem exists_min {α : Type} (f : α → Nat) (p : α → Prop) : ∀ (l : List α), (∃ x ∈ l, p x) → ∃ x ∈ l, p x ∧ ∀ y ∈ l, p y → f x ≤ f y
 | [], h => by obtain ⟨x, hx, _⟩ := h; cases hx
 | a :: l, h => by
  by_cases g : ∃ x ∈ l, p x
  ·obtain ⟨x, hx, px, hm⟩ := exists_min f p l g
   by_cases pa : p a
   ·by_cases c : f a ≤ f x
    ·exact ⟨a, by simp, pa, fun y hy py => by
      rcases List.mem_cons.1 hy with rfl | hy
      ·exact Nat.le_refl _
      ·exact Nat.le_trans c (hm y hy py)⟩
    ·exact ⟨x, by simp [hx], px, fun y hy py => by
      rcases List.mem_cons.1 hy with rfl | hy
      ·omega
      ·exact hm y hy py⟩
   ·exact ⟨x, by simp [hx], px, fun y hy py => by
     rcases List.mem_cons.1 hy with rfl | hy
     ·exact absurd py pa
     ·exact hm y hy py⟩
  ·obtain ⟨x, hx, px⟩ := h
   rcases List.mem_cons.1 hx with rfl | hx
   ·exact ⟨x, by simp, px, fun y hy py => by
     rcases List.mem_cons.1 hy with rfl | hy
     ·exact Nat.le_refl _
     ·exact absurd ⟨y, hy, py⟩ g⟩
   ·exact absurd ⟨x, hx, px⟩ g
def covD (ds : List Dg) (k : Dg) (v : Int) : Bool := ds.any fun d => decide (k.1 ≤ d.1 ∧ d.1 < v ∧ v < d.2 ∧ d.2 ≤ k.2 ∧ d ≠ k)
def pcs (n : Nat) (ds : List Dg) (k : Dg) : List Int := (nameL n).filter fun v => decide (k.1 ≤ v ∧ v ≤ k.2) && !covD ds k v
theorem covD_iff {ds : List Dg} {k : Dg} {v : Int} : covD ds k v = true ↔ ∃ d ∈ ds, k.1 ≤ d.1 ∧ d.1 < v ∧ v < d.2 ∧ d.2 ≤ k.2 ∧ d ≠ k := by
 unfold covD
 rw [List.any_eq_true]
 simp only [decide_eq_true_eq]
theorem nameL_iff {n : Nat} {v : Int} : v ∈ nameL n ↔ 0 ≤ v ∧ v < (n : Int) := by
 constructor
 ·exact nameL_mem
 ·intro h
  exact List.mem_of_getElem? (by rw [nameL_get (p := v.toNat) (by omega)]; rw [Int.toNat_of_nonneg h.1])
theorem pcs_mem {n : Nat} {ds : List Dg} {k : Dg} {v : Int} : v ∈ pcs n ds k ↔ (0 ≤ v ∧ v < (n : Int)) ∧ (k.1 ≤ v ∧ v ≤ k.2) ∧ ∀ d ∈ ds, k.1 ≤ d.1 → d.2 ≤ k.2 → d ≠ k → d.1 < v → v < d.2 → False := by
 unfold pcs
 rw [List.mem_filter, nameL_iff, Bool.and_eq_true, decide_eq_true_eq, Bool.not_eq_true', ← Bool.not_eq_true, covD_iff]
 constructor
 ·rintro ⟨h1, h2, h3⟩
  exact ⟨h1, h2, fun d hd a b c e f => h3 ⟨d, hd, a, e, f, b, c⟩⟩
 ·rintro ⟨h1, h2, h3⟩
  exact ⟨h1, h2, fun ⟨d, hd, a, e, f, b, c⟩ => h3 d hd a b c e f⟩
theorem pcs_sorted (n : Nat) (ds : List Dg) (k : Dg) : (pcs n ds k).Pairwise (· < ·) := (nameL_sorted n).filter _
def wholeD (n : Nat) : Dg := (0, (n : Int) - 1)
def CutD (n : Nat) (ds : List Dg) : Prop := (∀ d ∈ ds, 0 ≤ d.1 ∧ d.1 + 1 < d.2 ∧ d.2 < (n : Int) ∧ d ≠ wholeD n) ∧ ds.Pairwise fun d e => d ≠ e ∧ crossD d e = false
theorem cross_no {d e : Dg} (h : crossD d e = false) : ¬ (d.1 < e.1 ∧ e.1 < d.2 ∧ d.2 < e.2) ∧ ¬ (e.1 < d.1 ∧ d.1 < e.2 ∧ e.2 < d.2) := by
 unfold crossD at h
 simp only [Bool.or_eq_false_iff, Bool.and_eq_false_iff, decide_eq_false_iff_not] at h
 omega
theorem CutD.apart {n : Nat} {ds : List Dg} (h : CutD n ds) {d e : Dg} (hd : d ∈ wholeD n :: ds) (he : e ∈ wholeD n :: ds) : ¬ (d.1 < e.1 ∧ e.1 < d.2 ∧ d.2 < e.2) := by
 have low : ∀ d ∈ wholeD n :: ds, 0 ≤ d.1 ∧ d.2 < (n : Int) := fun d hd => by
  rcases List.mem_cons.1 hd with rfl | hd
  ·simp only [wholeD]; omega
  ·have := h.1 d hd; omega
 rcases List.mem_cons.1 hd with rfl | hd
 ·have := low e he; simp only [wholeD]; omega
 ·rcases List.mem_cons.1 he with rfl | he
  ·have := h.1 d hd; simp only [wholeD]; omega
  ·by_cases e1 : d = e
   ·subst e1; omega
   ·obtain ⟨i, hi, ei⟩ := List.getElem_of_mem hd
    obtain ⟨j, hj, ej⟩ := List.getElem_of_mem he
    have hp := List.pairwise_iff_getElem.1 h.2
    rcases Nat.lt_trichotomy i j with c | c | c
    ·have := hp i j hi hj c
     rw [ei, ej] at this
     exact (cross_no this.2).1
    ·subst c; exact absurd (ei.symm.trans ej) e1
    ·have := hp j i hj hi c
     rw [ei, ej] at this
     exact (cross_no this.2).2
theorem CutD.front {n : Nat} {ds es : List Dg} (h : CutD n (ds ++ es)) : CutD n ds := ⟨fun d hd => h.1 d (by simp [hd]), (List.pairwise_append.1 h.2).1⟩
theorem CutD.nodup {n : Nat} {ds : List Dg} (h : CutD n ds) : (wholeD n :: ds).Nodup := by
 rw [List.nodup_cons]
 exact ⟨fun hm => (h.1 _ hm).2.2.2 rfl, h.2.imp fun {a b} h => h.1⟩
structure MoreD (n : Nat) (ds : List Dg) (d k : Dg) : Prop where
 cut : CutD n (ds ++ [d])
 key : k ∈ wholeD n :: ds
 lo : d.1 ∈ pcs n ds k
 hi : d.2 ∈ pcs n ds k
theorem MoreD.enc {n : Nat} {ds : List Dg} {d k : Dg} (h : MoreD n ds d k) : k.1 ≤ d.1 ∧ d.1 + 1 < d.2 ∧ d.2 ≤ k.2 ∧ d ≠ k := by
 have h1 := (pcs_mem.1 h.lo).2.1
 have h2 := (pcs_mem.1 h.hi).2.1
 have h3 := h.cut.1 d (by simp)
 refine ⟨h1.1, h3.2.1, h2.2, fun e => ?_⟩
 subst e
 rcases List.mem_cons.1 h.key with e | e
 ·exact h3.2.2.2 e
 ·exact ((List.pairwise_append.1 h.cut.2).2.2 d e d (by simp)).1 rfl
theorem MoreD.ap {n : Nat} {ds : List Dg} {d k : Dg} (h : MoreD n ds d k) {e : Dg} (he : e ∈ wholeD n :: ds) : ¬ (d.1 < e.1 ∧ e.1 < d.2 ∧ d.2 < e.2) ∧ ¬ (e.1 < d.1 ∧ d.1 < e.2 ∧ e.2 < d.2) := by
 have he' : e ∈ wholeD n :: (ds ++ [d]) := by
  rcases List.mem_cons.1 he with rfl | he
  ·simp
  ·simp [he]
 exact ⟨h.cut.apart (by simp) he', h.cut.apart he' (by simp)⟩
theorem more_exists {n : Nat} {ds : List Dg} {d : Dg} (h : CutD n (ds ++ [d])) : ∃ k, MoreD n ds d k := by
 have hd := h.1 d (by simp)
 have ap : ∀ e ∈ ds, ¬ (d.1 < e.1 ∧ e.1 < d.2 ∧ d.2 < e.2) ∧ ¬ (e.1 < d.1 ∧ d.1 < e.2 ∧ e.2 < d.2) := fun e he =>
  ⟨h.apart (by simp) (by simp [he]), h.apart (by simp [he]) (by simp)⟩
 obtain ⟨k, hk, ⟨k1, k2⟩, hm⟩ := exists_min (fun k : Dg => (k.2 - k.1).toNat) (fun k => k.1 ≤ d.1 ∧ d.2 ≤ k.2) (wholeD n :: ds) ⟨wholeD n, by simp, by simp only [wholeD]; omega⟩
 have key : ∀ v, v = d.1 ∨ v = d.2 → v ∈ pcs n ds k := fun v hv => by
  rw [pcs_mem]
  refine ⟨by omega, by omega, fun e he h1 h2 h3 h4 h5 => ?_⟩
  have := ap e he
  have hm := hm e (by simp [he]) (by omega)
  have hne : ¬ (e.1 = k.1 ∧ e.2 = k.2) := fun h => h3 (Prod.ext h.1 h.2)
  omega
 exact ⟨k, h, hk, key _ (.inl rfl), key _ (.inr rfl)⟩
theorem more_unique {n : Nat} {ds : List Dg} {d k l : Dg} (h1 : MoreD n ds d k) (h2 : MoreD n ds d l) : k = l := by
 have e1 := h1.enc
 have e2 := h2.enc
 have c := h1.cut.front
 have a1 := c.apart h1.key h2.key
 have a2 := c.apart h2.key h1.key
 have m1 := (pcs_mem.1 h1.lo).2.2
 have m2 := (pcs_mem.1 h1.hi).2.2
 have m3 := (pcs_mem.1 h2.lo).2.2
 have m4 := (pcs_mem.1 h2.hi).2.2
 have low : ∀ k ∈ wholeD n :: ds, ∀ l ∈ wholeD n :: ds, (k.1 ≤ l.1 ∧ l.2 ≤ k.2) → l ≠ k → l ∈ ds := fun k hk l hl hi hne => by
  rcases List.mem_cons.1 hl with rfl | hl
  ·exfalso
   rcases List.mem_cons.1 hk with rfl | hk
   ·exact hne rfl
   ·have := c.1 k hk
    simp only [wholeD] at hi
    exact this.2.2.2 (Prod.ext (by simp only [wholeD]; omega) (by simp only [wholeD]; omega))
  ·exact hl
 apply Classical.byContradiction
 intro hne
 have hne' : ¬ (k.1 = l.1 ∧ k.2 = l.2) := fun h => hne (Prod.ext h.1 h.2)
 have hd1 : ¬ (d.1 = k.1 ∧ d.2 = k.2) := fun h => e1.2.2.2 (Prod.ext h.1 h.2)
 have hd2 : ¬ (d.1 = l.1 ∧ d.2 = l.2) := fun h => e2.2.2.2 (Prod.ext h.1 h.2)
 by_cases g : k.1 ≤ l.1 ∧ l.2 ≤ k.2
 ·have hl := low k h1.key l h2.key g (Ne.symm hne)
  have g1 := m1 l hl g.1 g.2 (Ne.symm hne)
  have g2 := m2 l hl g.1 g.2 (Ne.symm hne)
  by_cases c1 : l.1 < d.1
  ·exact g1 c1 (by omega)
  ·exact g2 (by omega) (by omega)
 ·have g : l.1 ≤ k.1 ∧ k.2 ≤ l.2 := by omega
  have hk := low l h2.key k h1.key g hne
  have g1 := m3 k hk g.1 g.2 hne
  have g2 := m4 k hk g.1 g.2 hne
  by_cases c1 : k.1 < d.1
  ·exact g1 c1 (by omega)
  ·exact g2 (by omega) (by omega)
theorem more_front {n : Nat} {ds : List Dg} {d k : Dg} (h : MoreD n ds d k) : pcs n (ds ++ [d]) k = (pcs n ds k).filter fun v => decide (v ≤ d.1 ∨ d.2 ≤ v) := by
 have e := h.enc
 refine sorted_ext (pcs_sorted ..) ((pcs_sorted ..).filter _) fun v => ?_
 rw [List.mem_filter, pcs_mem, pcs_mem, decide_eq_true_eq]
 constructor
 ·rintro ⟨h1, h2, h3⟩
  refine ⟨⟨h1, h2, fun d hd => h3 d (by simp [hd])⟩, ?_⟩
  have : ¬ (d.1 < v ∧ v < d.2) := fun ⟨x, y⟩ => h3 d (by simp) e.1 e.2.2.1 e.2.2.2 x y
  omega
 ·rintro ⟨⟨h1, h2, h3⟩, h4⟩
  refine ⟨h1, h2, fun f hf => ?_⟩
  rcases List.mem_append.1 hf with hf | hf
  ·exact h3 f hf
  ·rw [List.mem_singleton] at hf
   subst hf
   intro _ _ _ g4 g5
   omega
theorem more_mid {n : Nat} {ds : List Dg} {d k : Dg} (h : MoreD n ds d k) : pcs n (ds ++ [d]) d = (pcs n ds k).filter fun v => decide (d.1 ≤ v ∧ v ≤ d.2) := by
 have e := h.enc
 have m1 := (pcs_mem.1 h.lo).2.2
 have m2 := (pcs_mem.1 h.hi).2.2
 refine sorted_ext (pcs_sorted ..) ((pcs_sorted ..).filter _) fun v => ?_
 rw [List.mem_filter, pcs_mem, pcs_mem, decide_eq_true_eq]
 constructor
 ·rintro ⟨h1, h2, h3⟩
  refine ⟨⟨h1, by omega, fun f hf g1 g2 g3 g4 g5 => ?_⟩, h2⟩
  have := h.ap (e := f) (by simp [hf])
  have n1 : f ≠ k → ¬ (f.1 < d.1 ∧ d.1 < f.2) := fun g ⟨x, y⟩ => m1 f hf (by omega) (by omega) g x y
  have n2 : f ≠ k → ¬ (f.1 < d.2 ∧ d.2 < f.2) := fun g ⟨x, y⟩ => m2 f hf (by omega) (by omega) g x y
  have n1 := n1 g3
  have n2 := n2 g3
  by_cases c : d.1 ≤ f.1 ∧ f.2 ≤ d.2
  ·by_cases c2 : f = d
   ·subst c2
    exact ((List.pairwise_append.1 h.cut.2).2.2 f hf f (by simp)).1 rfl
   ·exact h3 f (by simp [hf]) c.1 c.2 c2 g4 g5
  ·omega
 ·rintro ⟨⟨h1, h2, h3⟩, h4⟩
  refine ⟨h1, h4, fun f hf g1 g2 g3 g4 g5 => ?_⟩
  rcases List.mem_append.1 hf with hf | hf
  ·refine h3 f hf (by omega) (by omega) (fun hk => ?_) g4 g5
   subst hk
   exact g3 (Prod.ext (by omega) (by omega))
  ·rw [List.mem_singleton] at hf
   exact g3 hf
theorem more_else {n : Nat} {ds : List Dg} {d k l : Dg} (h : MoreD n ds d k) (hl : l ∈ wholeD n :: ds) (hne : l ≠ k) : pcs n (ds ++ [d]) l = pcs n ds l := by
 have e := h.enc
 have hd := h.cut.1 d (by simp)
 refine sorted_ext (pcs_sorted ..) (pcs_sorted ..) fun v => ?_
 rw [pcs_mem, pcs_mem]
 constructor
 ·rintro ⟨h1, h2, h3⟩
  exact ⟨h1, h2, fun d hd => h3 d (by simp [hd])⟩
 ·rintro ⟨h1, h2, h3⟩
  refine ⟨h1, h2, fun f hf g1 g2 g3 g4 g5 => ?_⟩
  rcases List.mem_append.1 hf with hf | hf
  ·exact h3 f hf g1 g2 g3 g4 g5
  ·rw [List.mem_singleton] at hf
   subst hf
   apply hne
   refine more_unique ⟨h.cut, hl, pcs_mem.2 ⟨by omega, by omega, fun g hg i1 i2 i3 i4 i5 => ?_⟩, pcs_mem.2 ⟨by omega, by omega, fun g hg i1 i2 i3 i4 i5 => ?_⟩⟩ h
   ·have a := h.ap (e := g) (by simp [hg])
    exact h3 g hg i1 i2 i3 (by omega) (by omega)
   ·have a := h.ap (e := g) (by simp [hg])
    exact h3 g hg i1 i2 i3 (by omega) (by omega)
def splitD (d : Dg) : List (List Int) → List (List Int)
 | [] => []
 | p :: t => if d.1 ∈ p ∧ d.2 ∈ p then p.filter (fun v => decide (v ≤ d.1 ∨ d.2 ≤ v)) :: (t ++ [p.filter fun v => decide (d.1 ≤ v ∧ v ≤ d.2)]) else p :: splitD d t
theorem splitD_at (d : Dg) : ∀ (out : List (List Int)), (∃ p ∈ out, d.1 ∈ p ∧ d.2 ∈ p) → ∃ l p r, out = l ++ p :: r ∧ d.1 ∈ p ∧ d.2 ∈ p ∧ splitD d out = l ++ p.filter (fun v => decide (v ≤ d.1 ∨ d.2 ≤ v)) :: (r ++ [p.filter fun v => decide (d.1 ≤ v ∧ v ≤ d.2)])
 | [], h => by obtain ⟨p, hp, _⟩ := h; cases hp
 | q :: t, h => by
  by_cases c : d.1 ∈ q ∧ d.2 ∈ q
  ·exact ⟨[], q, t, rfl, c.1, c.2, by rw [splitD, if_pos c]; rfl⟩
  ·obtain ⟨p, hp, h1, h2⟩ := h
   have hp : p ∈ t := by
    rcases List.mem_cons.1 hp with rfl | hp
    ·exact absurd ⟨h1, h2⟩ c
    ·exact hp
   obtain ⟨l, p, r, e, i1, i2, e2⟩ := splitD_at d t ⟨p, hp, h1, h2⟩
   exact ⟨q :: l, p, r, by rw [e]; rfl, i1, i2, by rw [splitD, if_neg c, e2]; rfl⟩
theorem split_perm {n : Nat} {ds : List Dg} {d : Dg} (h : CutD n (ds ++ [d])) {out : List (List Int)} (ho : out.Perm ((wholeD n :: ds).map (pcs n ds))) :
  (splitD d out).Perm ((wholeD n :: (ds ++ [d])).map (pcs n (ds ++ [d]))) := by
 obtain ⟨k, hk⟩ := more_exists h
 have hmem : pcs n ds k ∈ out := ho.mem_iff.2 (List.mem_map_of_mem hk.key)
 obtain ⟨l, p, r, e, h1, h2, e2⟩ := splitD_at d out ⟨_, hmem, hk.lo, hk.hi⟩
 have hp : p = pcs n ds k := by
  have : p ∈ (wholeD n :: ds).map (pcs n ds) := ho.mem_iff.1 (by rw [e]; simp)
  obtain ⟨k', hk', rfl⟩ := List.mem_map.1 this
  rw [more_unique ⟨h, hk', h1, h2⟩ hk]
 obtain ⟨m1, m2, em⟩ := List.append_of_mem hk.key
 have nd := h.front.nodup
 rw [em] at nd
 have els : ∀ l ∈ m1 ++ m2, pcs n (ds ++ [d]) l = pcs n ds l := fun l hl => by
  refine more_else hk ?_ ?_
  ·rw [em]; simp only [List.mem_append, List.mem_cons] at hl ⊢; rcases hl with hl | hl <;> simp [hl]
  ·rintro rfl
   have := (List.perm_middle (a := l) (l₁ := m1) (l₂ := m2)).nodup_iff.1 nd
   exact (List.nodup_cons.1 this).1 hl
 have eg : wholeD n :: (ds ++ [d]) = (m1 ++ k :: m2) ++ [d] := by rw [← em]; rfl
 rw [e2, hp, ← more_front hk, ← more_mid hk, eg]
 have ho' : (l ++ r).Perm ((m1 ++ m2).map (pcs n ds)) := by
  rw [e, hp, em] at ho
  rw [List.map_append, List.map_cons] at ho
  have := (List.perm_middle.symm.trans ho).trans List.perm_middle
  rw [List.map_append]
  exact (List.perm_cons _).1 this
 have hmap : (m1 ++ m2).map (pcs n ds) = (m1 ++ m2).map (pcs n (ds ++ [d])) := List.map_congr_left fun l hl => (els l hl).symm
 rw [hmap] at ho'
 have s1 : (l ++ pcs n (ds ++ [d]) k :: (r ++ [pcs n (ds ++ [d]) d])).Perm (pcs n (ds ++ [d]) k :: pcs n (ds ++ [d]) d :: (l ++ r)) := by
  refine List.perm_middle.trans (List.Perm.cons _ ?_)
  rw [← List.append_assoc]
  exact List.perm_append_singleton _ _
 refine s1.trans ?_
 rw [List.map_append, List.map_append, List.map_cons]
 have s2 : (m1.map (pcs n (ds ++ [d])) ++ pcs n (ds ++ [d]) k :: m2.map (pcs n (ds ++ [d])) ++ [d].map (pcs n (ds ++ [d]))).Perm (pcs n (ds ++ [d]) k :: pcs n (ds ++ [d]) d :: (m1 ++ m2).map (pcs n (ds ++ [d]))) := by
  rw [List.append_assoc, List.cons_append]
  refine List.perm_middle.trans (List.Perm.cons _ ?_)
  rw [← List.append_assoc, List.map_append]
  exact List.perm_append_singleton _ _
 exact ((ho'.cons _).cons _).trans s2.symm
def joinD (n : Nat) (ds : List Dg) (a b : Int) : Bool := decide (b - a = 1) || (decide (b - a = (n : Int) - 1) || decide ((a, b) ∈ ds))
theorem joinD_iff {n : Nat} {ds : List Dg} {a b : Int} : joinD n ds a b = true ↔ b - a = 1 ∨ b - a = (n : Int) - 1 ∨ (a, b) ∈ ds := by
 unfold joinD
 simp only [Bool.or_eq_true, decide_eq_true_eq]
theorem key_low {n : Nat} {ds : List Dg} (h : CutD n ds) (hn : 3 ≤ n) {k : Dg} (hk : k ∈ wholeD n :: ds) : 0 ≤ k.1 ∧ k.1 + 1 < k.2 ∧ k.2 < (n : Int) := by
 rcases List.mem_cons.1 hk with rfl | hk
 ·simp only [wholeD]; omega
 ·have := h.1 k hk; omega
theorem key_ends {n : Nat} {ds : List Dg} (h : CutD n ds) (hn : 3 ≤ n) {k : Dg} (hk : k ∈ wholeD n :: ds) : k.1 ∈ pcs n ds k ∧ k.2 ∈ pcs n ds k := by
 have := key_low h hn hk
 constructor
 ·rw [pcs_mem]; exact ⟨by omega, by omega, fun d hd a b c e f => by omega⟩
 ·rw [pcs_mem]; exact ⟨by omega, by omega, fun d hd a b c e f => by omega⟩
theorem next_corner {n : Nat} {ds : List Dg} (h : CutD n ds) (hn : 3 ≤ n) {k : Dg} (hk : k ∈ wholeD n :: ds) {i c : Int} (hi : i ∈ pcs n ds k) (h1 : i < c) (h2 : c ≤ k.2) (hj : joinD n ds i c = true) (hne : (i, c) ≠ k)
  (hm : ∀ c', c < c' → c' ≤ k.2 → (i, c') ≠ k → joinD n ds i c' = false) : c ∈ pcs n ds k ∧ ∀ v, i < v → v < c → v ∉ pcs n ds k := by
 have hlow := key_low h hn hk
 obtain ⟨i1, i2, i3⟩ := pcs_mem.1 hi
 have hin : c ≠ i + 1 → (i, c) ∈ ds := fun hc => by
  rcases joinD_iff.1 hj with g | g | g
  ·omega
  ·exfalso
   rcases List.mem_cons.1 hk with rfl | hk
   ·simp only [wholeD] at *
    exact hne (Prod.ext (by simp only; omega) (by simp only; omega))
   ·have := (h.1 k hk).2.2.2
    exact this (Prod.ext (by simp only [wholeD]; omega) (by simp only [wholeD]; omega))
  ·exact g
 constructor
 ·rw [pcs_mem]
  refine ⟨by omega, by omega, fun e he g1 g2 g3 g4 g5 => ?_⟩
  have u := i3 e he g1 g2 g3
  by_cases c1 : e.1 < i
  ·exact u c1 (by omega)
  ·by_cases c2 : e.1 = i
   ·have := hm e.2 g5 g2 (fun hh => g3 (by rw [← hh, ← c2]))
    rw [← Bool.not_eq_true] at this
    exact this (joinD_iff.2 (.inr (.inr (by rw [← c2]; exact he))))
   ·have := h.apart (d := (i, c)) (e := e) (by simp [hin (by omega)]) (by simp [he])
    simp only at this
    omega
 ·intro v hv1 hv2 hv
  have hd := hin (by omega)
  exact (pcs_mem.1 hv).2.2 (i, c) hd (by simp only; omega) (by simp only; omega) hne hv1 hv2
theorem after_corner {n : Nat} {ds : List Dg} {k : Dg} {i c : Int} (h1 : i < c) (hc : c ∈ pcs n ds k) (hno : ∀ v, i < v → v < c → v ∉ pcs n ds k) :
  ((pcs n ds k).filter fun v => decide (i < v)) = c :: (pcs n ds k).filter fun v => decide (c < v) := by
 refine sorted_ext ((pcs_sorted ..).filter _) ?_ fun v => ?_
 ·rw [List.pairwise_cons]
  exact ⟨fun v hv => by rw [List.mem_filter, decide_eq_true_eq] at hv; exact hv.2, (pcs_sorted ..).filter _⟩
 ·rw [List.mem_filter, List.mem_cons, List.mem_filter, decide_eq_true_eq, decide_eq_true_eq]
  constructor
  ·rintro ⟨g1, g2⟩
   by_cases e : v = c
   ·exact .inl e
   ·by_cases l : v < c
    ·exact absurd g1 (hno v g2 l)
    ·exact .inr ⟨g1, by omega⟩
  ·rintro (rfl | ⟨g1, g2⟩)
   ·exact ⟨hc, h1⟩
   ·exact ⟨g1, by omega⟩
theorem pcs_first {n : Nat} {ds : List Dg} (h : CutD n ds) (hn : 3 ≤ n) {k : Dg} (hk : k ∈ wholeD n :: ds) : pcs n ds k = k.1 :: (pcs n ds k).filter fun v => decide (k.1 < v) := by
 have he := (key_ends h hn hk).1
 refine sorted_ext (pcs_sorted ..) ?_ fun v => ?_
 ·rw [List.pairwise_cons]
  exact ⟨fun v hv => by rw [List.mem_filter, decide_eq_true_eq] at hv; exact hv.2, (pcs_sorted ..).filter _⟩
 ·rw [List.mem_cons, List.mem_filter, decide_eq_true_eq]
  constructor
  ·intro hv
   have := (pcs_mem.1 hv).2.1
   by_cases e : v = k.1
   ·exact .inl e
   ·exact .inr ⟨hv, by omega⟩
  ·rintro (rfl | ⟨g1, _⟩)
   ·exact he
   ·exact g1
theorem pcs_last (n : Nat) (ds : List Dg) (k : Dg) : ((pcs n ds k).filter fun v => decide (k.2 < v)) = [] := by
 rw [List.filter_eq_nil_iff]
 intro v hv
 have := (pcs_mem.1 hv).2.1
 rw [decide_eq_true_eq]; omega
theorem next_exists {n : Nat} {ds : List Dg} {k : Dg} {i : Int} (hw : k.1 + 1 < k.2) (h1 : i < k.2) :
  ∃ c, i < c ∧ c ≤ k.2 ∧ joinD n ds i c = true ∧ (i, c) ≠ k ∧ ∀ c', c < c' → c' ≤ k.2 → (i, c') ≠ k → joinD n ds i c' = false := by
 have key : ∀ (m : Nat) (t : Int), t = i + 1 + (m : Int) → t ≤ k.2 → (∀ c', t < c' → c' ≤ k.2 → (i, c') ≠ k → joinD n ds i c' = false) →
   ∃ c, i < c ∧ c ≤ k.2 ∧ joinD n ds i c = true ∧ (i, c) ≠ k ∧ ∀ c', c < c' → c' ≤ k.2 → (i, c') ≠ k → joinD n ds i c' = false := by
  intro m
  induction m with
  | zero =>
   intro t ht h2 hm
   refine ⟨t, by omega, h2, joinD_iff.2 (.inl (by omega)), fun e => ?_, hm⟩
   rw [← e] at hw
   simp only at hw
   omega
  | succ m ih =>
   intro t ht h2 hm
   by_cases g : joinD n ds i t = true ∧ (i, t) ≠ k
   ·exact ⟨t, by omega, h2, g.1, g.2, hm⟩
   ·refine ih (t - 1) (by omega) (by omega) fun c' hc1 hc2 hc3 => ?_
    by_cases e : c' = t
    ·subst e
     rw [← Bool.not_eq_true]
     exact fun hj => g ⟨hj, hc3⟩
    ·exact hm c' (by omega) hc2 hc3
 exact key (k.2 - i - 1).toNat k.2 (by omega) (by omega) fun c' a b => by omega
theorem pcs_len {n : Nat} {ds : List Dg} (h : CutD n ds) (hn : 3 ≤ n) {k : Dg} (hk : k ∈ wholeD n :: ds) : 3 ≤ (pcs n ds k).length ∧ (pcs n ds k).length ≤ n := by
 have hlow := key_low h hn hk
 have hends := key_ends h hn hk
 obtain ⟨c, c1, c2, c3, c4, c5⟩ := next_exists (n := n) (ds := ds) (k := k) (i := k.1) hlow.2.1 (by omega)
 obtain ⟨g1, g2⟩ := next_corner h hn hk hends.1 c1 c2 c3 c4 c5
 have hc : c < k.2 := by
  apply Classical.byContradiction
  intro hh
  exact c4 (Prod.ext rfl (by simp only; omega))
 constructor
 ·rw [pcs_first h hn hk, after_corner c1 g1 g2]
  have : k.2 ∈ (pcs n ds k).filter fun v => decide (c < v) := List.mem_filter.2 ⟨hends.2, decide_eq_true hc⟩
  have := List.length_pos_of_mem this
  simp only [List.length_cons]
  omega
 ·have := List.length_filter_le (fun v => decide (k.1 ≤ v ∧ v ≤ k.2) && !covD ds k v) (nameL n)
  rw [nameL_length] at this
  exact this
def keysOf (n : Nat) (ds : List Dg) (a : Nat) : List Dg := ((List.range n).filter fun b => decide (a + 1 < b) && joinD n ds (a : Int) (b : Int)).map fun (b : Nat) => ((a : Int), (b : Int))
def specP (n : Nat) (ds : List Dg) : List (List Int) := ((List.range n).flatMap (keysOf n ds)).map (pcs n ds)
theorem keysOf_mem {n : Nat} {ds : List Dg} {a : Nat} {k : Dg} : k ∈ keysOf n ds a ↔ k.1 = (a : Int) ∧ (a : Int) + 1 < k.2 ∧ k.2 < (n : Int) ∧ joinD n ds k.1 k.2 = true := by
 unfold keysOf
 rw [List.mem_map]
 constructor
 ·rintro ⟨b, hb, rfl⟩
  rw [List.mem_filter, List.mem_range, Bool.and_eq_true, decide_eq_true_eq] at hb
  exact ⟨rfl, by simp only; omega, by simp only; omega, hb.2.2⟩
 ·rintro ⟨h1, h2, h3, h4⟩
  refine ⟨k.2.toNat, ?_, Prod.ext h1.symm (by simp only; omega)⟩
  rw [List.mem_filter, List.mem_range, Bool.and_eq_true, decide_eq_true_eq]
  refine ⟨by omega, by omega, ?_⟩
  rw [Int.toNat_of_nonneg (by omega), ← h1]
  exact h4
theorem specP_perm {n : Nat} {ds : List Dg} (h : CutD n ds) (hn : 3 ≤ n) : (specP n ds).Perm ((wholeD n :: ds).map (pcs n ds)) := by
 unfold specP
 refine List.Perm.map _ ((List.perm_ext_iff_of_nodup ?_ h.nodup).2 fun k => ?_)
 ·show List.Pairwise _ _
  rw [List.pairwise_flatMap]
  refine ⟨fun a _ => ?_, ?_⟩
  ·unfold keysOf
   rw [List.pairwise_map]
   refine (List.nodup_range.filter _).imp fun {x y} hxy e => hxy ?_
   have := congrArg Prod.snd e
   simp only at this
   omega
  ·refine List.nodup_range.imp fun {x y} hxy p hp q hq e => hxy ?_
   have h1 := (keysOf_mem.1 hp).1
   have h2 := (keysOf_mem.1 hq).1
   subst e
   omega
 ·rw [List.mem_flatMap]
  constructor
  ·rintro ⟨a, ha, hk⟩
   obtain ⟨h1, h2, h3, h4⟩ := keysOf_mem.1 hk
   rw [List.mem_cons]
   rcases joinD_iff.1 h4 with g | g | g
   ·omega
   ·exact .inl (Prod.ext (by simp only [wholeD]; omega) (by simp only [wholeD]; omega))
   ·exact .inr g
  ·intro hk
   have := key_low h hn hk
   refine ⟨k.1.toNat, List.mem_range.2 (by omega), keysOf_mem.2 ⟨by omega, by omega, by omega, joinD_iff.2 ?_⟩⟩
   rcases List.mem_cons.1 hk with rfl | hk
   ·exact .inr (.inl (by simp only [wholeD]; omega))
   ·exact .inr (.inr hk)
def implP (n : Nat) (ds : List Dg) : List (List Int) := ds.foldl (fun out d => splitD d out) [nameL n]
theorem implP_perm (n : Nat) (hn : 3 ≤ n) (ds : List Dg) (h : CutD n ds) : (implP n ds).Perm ((wholeD n :: ds).map (pcs n ds)) := by
 have key : ∀ (es ds : List Dg) (out : List (List Int)), CutD n (ds ++ es) → out.Perm ((wholeD n :: ds).map (pcs n ds)) → (es.foldl (fun out d => splitD d out) out).Perm ((wholeD n :: (ds ++ es)).map (pcs n (ds ++ es))) := by
  intro es
  induction es with
  | nil => intro ds out _ ho; simpa using ho
  | cons d es ih =>
   intro ds out hc ho
   have e : ds ++ d :: es = (ds ++ [d]) ++ es := by simp
   rw [e] at hc ⊢
   exact ih (ds ++ [d]) (splitD d out) hc (split_perm hc.front ho)
 have := key ds [] [nameL n] (by simpa using h) (by
  have : pcs n [] (wholeD n) = nameL n := by
   unfold pcs covD wholeD
   rw [List.filter_eq_self]
   intro v hv
   have := nameL_mem hv
   simp; omega
  simp [this])
 simpa [implP] using this
theorem pieces_same {n : Nat} {ds : List Dg} (hn : 3 ≤ n) (h : CutD n ds) : (implP n ds).Perm (specP n ds) := (implP_perm n hn ds h).trans (specP_perm h hn).symm
theorem implP_len {n : Nat} {ds : List Dg} (hn : 3 ≤ n) (h : CutD n ds) {p : List Int} (hp : p ∈ implP n ds) : 3 ≤ p.length ∧ p.length ≤ n := by
 obtain ⟨k, hk, rfl⟩ := List.mem_map.1 ((implP_perm n hn ds h).mem_iff.1 hp)
 exact pcs_len h hn hk
theorem implP_count {n : Nat} {ds : List Dg} (hn : 3 ≤ n) (h : CutD n ds) : (implP n ds).length = ds.length + 1 := by
 have := (implP_perm n hn ds h).length_eq
 simpa using this
theorem bad_iff (n : Int) (ds : List Dg) : (!(List.range ds.length).any (badT n ds)) = true ↔ (∀ d ∈ ds, inDg n d = true) ∧ ds.Pairwise (fun d e => ltD d e = true ∧ crossD e d = false) := by
 rw [Bool.not_eq_true', List.any_eq_false]
 simp only [List.mem_range, badT, Bool.or_eq_true, Bool.not_eq_true', Bool.and_eq_true, decide_eq_true_eq, not_or, not_and, Bool.not_eq_false, Bool.not_eq_true]
 have ltT : ∀ {a b c : Dg}, ltD a b = true → ltD b c = true → ltD a c = true := by
  intro a b c h1 h2; rw [ltD_iff] at *; omega
 constructor
 ·intro h
  refine ⟨fun d hd => ?_, ?_⟩
  ·obtain ⟨k, hk, e⟩ := List.getElem_of_mem hd
   have := (h k hk).1.1
   rwa [gD_eq hk, e] at this
  ·have up : ∀ m p, p + m + 1 < ds.length → ltD (gD ds p) (gD ds (p + m + 1)) = true := by
    intro m
    induction m with
    | zero => intro p hp; have := (h (p + 1) hp).1.2 (by omega); simpa using this
    | succ m ih =>
     intro p hp
     have := (h (p + m + 1 + 1) (by omega)).1.2 (by omega)
     rw [show p + m + 1 + 1 - 1 = p + m + 1 by omega] at this
     have e2 := ltT (ih p (by omega)) this
     rwa [show p + (m + 1) + 1 = p + m + 1 + 1 by omega]
   rw [List.pairwise_iff_getElem]
   intro p q hp hq hpq
   have h2' := up (q - p - 1) p (by omega)
   rw [show p + (q - p - 1) + 1 = q by omega, gD_eq hp, gD_eq hq] at h2'
   refine ⟨h2', ?_⟩
   have := (h q hq).2
   rw [List.any_eq_false] at this
   have := this ds[p] (List.mem_take_iff_getElem.2 ⟨p, by omega, rfl⟩)
   rw [gD_eq hq] at this
   simpa using this
 ·rintro ⟨g1, g2⟩ k hk
  rw [List.pairwise_iff_getElem] at g2
  refine ⟨⟨by rw [gD_eq hk]; exact g1 _ (List.getElem_mem hk), fun hk0 => ?_⟩, ?_⟩
  ·rw [gD_eq hk, gD_eq (show k - 1 < ds.length by omega)]
   exact (g2 (k - 1) k (by omega) hk (by omega)).1
  ·rw [List.any_eq_false]
   intro e he
   obtain ⟨p, hp, e'⟩ := List.mem_take_iff_getElem.1 he
   have := (g2 p k (by omega) hk (by omega)).2
   rw [e', ← gD_eq hk] at this
   simpa using this
def isCut (n : Int) (ds : List Dg) : Bool := inB 3 12 n && decide ((ds.length : Int) ≤ n - 3) && !(List.range ds.length).any (badT n ds)
theorem isCut_cut {n : Int} {ds : List Dg} (h : isCut n ds = true) : ∃ k : Nat, n = (k : Int) ∧ 3 ≤ k ∧ k ≤ 12 ∧ ds.length + 3 ≤ k ∧ CutD k ds := by
 unfold isCut at h
 rw [Bool.and_eq_true, Bool.and_eq_true, inB_iff, decide_eq_true_eq, bad_iff] at h
 obtain ⟨⟨h1, h2⟩, h3, h4⟩ := h
 obtain ⟨k, rfl⟩ := Int.eq_ofNat_of_zero_le (show 0 ≤ n by omega)
 refine ⟨k, rfl, by omega, by omega, by omega, fun d hd => ?_, h4.imp fun {d e} hde => ⟨fun he => ?_, ?_⟩⟩
 ·have := h3 d hd
  unfold inDg at this
  simp only [Bool.and_eq_true, inB_iff, decide_eq_true_eq, Bool.not_eq_true'] at this
  obtain ⟨⟨⟨g1, g2⟩, g3⟩, g4⟩ := this
  refine ⟨by omega, by omega, by omega, fun e => ?_⟩
  rw [e] at g4
  simp [wholeD] at g4
 ·subst he
  have := ltD_iff.1 hde.1
  omega
 ·rw [crossD_comm]; exact hde.2
theorem filter_mid (p : List Int) (f : Int → Bool) (i j : Nat) (hij : i ≤ j) (hj : j ≤ p.length) (h1 : ∀ x (h : x < p.length), x < i → f p[x] = false) (h2 : ∀ x (h : x < p.length), i ≤ x → x < j → f p[x] = true) (h3 : ∀ x (h : x < p.length), j ≤ x → f p[x] = false) :
  p.filter f = (p.drop i).take (j - i) := by
 have e : p.take i ++ ((p.drop i).take (j - i) ++ p.drop j) = p := by
  have : (p.drop i).drop (j - i) = p.drop j := by rw [List.drop_drop]; congr 1; omega
  rw [← this, List.take_append_drop, List.take_append_drop]
 have h := congrArg (List.filter f) e
 rw [List.filter_append, List.filter_append, List.filter_eq_nil_iff.2, List.filter_eq_self.2, List.filter_eq_nil_iff.2, List.nil_append, List.append_nil] at h
 ·exact h.symm
 ·intro v hv
  obtain ⟨x, hx, rfl⟩ := List.mem_drop_iff_getElem.1 hv
  rw [h3 (j + x) (by omega) (by omega)]; simp
 ·intro v hv
  obtain ⟨x, hx, rfl⟩ := List.mem_take_iff_getElem.1 hv
  rw [List.getElem_drop]
  rw [List.length_drop] at hx
  exact h2 (i + x) (by omega) (by omega) (by omega)
 ·intro v hv
  obtain ⟨x, hx, rfl⟩ := List.mem_take_iff_getElem.1 hv
  rw [h1 x (by omega) (by omega)]; simp
theorem filter_out (p : List Int) (f : Int → Bool) (i j : Nat) (hij : i ≤ j) (hj : j ≤ p.length) (h1 : ∀ x (h : x < p.length), x < i → f p[x] = true) (h2 : ∀ x (h : x < p.length), i ≤ x → x < j → f p[x] = false) (h3 : ∀ x (h : x < p.length), j ≤ x → f p[x] = true) :
  p.filter f = p.take i ++ p.drop j := by
 have e : p.take i ++ ((p.drop i).take (j - i) ++ p.drop j) = p := by
  have : (p.drop i).drop (j - i) = p.drop j := by rw [List.drop_drop]; congr 1; omega
  rw [← this, List.take_append_drop, List.take_append_drop]
 have h := congrArg (List.filter f) e
 rw [List.filter_append, List.filter_append, List.filter_eq_self.2, List.filter_eq_nil_iff.2, List.filter_eq_self.2, List.nil_append] at h
 ·exact h.symm
 ·intro v hv
  obtain ⟨x, hx, rfl⟩ := List.mem_drop_iff_getElem.1 hv
  exact h3 (j + x) (by omega) (by omega)
 ·intro v hv
  obtain ⟨x, hx, rfl⟩ := List.mem_take_iff_getElem.1 hv
  rw [List.length_drop] at hx
  rw [List.getElem_drop, h2 (i + x) (by omega) (by omega) (by omega)]; simp
 ·intro v hv
  obtain ⟨x, hx, rfl⟩ := List.mem_take_iff_getElem.1 hv
  exact h1 x (by omega) (by omega)
theorem sorted_lt {p : List Int} (hs : p.Pairwise (· < ·)) {i j : Nat} (hi : i < p.length) (hj : j < p.length) : p[i] < p[j] ↔ i < j := by
 have h := List.pairwise_iff_getElem.1 hs
 constructor
 ·intro hlt
  rcases Nat.lt_trichotomy i j with c | c | c
  ·exact c
  ·subst c; omega
  ·have := h j i hj hi c; omega
 ·exact fun c => h i j hi hj c
theorem idxI_no {v : Int} {p : List Int} (h : v ∉ p) : idxI (fun x => v == x) p = -1 := by
 unfold idxI
 have : p.findIdx? (fun x => v == x) = none := by
  rw [List.findIdx?_eq_none_iff]
  intro x hx
  rw [beq_eq_false_iff_ne]
  rintro rfl
  exact h hx
 rw [this]
theorem idxI_yes {v : Int} {p : List Int} (h : v ∈ p) : ∃ i, ∃ hi : i < p.length, p[i] = v ∧ idxI (fun x => v == x) p = (i : Int) := by
 unfold idxI
 cases hf : p.findIdx? (fun x => v == x) with
 | none =>
  rw [List.findIdx?_eq_none_iff] at hf
  have := hf v h
  simp at this
 | some i =>
  obtain ⟨h1, h2, _⟩ := List.findIdx?_eq_some_iff_getElem.1 hf
  exact ⟨i, h1, (eq_of_beq h2).symm, rfl⟩
def F40_sh : FSh := ⟨[(.one (.sl (.int .i64) false false)), (.one (.si .i64))], []⟩
def F40_L2_sh : LSh := ⟨(fun ex => match ex with | .norm => [(0, none), (1, none), (7, none), (8, none)] | .exit i => if i = 0 then [] else [] | .ret => [(4, none)]), [(0, (.one (.sl (.int .i64) false false))), (1, (.one (.si .i64))), (7, (.one (.si .i64))), (8, (.one (.si .i64)))], [], [⟨.ret, [(4, (.one (.si .i64)))], []⟩, ⟨(.exit 0), [], []⟩], [], []⟩
noncomputable def F40_L2_step : (List (Int) × Int × Int × Int) → T ((List (Int) × Int × Int × Int) ⊕ (Int ⊕ Unit)) := fun (s, v, t7, t8) =>
 (.test (decide (t8 < t7))
 (.test (decide ((0 ≤ t8) ∧ (t8 < (s.length : Int))))
 (.sub (s[(Int.toNat t8)]?) fun z0 =>
 (.test (v == z0)
 (.ret (Sum.inr (Sum.inl t8)))
 (.ret (Sum.inl (s, (v, (t7, (w64 (t8 + 1)))))))))
 .fail)
 (.ret (Sum.inr (Sum.inr ()))))
noncomputable def F40_L2 (v) := loopO (fun v => (F40_L2_step v).run) v
def F40_fo : List FO := [⟨[(.one (.si .i64))], []⟩]
noncomputable def F40_t : (List (Int) × Int) → T Int := fun (s, v) =>
 (.sub (F40_L2 (s, (v, ((s.length : Int), (0 : Int))))) fun z0 =>
 (.test (Sum.isLeft z0)
 (.sub (Sum.getLeft? z0) fun z1 =>
 (.ret z1))
 (.sub (Sum.getRight? z0) fun z2 =>
 (.ret (-1)))))
noncomputable def F40 (v) := (F40_t v).run
noncomputable def F40_E : TEnv := E0
theorem F40_Eok : (F40_E).OK := E0ok
noncomputable def F40_told : Nat → Option SealT := fun id => if id = 2 then some (LSh.told F40_L2_sh 0 (F40_L2_step)) else none
theorem F40_L2_ok : ToldOK Tryz.prog 0 (loopAt (bodyOf fn_F40) [0]) (LSh.told F40_L2_sh 0 (F40_L2_step)) :=
 loop_ok (E := F40_E) (F40_Eok) (told := F40_told) (l := F40_L2_sh) (step := F40_L2_step) (loopsOK_of (ls := []) (by kernel_rfl) trivial) (by kernel_rfl) (fun v => by kernel_rfl)
theorem F40_ok : FOK Tryz.prog n_F40 F40_sh F40_fo F40 :=
 fn_ok (E := F40_E) (F40_Eok) (told := F40_told) (fl := []) (c := bodyOf fn_F40) (s := F40_sh) (l := F40_fo) (tree := F40_t) fnat_F40 (by kernel_rfl) (by kernel_rfl) (by kernel_rfl) (loopsOK_of (ls := [loopAt (bodyOf fn_F40) [0]]) (by kernel_rfl) ⟨.inr ⟨_, by kernel_rfl, F40_L2_ok⟩, trivial⟩) (fun v => by kernel_rfl)
theorem F40_eq (s : List Int) (v : Int) (hl : s.length < 4611686018427387904) : F40 (s, v) = some (idxI (fun x => v == x) s) := by
 have h := loop_find (step := fun v => (F40_L2_step v).run) (xs := s) (fun x => v == x) (fun k => (s, (v, ((s.length : Int), (k : Int))))) (fun k => .inl (k : Int)) (.inr ())
  (fun k x hx => by
   have hlt := getElem?_lt hx
   have h1 : (k : Int) < (s.length : Int) := by omega
   have h2 : (0 : Int) ≤ k ∧ (k : Int) < (s.length : Int) := by omega
   simp only [F40_L2_step, T.run, Int.toNat_natCast, hx, Option.bind_some, h1, h2, decide_true, if_true, and_self]
   rw [w64_id (z := (k : Int) + 1) (by omega) (by omega)]
   cases hv : (v == x) <;> simp [hv])
  (by simp [F40_L2_step, T.run])
 rw [show ((0 : Nat) : Int) = 0 from rfl] at h
 simp only [F40, F40_t, T.run, F40_L2]
 rw [h]
 simp only [idxI]
 cases hf : s.findIdx? (fun x => v == x) <;> simp [Sum.isLeft, hf]
def F43_sh : FSh := ⟨[.one (.nl true true), .one (.si .i64)], []⟩
def F43_fo : List FO := [⟨[.one (.rw 0 0)], [.row 0 (.int .i64)]⟩]
def F43 (v : Unit × Int) : Option (Unit × List Int) := if 0 ≤ v.2 ∧ v.2 ≤ 1000000000000 ∧ v.2.toNat * 8 ≤ 140737488355328 then some ((), []) else none
def F43_ren : Shelf.Ren := ⟨fun _ => n_F43, fun t => if t = 0 then 0 else if t = 4 then 4 else if t = 9 then 9 else if t = 20 then 20 else if t = 22 then 24 else 3, fun x => x⟩
theorem F43_lay : Lays8.n4 Tryz.prog F43_ren :=
 { f4 := ⟨"slices.Grow[[]int,int]", by kernel_rfl, by kernel_rfl⟩, mixed := by kernel_rfl, t0 := by kernel_rfl, a0 := fun w => by kernel_rfl, z0 := fun w => by kernel_rfl, v0 := fun w => by kernel_rfl, t3 := by kernel_rfl, a3 := fun w => by kernel_rfl, z3 := fun w => by kernel_rfl, v3 := fun w => by kernel_rfl, t4 := by kernel_rfl, a4 := fun w => by kernel_rfl, z4 := fun w => by kernel_rfl, v4 := fun w => by kernel_rfl, t9 := by kernel_rfl, a9 := fun w => by kernel_rfl, z9 := fun w => by kernel_rfl, v9 := fun w => by kernel_rfl, t20 := by kernel_rfl, a20 := fun w => by kernel_rfl, z20 := fun w => by kernel_rfl, v20 := fun w => by kernel_rfl, t22 := by kernel_rfl, a22 := fun w => by kernel_rfl, z22 := fun w => by kernel_rfl, v22 := fun w => by kernel_rfl }
noncomputable def F43_info : TypeInfo := (Tryz.prog.info? 3).get (by kernel_rfl)
theorem F43_ok : FOK Tryz.prog n_F43 F43_sh F43_fo F43 :=
 grow_ok ⟨_, fnat_F43, by kernel_rfl, by kernel_rfl⟩ (ρr := F43_ren) rfl F43_lay (.int .i64) F43_info (.int .i64 0) (by kernel_rfl) (by kernel_rfl) (by kernel_rfl) (by decide) 8 (by kernel_rfl)
def F33_sh : FSh := ⟨[(.one (.sl (.list true (.int .i64)) false false))], []⟩
def F33_L3_sh : LSh := ⟨(fun ex => match ex with | .norm => [(0, none), (3, none), (9, none), (10, none), (11, none)] | .exit i => if i = 0 then [(0, none), (3, none)] else [] | .ret => [(2, none)]), [(0, (.one (.sl (.list true (.int .i64)) false false))), (3, (.one (.si .i64))), (9, (.one (.sl (.list true (.int .i64)) false false))), (10, (.one (.si .i64))), (11, (.one (.si .i64)))], [], [⟨(.exit 0), [(0, (.one (.sl (.list true (.int .i64)) false false))), (3, (.one (.si .i64)))], []⟩], [], []⟩
noncomputable def F33_L3_step : (List (List (Int)) × Int × List (List (Int)) × Int × Int) → T ((List (List (Int)) × Int × List (List (Int)) × Int × Int) ⊕ (List (List (Int)) × Int)) := fun (slices, size, t9, t10, t11) =>
 (.test (decide (t11 < t10))
 (.test (decide ((0 ≤ t11) ∧ (t11 < (t9.length : Int))))
 (.sub (t9[(Int.toNat t11)]?) fun z0 =>
 (.test (decide ((w64 (size + (z0.length : Int))) < 0))
 .fail
 (.ret (Sum.inl (slices, ((w64 (size + (z0.length : Int))), (t9, (t10, (w64 (t11 + 1))))))))))
 .fail)
 (.ret (Sum.inr (slices, size))))
noncomputable def F33_L3 (v) := loopO (fun v => (F33_L3_step v).run) v
def F33_L11_sh : LSh := ⟨(fun ex => match ex with | .norm => [(6, none), (25, none), (26, none), (27, none)] | .exit i => if i = 2 then [(6, none)] else [] | .ret => [(2, none)]), [(6, (.one (.rw 0 0))), (25, (.one (.sl (.list true (.int .i64)) false false))), (26, (.one (.si .i64))), (27, (.one (.si .i64)))], [(.row 0 (.int .i64))], [⟨(.exit 2), [(6, (.one (.rw 0 0)))], [(.row 0 (.int .i64))]⟩], [], []⟩
noncomputable def F33_L11_step : ((Unit × List (List (Int)) × Int × Int) × List (Int)) → T (((Unit × List (List (Int)) × Int × Int) × List (Int)) ⊕ (Unit × List (Int))) := fun (((), t25, t26, t27), newslice) =>
 (.test (decide (t27 < t26))
 (.test (decide ((0 ≤ t27) ∧ (t27 < (t25.length : Int))))
 (.sub (t25[(Int.toNat t27)]?) fun z0 =>
 (.test (decide ((0 + newslice.length) ≤ newslice.length))
 (.test (decide ((2 * ((newslice.length + z0.length) * 9)) ≤ 140737488355328))
 (.test (decide ((0 = 0) ∧ ((newslice.length + z0.length) = (List.length ((win newslice 0 newslice.length) ++ z0)))))
 (.ret (Sum.inl (((), (t25, (t26, (w64 (t27 + 1))))), ((win newslice 0 newslice.length) ++ z0))))
 .fail)
 .fail)
 .fail))
 .fail)
 (.test (decide ((0 = 0) ∧ (newslice.length = newslice.length)))
 (.ret (Sum.inr ((), newslice)))
 .fail))
noncomputable def F33_L11 (v) := loopO (fun v => (F33_L11_step v).run) v
def F33_fo : List FO := [⟨[(.one (.rw 0 0))], [(.row 0 (.int .i64))]⟩]
noncomputable def F33_t : List (List (Int)) → T (Unit × List (Int)) := fun slices =>
 (.sub (F33_L3 (slices, ((0 : Int), (slices, ((slices.length : Int), (0 : Int)))))) fun z0 =>
 (.sub (F43 ((), z0.2)) fun z1 =>
 (.test (decide ((0 = 0) ∧ (z1.2.length = z1.2.length)))
 (.sub (F33_L11 (((), (z0.1, ((z0.1.length : Int), (0 : Int)))), z1.2)) fun z2 =>
 (.test (decide ((0 = 0) ∧ (z2.2.length = z2.2.length)))
 (.ret ((), z2.2))
 .fail))
 .fail)))
noncomputable def F33 (v) := (F33_t v).run
noncomputable def F33_E : TEnv := (E0.add1 n_F43 F43_sh F43_fo F43)
theorem F33_Eok : (F33_E).OK := (E0ok.add1 F43_ok)
noncomputable def F33_told : Nat → Option SealT := fun id => if id = 3 then some (LSh.told F33_L3_sh 0 (F33_L3_step)) else if id = 11 then some (LSh.told F33_L11_sh 0 (F33_L11_step)) else none
theorem F33_L3_ok : ToldOK Tryz.prog 0 (loopAt (bodyOf fn_F33) [0]) (LSh.told F33_L3_sh 0 (F33_L3_step)) :=
 loop_ok (E := F33_E) (F33_Eok) (told := F33_told) (l := F33_L3_sh) (step := F33_L3_step) (loopsOK_of (ls := []) (by kernel_rfl) trivial) (by kernel_rfl) (fun v => by kernel_rfl)
theorem F33_L11_ok : ToldOK Tryz.prog 0 (loopAt (bodyOf fn_F33) [1]) (LSh.told F33_L11_sh 0 (F33_L11_step)) :=
 loop_ok (E := F33_E) (F33_Eok) (told := F33_told) (l := F33_L11_sh) (step := F33_L11_step) (loopsOK_of (ls := []) (by kernel_rfl) trivial) (by kernel_rfl) (fun v => by kernel_rfl)
theorem F33_ok : FOK Tryz.prog n_F33 F33_sh F33_fo F33 :=
 fn_ok (E := F33_E) (F33_Eok) (told := F33_told) (fl := []) (c := bodyOf fn_F33) (s := F33_sh) (l := F33_fo) (tree := F33_t) fnat_F33 (by kernel_rfl) (by kernel_rfl) (by kernel_rfl) (loopsOK_of (ls := [loopAt (bodyOf fn_F33) [0], loopAt (bodyOf fn_F33) [1]]) (by kernel_rfl) ⟨.inr ⟨_, by kernel_rfl, F33_L3_ok⟩, ⟨.inr ⟨_, by kernel_rfl, F33_L11_ok⟩, trivial⟩⟩) (fun v => by kernel_rfl)
theorem F33_two (a b : List Int) (hl : a.length + b.length ≤ 1000) : F33 [a, b] = some ((), a ++ b) := by
 have h3 : F33_L3 ([a, b], ((0 : Int), ([a, b], ((2 : Int), (0 : Int))))) = some ([a, b], ((a.length + b.length : Nat) : Int)) := by
  simp only [F33_L3]
  have w0 : w64 (a.length : Int) = (a.length : Int) := w64_id (by omega) (by omega)
  have w1 : w64 (1 : Int) = 1 := w64_id (by omega) (by omega)
  have w2 : w64 ((a.length : Int) + (b.length : Int)) = ((a.length + b.length : Nat) : Int) := by rw [w64_id (by omega) (by omega)]; omega
  have w3 : w64 ((1 : Int) + 1) = 2 := w64_id (by omega) (by omega)
  have c0 : ¬ ((a.length : Int) < 0) := by omega
  have c1 : ¬ (((a.length + b.length : Nat) : Int) < 0) := by omega
  have s1 : (F33_L3_step ([a, b], ((0 : Int), ([a, b], ((2 : Int), (0 : Int)))))).run = some (.inl ([a, b], ((a.length : Int), ([a, b], ((2 : Int), (1 : Int)))))) := by
   simp [F33_L3_step, T.run, w0, w1, c0]
  have s2 : (F33_L3_step ([a, b], ((a.length : Int), ([a, b], ((2 : Int), (1 : Int)))))).run = some (.inl ([a, b], (((a.length + b.length : Nat) : Int), ([a, b], ((2 : Int), (2 : Int)))))) := by
   simp only [F33_L3_step, T.run, w2, w3]
   simp [c1]
   omega
  have s3 : (F33_L3_step ([a, b], (((a.length + b.length : Nat) : Int), ([a, b], ((2 : Int), (2 : Int)))))).run = some (.inr ([a, b], ((a.length + b.length : Nat) : Int))) := by
   simp [F33_L3_step, T.run]
  rw [loopO_next s1, loopO_next s2, loopO_done s3]
 have hg : F43 ((), ((a.length + b.length : Nat) : Int)) = some ((), []) := by
  unfold F43
  rw [if_pos ⟨by simp only []; omega, by simp only []; omega, by simp only []; omega⟩]
 have h11 : F33_L11 (((), ([a, b], ((2 : Int), (0 : Int)))), ([] : List Int)) = some ((), a ++ b) := by
  simp only [F33_L11]
  have w1 : w64 (1 : Int) = 1 := w64_id (by omega) (by omega)
  have w3 : w64 (2 : Int) = 2 := w64_id (by omega) (by omega)
  have c0 : 2 * (a.length * 9) ≤ 140737488355328 := by omega
  have c1 : 2 * ((a.length + b.length) * 9) ≤ 140737488355328 := by omega
  have hw : win ([] : List Int) 0 0 = [] := rfl
  have s1 : (F33_L11_step (((), ([a, b], ((2 : Int), (0 : Int)))), ([] : List Int))).run = some (.inl (((), ([a, b], ((2 : Int), (1 : Int)))), a)) := by
   simp [F33_L11_step, T.run, w1, c0, hw]
  have s2 : (F33_L11_step (((), ([a, b], ((2 : Int), (1 : Int)))), a)).run = some (.inl (((), ([a, b], ((2 : Int), (2 : Int)))), a ++ b)) := by
   simp [F33_L11_step, T.run, w3, c1, win_all]
  have s3 : (F33_L11_step (((), ([a, b], ((2 : Int), (2 : Int)))), a ++ b)).run = some (.inr ((), a ++ b)) := by
   simp [F33_L11_step, T.run]
  rw [loopO_next s1, loopO_next s2, loopO_done s3]
 simp only [F33, F33_t, T.run, List.length_cons, List.length_nil]
 have e2 : ((0 + 1 + 1 : Nat) : Int) = 2 := rfl
 simp only [e2, h3, Option.bind_some, hg, List.length_nil, true_and, decide_true, if_true, List.length_cons, h11]
def F41_sh : FSh := ⟨[.one (.sl (.int .i64) false false)], []⟩
def F41_fo : List FO := [⟨[.one (.rw 0 0)], [.row 0 (.int .i64)]⟩]
def F41 (v : List Int) : Option (Unit × List Int) := if v.length ≤ maxLen ∧ v.length * 8 ≤ 140737488355328 then some ((), v) else none
def F41_ren : Shelf.Ren := ⟨fun _ => n_F41, fun t => if t = 4 then 4 else if t = 22 then 24 else 3, fun x => x⟩
theorem F41_lay : SlLaysE0.n41 Tryz.prog F41_ren :=
 { mixed := by kernel_rfl, f41 := ⟨"slices.Clone[[]int,int]", by kernel_rfl, by kernel_rfl⟩, t4 := by kernel_rfl, a4 := fun w => by kernel_rfl, z4 := fun w => by kernel_rfl, v4 := fun w => by kernel_rfl, t22 := by kernel_rfl, a22 := fun w => by kernel_rfl, z22 := fun w => by kernel_rfl, v22 := fun w => by kernel_rfl }
noncomputable def F41_info : TypeInfo := (Tryz.prog.info? 3).get (by kernel_rfl)
theorem F41_ok : FOK Tryz.prog n_F41 F41_sh F41_fo F41 :=
 clone_ok (e := .int .i64) ⟨_, fnat_F41, by kernel_rfl, by kernel_rfl⟩ (ρr := F41_ren) rfl F41_lay rfl F41_info (.int .i64 0) 8 (by kernel_rfl) (by kernel_rfl) (by kernel_rfl) (by kernel_rfl) (by decide) (by decide) (fun w => by kernel_rfl)
def F6_sh : FSh := ⟨[.one (.rw 0 0), .one (.fn n_F32)], [.row 0 (.list true (.int .i64))]⟩
def F6_fo : List FO := [⟨[], [.row 0 (.list true (.int .i64))]⟩]
def F6 (v : (Unit × Unit) × List (List Int)) : Option (Unit × List (List Int)) := if v.2.length < 4611686018427387904 ∧ v.2.all (fun l => decide (l.length ≤ 9223372036854775807)) = true then some ((), sortLL v.2) else none
def F6_ren : Shelf.Ren := ⟨fun k => if k = 14 then 231 else if k = 15 then 225 else if k = 20 then 254 else if k = 21 then 255 else if k = 22 then 256 else if k = 23 then 257 else if k = 24 then 258 else if k = 25 then 259 else if k = 26 then 260 else if k = 27 then 261 else if k = 28 then 240 else if k = 29 then 241 else if k = 46 then 270 else if k = 47 then 263 else if k = 48 then 264 else if k = 49 then 271 else if k = 50 then 272 else if k = 57 then 275 else 218, fun t => if t = 0 then 0 else if t = 4 then 4 else if t = 5 then 5 else if t = 9 then 9 else if t = 22 then 26 else if t = 24 then 24 else if t = 25 then 147 else if t = 39 then 151 else if t = 45 then 159 else if t = 46 then 160 else if t = 50 then 29 else if t = 53 then 166 else if t = 55 then 104 else if t = 66 then 182 else if t = 70 then 186 else if t = 76 then 192 else if t = 77 then 75 else 3, fun x => x⟩
theorem F6_lay : SlLaysF.n6 Tryz.prog F6_ren :=
 { mixed := by kernel_rfl, f6 := ⟨"slices.SortFunc[[][]int,[]int]", by kernel_rfl, by kernel_rfl⟩, f14 := ⟨"slices.pdqsortCmpFunc[[]int]", by kernel_rfl, by kernel_rfl⟩, f15 := by kernel_rfl, f20 := ⟨"slices.insertionSortCmpFunc[[]int]", by kernel_rfl, by kernel_rfl⟩, f21 := ⟨"slices.heapSortCmpFunc[[]int]", by kernel_rfl, by kernel_rfl⟩, f22 := ⟨"slices.breakPatternsCmpFunc[[]int]", by kernel_rfl, by kernel_rfl⟩, f23 := ⟨"slices.choosePivotCmpFunc[[]int]", by kernel_rfl, by kernel_rfl⟩, f24 := ⟨"slices.reverseRangeCmpFunc[[]int]", by kernel_rfl, by kernel_rfl⟩, f25 := ⟨"slices.partialInsertionSortCmpFunc[[]int]", by kernel_rfl, by kernel_rfl⟩, f26 := ⟨"slices.partitionEqualCmpFunc[[]int]", by kernel_rfl, by kernel_rfl⟩, f27 := ⟨"slices.partitionCmpFunc[[]int]", by kernel_rfl, by kernel_rfl⟩, f28 := by kernel_rfl, f29 := by kernel_rfl, f46 := ⟨"slices.siftDownCmpFunc[[]int]", by kernel_rfl, by kernel_rfl⟩, f47 := by kernel_rfl, f48 := by kernel_rfl, f49 := ⟨"slices.medianAdjacentCmpFunc[[]int]", by kernel_rfl, by kernel_rfl⟩, f50 := ⟨"slices.medianCmpFunc[[]int]", by kernel_rfl, by kernel_rfl⟩, f57 := ⟨"slices.order2CmpFunc[[]int]", by kernel_rfl, by kernel_rfl⟩, t0 := by kernel_rfl, a0 := fun w => by kernel_rfl, z0 := fun w => by kernel_rfl, v0 := fun w => by kernel_rfl, t3 := by kernel_rfl, a3 := fun w => by kernel_rfl, z3 := fun w => by kernel_rfl, v3 := fun w => by kernel_rfl, t4 := by kernel_rfl, a4 := fun w => by kernel_rfl, z4 := fun w => by kernel_rfl, v4 := fun w => by kernel_rfl, t5 := by kernel_rfl, a5 := fun w => by kernel_rfl, z5 := fun w => by kernel_rfl, v5 := fun w => by kernel_rfl, t9 := by kernel_rfl, a9 := fun w => by kernel_rfl, z9 := fun w => by kernel_rfl, v9 := fun w => by kernel_rfl, t22 := by kernel_rfl, a22 := fun w => by kernel_rfl, z22 := fun w => by kernel_rfl, v22 := fun w => by kernel_rfl, a24 := fun w => by kernel_rfl, z24 := fun w => by kernel_rfl, t25 := by kernel_rfl, a25 := fun w => by kernel_rfl, z25 := fun w => by kernel_rfl, v25 := fun w => by kernel_rfl, t39 := by kernel_rfl, a39 := fun w => by kernel_rfl, z39 := fun w => by kernel_rfl, v39 := fun w => by kernel_rfl, t45 := by kernel_rfl, a45 := fun w => by kernel_rfl, z45 := fun w => by kernel_rfl, v45 := fun w => by kernel_rfl, t46 := by kernel_rfl, a46 := fun w => by kernel_rfl, z46 := fun w => by kernel_rfl, v46 := fun w => by kernel_rfl, t50 := by kernel_rfl, a50 := fun w => by kernel_rfl, z50 := fun w => by kernel_rfl, v50 := fun w => by kernel_rfl, t53 := by kernel_rfl, a53 := fun w => by kernel_rfl, z53 := fun w => by kernel_rfl, v53 := fun w => by kernel_rfl, t55 := by kernel_rfl, a55 := fun w => by kernel_rfl, z55 := fun w => by kernel_rfl, v55 := fun w => by kernel_rfl, t66 := by kernel_rfl, a66 := fun w => by kernel_rfl, z66 := fun w => by kernel_rfl, v66 := fun w => by kernel_rfl, t70 := by kernel_rfl, a70 := fun w => by kernel_rfl, z70 := fun w => by kernel_rfl, v70 := fun w => by kernel_rfl, t76 := by kernel_rfl, a76 := fun w => by kernel_rfl, z76 := fun w => by kernel_rfl, v76 := fun w => by kernel_rfl, t77 := by kernel_rfl, a77 := fun w => by kernel_rfl, z77 := fun w => by kernel_rfl, v77 := fun w => by kernel_rfl }
def F6_cr : Shelf.Ren := ⟨fun k => if k = 122 then 211 else 227, fun t => if t = 4 then 4 else 3, fun x => x⟩
theorem F6_cl : Lays.n122 Tryz.prog F6_cr := { mixed := by kernel_rfl, f122 := by kernel_rfl, f215 := by kernel_rfl, t3 := by kernel_rfl, a3 := fun w => by kernel_rfl, z3 := fun w => by kernel_rfl, v3 := fun w => by kernel_rfl, t4 := by kernel_rfl, a4 := fun w => by kernel_rfl, z4 := fun w => by kernel_rfl, v4 := fun w => by kernel_rfl }
theorem F6_c1 (x y : Int) (w : World) : Calls Tryz.prog 211 #[.int .i64 x, .int .i64 y] w fun e w' => e = .returned (.int .i64 (Lib.compareInt x y)) ∧ w' = w := Any.cmp_Compare_int F6_cl x y w
theorem F6_dr {xs ys : List Int} : ∀ {k : Nat}, (∀ j, j < k → xs.getD j 0 = ys.getD j 0) → k ≤ xs.length → k ≤ ys.length → cmpL xs ys = cmpL (xs.drop k) (ys.drop k)
 | 0, _, _, _ => rfl
 | k + 1, h, h1, h2 => by
  match xs, ys, h, h1, h2 with
  | x :: xs, y :: ys, h, h1, h2 =>
   have h0 := h 0 (by omega)
   simp only [List.getD_cons_zero] at h0
   subst h0
   have ih := F6_dr (xs := xs) (ys := ys) (k := k) (fun j hj => by simpa using h (j + 1) (by omega)) (by simpa using h1) (by simpa using h2)
   simpa [cmpL] using ih
set_option maxHeartbeats 2000000 in
set_option maxRecDepth 100000 in
theorem F6_cw (a1 a2 : Option Addr) (c1 c2 b1 o1 b2 o2 n m : Nat) (xs ys : List Int) (w : World) (hn : n = xs.length) (hm : m = ys.length) (hx : n ≤ 9223372036854775807) (hy : m ≤ 9223372036854775807) (h1 : 0 < n → a1 = some ⟨b1, o1, none⟩) (h2 : 0 < m → a2 = some ⟨b2, o2, none⟩)
  (hc1 : ∀ j, j < n → w.cell? ⟨b1, o1 + j, none⟩ = some (.int .i64 (xs.getD j 0))) (hc2 : ∀ j, j < m → w.cell? ⟨b2, o2 + j, none⟩ = some (.int .i64 (ys.getD j 0))) :
  Calls Tryz.prog 219 #[.slice a1 n c1, .slice a2 m c2] w fun e w' => e = .returned (.int .i64 (cmpL xs ys)) ∧ ∃ q, w' = w.drewN q := by
 have mixed : Tryz.prog.follows .mixedOrders = true := by kernel_rfl
 have t0 : Tryz.prog.underlying 0 = some (TypeDesc.tuple #[]) := by kernel_rfl
 have a0 : ∀ w, (isAgg 0).run Tryz.prog w = .ok false w := fun w => by kernel_rfl
 have z0 : ∀ w, (Go.sizeOf 0).run Tryz.prog w = .ok 1 w := fun w => by kernel_rfl
 have v0 : ∀ w, (zeroValue 0).run Tryz.prog w = .ok (Value.tuple #[]) w := fun w => by kernel_rfl
 have t3 : Tryz.prog.underlying 3 = some (TypeDesc.int IntKind.i64) := by kernel_rfl
 have a3 : ∀ w, (isAgg 3).run Tryz.prog w = .ok false w := fun w => by kernel_rfl
 have z3 : ∀ w, (Go.sizeOf 3).run Tryz.prog w = .ok 1 w := fun w => by kernel_rfl
 have v3 : ∀ w, (zeroValue 3).run Tryz.prog w = .ok (Value.int IntKind.i64 0) w := fun w => by kernel_rfl
 have t4 : Tryz.prog.underlying 4 = some (TypeDesc.bool) := by kernel_rfl
 have a4 : ∀ w, (isAgg 4).run Tryz.prog w = .ok false w := fun w => by kernel_rfl
 have z4 : ∀ w, (Go.sizeOf 4).run Tryz.prog w = .ok 1 w := fun w => by kernel_rfl
 have v4 : ∀ w, (zeroValue 4).run Tryz.prog w = .ok (Value.bool false) w := fun w => by kernel_rfl
 have t22 : Tryz.prog.underlying 24 = some (TypeDesc.slice 3) := by kernel_rfl
 have a22 : ∀ w, (isAgg 24).run Tryz.prog w = .ok false w := fun w => by kernel_rfl
 have z22 : ∀ w, (Go.sizeOf 24).run Tryz.prog w = .ok 1 w := fun w => by kernel_rfl
 have v22 : ∀ w, (zeroValue 24).run Tryz.prog w = .ok (Value.slice none 0 0) w := fun w => by kernel_rfl
 have e104 : ∀ args w, (callFunc 211 args).run Tryz.prog w = .ok (.enter 211 args) w := enters_of Tryz.func211 (by kernel_rfl) rfl
 have K1 : Aside (∀ j, j < n → w.cell? ⟨b1, o1 + j, none⟩ = some (.int .i64 (xs.getD j 0))) := hc1
 have K2 : Aside (∀ j, j < m → w.cell? ⟨b2, o2 + j, none⟩ = some (.int .i64 (ys.getD j 0))) := hc2
 have KN : Aside (n = xs.length ∧ m = ys.length) := ⟨hn, hm⟩
 clear hc1 hc2 hn hm
 go_enter Tryz.func219, Tryz.ntmps219
 go_wp2
 go_loopg [11] n (fun g s11 wr => ∃ k q : Nat, k ≤ n ∧ k ≤ m ∧ n - k ≤ g ∧ s11 = .int .i64 k ∧ wr = w.drewN q ∧ Aside (∀ j, j < k → xs.getD j 0 = ys.getD j 0))
 case atStart => exact ⟨0, 0, Nat.zero_le _, Nat.zero_le _, by omega, rfl, rfl, fun j hj => absurd hj (Nat.not_lt_zero _)⟩
 case round =>
  obtain ⟨k, q, hk, hkm, hg, rfl, rfl, heq⟩ := hrel
  by_cases hlt : k < n
  ·obtain rfl := h1 (by omega)
   have g1 : w.cell? ⟨b1, o1 + k, none⟩ = some (.int .i64 (xs.getD k 0)) := K1.out k (by omega)
   generalize hxk : xs.getD k 0 = x at g1
   have B : Aside (xs.getD k 0 = x) := hxk
   clear hxk
   by_cases hlm : k < m
   ·obtain rfl := h2 (by omega)
    have g2 : w.cell? ⟨b2, o2 + k, none⟩ = some (.int .i64 (ys.getD k 0)) := K2.out k (by omega)
    generalize hyk : ys.getD k 0 = y at g2
    have B2 : Aside (ys.getD k 0 = y) := hyk
    clear hyk
    have hd : cmpL xs ys = if x < y then -1 else if y < x then 1 else cmpL (xs.drop (k + 1)) (ys.drop (k + 1)) := by
     obtain ⟨e1, e2⟩ := KN.out
     rw [F6_dr heq.out (by omega) (by omega), List.drop_eq_getElem_cons (i := k) (l := xs) (by omega), List.drop_eq_getElem_cons (i := k) (l := ys) (by omega)]
     rw [← B.out, ← B2.out, List.getD_eq_getElem?_getD, List.getD_eq_getElem?_getD, List.getElem?_eq_getElem (l := xs) (by omega), List.getElem?_eq_getElem (l := ys) (by omega)]
     rfl
    have D : Aside (cmpL xs ys = if x < y then -1 else if y < x then 1 else cmpL (xs.drop (k + 1)) (ys.drop (k + 1))) := hd
    clear hd
    rcases Int.lt_trichotomy x y with hxy | hxy | hxy
    ·have hc : Lib.compareInt x y = -1 := by unfold Lib.compareInt; rw [if_pos hxy]
     have DD : Aside (cmpL xs ys = -1) := by have := D.out; rwa [if_pos hxy] at this
     go_wp2_with fail
     refine (F6_c1 x y _).mono ?_
     rintro e w' ⟨rfl, rfl⟩
     rw [hc]
     go_wp2
     go_ret
     exact ⟨by rw [DD.out]; rfl, q, rfl⟩
    ·subst hxy
     have hc : Lib.compareInt x x = 0 := by unfold Lib.compareInt; rw [if_neg (Int.lt_irrefl x), if_neg (Int.lt_irrefl x)]
     go_wp2_with fail
     refine (F6_c1 x x _).mono ?_
     rintro e w' ⟨rfl, rfl⟩
     rw [hc]
     go_wp2
     go_roundg (n - (k + 1))
     case measure => omega
     case rel =>
      refine ⟨k + 1, q, by omega, by omega, by omega, by go_num, rfl, fun j hj => ?_⟩
      by_cases e : j = k
      ·subst e
       rw [B.out, B2.out]
      ·exact heq.out j (by omega)
    ·have hc : Lib.compareInt x y = 1 := by unfold Lib.compareInt; rw [if_neg (by omega), if_pos hxy]
     have DD : Aside (cmpL xs ys = 1) := by have := D.out; rwa [if_neg (by omega), if_pos hxy] at this
     go_wp2_with fail
     refine (F6_c1 x y _).mono ?_
     rintro e w' ⟨rfl, rfl⟩
     rw [hc]
     go_wp2
     go_ret
     exact ⟨by rw [DD.out]; rfl, q, rfl⟩
   ·have D0 : cmpL xs ys = 1 := by
     obtain ⟨e1, e2⟩ := KN.out
     have hkm' : k = m := by omega
     rw [F6_dr heq.out (by omega) (by omega), List.drop_eq_getElem_cons (i := k) (l := xs) (by omega), List.drop_of_length_le (l := ys) (by omega)]
     rfl
    have DD : Aside (cmpL xs ys = 1) := D0
    clear D0
    go_wp2_with fail
    go_ret
    exact ⟨by rw [DD.out]; rfl, q, rfl⟩
  ·have : k = n := by omega
   subst this
   obtain ⟨e1, e2⟩ := KN.out
   have hd : cmpL xs ys = cmpL [] (ys.drop k) := by
    rw [F6_dr heq.out (by omega) (by omega), List.drop_of_length_le (l := xs) (by omega)]
   by_cases hkm2 : k < m
   ·have DD : Aside (cmpL xs ys = -1) := by
     show _ = _
     rw [hd, List.drop_eq_getElem_cons (i := k) (l := ys) (by omega)]
     rfl
    clear hd e1 e2
    go_wp2
    go_ret
    exact ⟨by rw [DD.out]; rfl, q, rfl⟩
   ·have DD : Aside (cmpL xs ys = 0) := by
     show _ = _
     rw [hd, List.drop_of_length_le (l := ys) (by omega)]
     rfl
    clear hd e1 e2
    go_wp2
    go_ret
    exact ⟨by rw [DD.out]; rfl, q, rfl⟩
theorem F6_cok : CmpOK Tryz.prog 219 := by
 intro a1 c1 a2 c2 xs ys W hx hy h1 h2
 have split : ∀ (a : Option Addr) (xs : List Int), LInt W a xs → ∃ b o, (0 < xs.length → a = some ⟨b, o, none⟩) ∧ ∀ j, j < xs.length → W.cell? ⟨b, o + j, none⟩ = some (.int .i64 (xs.getD j 0)) := fun a xs h => by
  rcases h with rfl | ⟨b, o, ha, hc⟩
  ·exact ⟨0, 0, fun h => absurd h (Nat.lt_irrefl 0), fun j hj => absurd hj (Nat.not_lt_zero j)⟩
  ·exact ⟨b, o, fun _ => ha, fun j hj => hc j _ (by rw [List.getD_eq_getElem?_getD, List.getElem?_eq_getElem hj]; rfl)⟩
 obtain ⟨b1, o1, p1, q1⟩ := split a1 xs h1
 obtain ⟨b2, o2, p2, q2⟩ := split a2 ys h2
 exact F6_cw a1 a2 c1 c2 b1 o1 b2 o2 xs.length ys.length xs ys W rfl rfl hx hy p1 p2 q1 q2
theorem F6_ok : FOK Tryz.prog n_F28 F6_sh F6_fo F6 :=
 sortLists_ok ⟨_, fnat_F28, by kernel_rfl, by kernel_rfl⟩ (ρr := F6_ren) rfl F6_lay (enters_of fnat_F32 (by kernel_rfl) rfl) F6_cok
theorem lsL_ltL : ∀ a b : List Int, lsL a b = ltL a b
 | [], [] => rfl
 | [], y :: b => rfl
 | x :: a, [] => rfl
 | x :: a, y :: b => by
  have ih := lsL_ltL a b
  unfold lsL at ih ⊢
  unfold cmpL ltL
  split
  ·rfl
  ·split
   ·rfl
   ·exact ih
theorem F6_eq (x : List (List Int)) (h : x.length < 4611686018427387904) (hb : ∀ l ∈ x, l.length ≤ 9223372036854775807) : F6 (((), ()), x) = some ((), sortL x) := by
 unfold F6
 rw [if_pos ⟨h, List.all_eq_true.2 fun l hl => decide_eq_true (hb l hl)⟩]
 have e : sortL x = sortLL x := by
  refine sortLL_unique ((sortL_up x).imp fun {a b} hab => ?_) (sortL_perm x)
  rw [lsL_ltL]
  unfold leL at hab
  simpa using hab
 rw [e]
def F87_sh : FSh := ⟨[(.one (.si .i64)), (.one (.sl (.pair (.int .i64) (.int .i64)) false false))], []⟩
def F87_L3_sh : LSh := ⟨(fun ex => match ex with | .norm => [(1, none), (5, none), (15, none), (16, none)] | .exit i => if i = 0 then [(1, none), (5, none)] else [] | .ret => [(4, none)]), [(1, (.one (.sl (.pair (.int .i64) (.int .i64)) false false))), (5, (.one (.rw 0 0))), (15, (.one (.si .i64))), (16, (.one (.si .i64)))], [(.row 0 (.int .i64))], [⟨(.exit 0), [(1, (.one (.sl (.pair (.int .i64) (.int .i64)) false false))), (5, (.one (.rw 0 0)))], [(.row 0 (.int .i64))]⟩], [], []⟩
noncomputable def F87_L3_step : ((List ((Int × Int)) × Unit × Int × Int) × List (Int)) → T (((List ((Int × Int)) × Unit × Int × Int) × List (Int)) ⊕ ((List ((Int × Int)) × Unit) × List (Int))) := fun ((ds, (), t15, t16), whole) =>
 (.test (decide (t16 < t15))
 (.test (decide (1 ≤ (List.length (List.set (List.replicate 1 (0 : Int)) 0 t16))))
 (.test (decide ((0 + whole.length) ≤ whole.length))
 (.test (decide ((2 * ((whole.length + (List.length (win (List.set (List.replicate 1 (0 : Int)) 0 t16) 0 1))) * 9)) ≤ 140737488355328))
 (.test (decide ((0 = 0) ∧ ((whole.length + (List.length (win (List.set (List.replicate 1 (0 : Int)) 0 t16) 0 1))) = (List.length ((win whole 0 whole.length) ++ (win (List.set (List.replicate 1 (0 : Int)) 0 t16) 0 1))))))
 (.ret (Sum.inl ((ds, ((), (t15, (w64 (t16 + 1))))), ((win whole 0 whole.length) ++ (win (List.set (List.replicate 1 (0 : Int)) 0 t16) 0 1)))))
 .fail)
 .fail)
 .fail)
 .fail)
 (.test (decide ((0 = 0) ∧ (whole.length = whole.length)))
 (.ret (Sum.inr ((ds, ()), whole)))
 .fail))
noncomputable def F87_L3 (v) := loopO (fun v => (F87_L3_step v).run) v
def F87_L12_sh : LSh := ⟨(fun ex => match ex with | .norm => [(7, none), (9, none), (26, none), (27, none), (28, none), (32, none), (33, none), (34, none)] | .exit i => if i = 4 then [(7, none), (26, none), (27, none), (28, none)] else if i = 3 then [(7, none), (26, none), (27, none), (28, none)] else if i = 2 then [(7, none)] else [] | .ret => [(4, none)]), [(7, (.one (.rw 0 0))), (9, (.one (.pf 1 0 0))), (26, (.one (.sl (.pair (.int .i64) (.int .i64)) false false))), (27, (.one (.si .i64))), (28, (.one (.si .i64))), (32, (.one (.rw 0 0))), (33, (.one (.si .i64))), (34, (.one (.si .i64)))], [(.row 0 (.list true (.int .i64))), (.rcd 0 [(.si .i64), (.si .i64)])], [⟨(.exit 4), [(7, (.one (.rw 0 0))), (26, (.one (.sl (.pair (.int .i64) (.int .i64)) false false))), (27, (.one (.si .i64))), (28, (.one (.si .i64)))], [(.row 0 (.list true (.int .i64)))]⟩], [], []⟩
noncomputable def F87_L12_step : ((Unit × Unit × List ((Int × Int)) × Int × Int × Unit × Int × Int) × (List (List (Int)) × (Int × Int))) → T (((Unit × Unit × List ((Int × Int)) × Int × Int × Unit × Int × Int) × (List (List (Int)) × (Int × Int))) ⊕ ((Unit × List ((Int × Int)) × Int × Int) × List (List (Int)))) := fun (((), (), t26, t27, t28, (), t33, t34), (out, (d_0, d_1))) =>
 (.test (decide (t34 < t33))
 (.test (decide ((0 ≤ t34) ∧ (t34 < (out.length : Int))))
 (.sub (out[(0 + (Int.toNat t34))]?) fun z0 =>
 (.sub (F40 (z0, d_0)) fun z1 =>
 (.sub (F40 (z0, d_1)) fun z2 =>
 (.test (decide (z1 ≥ 0))
 (.test (decide (z2 ≥ 0))
 (.test (decide (0 ≤ (w64 (z1 + 1))))
 (.test (decide ((0 ≤ (Int.toNat (w64 (z1 + 1)))) ∧ ((Int.toNat (w64 (z1 + 1))) ≤ z0.length)))
 (.test (decide (0 ≤ z2))
 (.test (decide (((Int.toNat z2) ≤ z0.length) ∧ (z0.length ≤ z0.length)))
 (.test (decide (2 ≤ (List.length (List.set (List.set (List.replicate 2 ([] : List (Int))) 0 (win z0 0 ((Int.toNat (w64 (z1 + 1))) - 0))) 1 (win z0 (Int.toNat z2) (z0.length - (Int.toNat z2)))))))
 (.sub (F33 (win (List.set (List.set (List.replicate 2 ([] : List (Int))) 0 (win z0 0 ((Int.toNat (w64 (z1 + 1))) - 0))) 1 (win z0 (Int.toNat z2) (z0.length - (Int.toNat z2)))) 0 2)) fun z3 =>
 (.test (decide ((0 ≤ t34) ∧ (t34 < (out.length : Int))))
 (.test (decide ((0 + z3.2.length) ≤ z3.2.length))
 (.sub (out[(0 + (Int.toNat t34))]?) fun z4 =>
 (.test (decide (0 ≤ z1))
 (.test (decide (0 ≤ (w64 (z2 + 1))))
 (.test (decide (((Int.toNat z1) ≤ (Int.toNat (w64 (z2 + 1)))) ∧ ((Int.toNat (w64 (z2 + 1))) ≤ z0.length)))
 (.sub (F41 (win z0 (Int.toNat z1) ((Int.toNat (w64 (z2 + 1))) - (Int.toNat z1)))) fun z5 =>
 (.test (decide ((0 + z5.2.length) ≤ z5.2.length))
 (.test (decide (1 ≤ (List.length (List.set (List.replicate 1 ([] : List (Int))) 0 (win z5.2 0 z5.2.length)))))
 (.test (decide ((0 + out.length) ≤ (List.length (List.set out (0 + (Int.toNat t34)) (win z3.2 0 z3.2.length)))))
 (.test (decide ((2 * ((out.length + (List.length (win (List.set (List.replicate 1 ([] : List (Int))) 0 (win z5.2 0 z5.2.length)) 0 1))) * 25)) ≤ 140737488355328))
 (.test (decide ((0 = 0) ∧ ((out.length + (List.length (win (List.set (List.replicate 1 ([] : List (Int))) 0 (win z5.2 0 z5.2.length)) 0 1))) = (List.length ((win (List.set out (0 + (Int.toNat t34)) (win z3.2 0 z3.2.length)) 0 out.length) ++ (win (List.set (List.replicate 1 ([] : List (Int))) 0 (win z5.2 0 z5.2.length)) 0 1))))))
 (.ret (Sum.inr (((), (t26, (t27, t28))), ((win (List.set out (0 + (Int.toNat t34)) (win z3.2 0 z3.2.length)) 0 out.length) ++ (win (List.set (List.replicate 1 ([] : List (Int))) 0 (win z5.2 0 z5.2.length)) 0 1)))))
 .fail)
 .fail)
 .fail)
 .fail)
 .fail))
 .fail)
 .fail)
 .fail))
 .fail)
 .fail))
 .fail)
 .fail)
 .fail)
 .fail)
 .fail)
 (.test (decide ((0 = 0) ∧ (out.length = out.length)))
 (.test (decide ((0 = 0) ∧ (out.length = out.length)))
 (.ret (Sum.inl (((), ((), (t26, (t27, (t28, ((), (t33, (w64 (t34 + 1))))))))), (out, (d_0, d_1)))))
 .fail)
 .fail))
 (.test (decide ((0 = 0) ∧ (out.length = out.length)))
 (.test (decide ((0 = 0) ∧ (out.length = out.length)))
 (.ret (Sum.inl (((), ((), (t26, (t27, (t28, ((), (t33, (w64 (t34 + 1))))))))), (out, (d_0, d_1)))))
 .fail)
 .fail)))))
 .fail)
 (.test (decide ((0 = 0) ∧ (out.length = out.length)))
 (.ret (Sum.inr (((), (t26, (t27, t28))), out)))
 .fail))
noncomputable def F87_L12 (v) := loopO (fun v => (F87_L12_step v).run) v
def F87_L9_sh : LSh := ⟨(fun ex => match ex with | .norm => [(7, none), (26, none), (27, none), (28, none)] | .exit i => if i = 2 then [(7, none)] else [] | .ret => [(4, none)]), [(7, (.one (.rw 0 0))), (26, (.one (.sl (.pair (.int .i64) (.int .i64)) false false))), (27, (.one (.si .i64))), (28, (.one (.si .i64)))], [(.row 0 (.list true (.int .i64)))], [⟨(.exit 2), [(7, (.one (.rw 0 0)))], [(.row 0 (.list true (.int .i64)))]⟩], [], []⟩
noncomputable def F87_L9_step : ((Unit × List ((Int × Int)) × Int × Int) × List (List (Int))) → T (((Unit × List ((Int × Int)) × Int × Int) × List (List (Int))) ⊕ (Unit × List (List (Int)))) := fun (((), t26, t27, t28), out) =>
 (.test (decide (t28 < t27))
 (.test (decide ((0 ≤ t28) ∧ (t28 < (t26.length : Int))))
 (.sub (t26[(Int.toNat t28)]?) fun z0 =>
 (.test (decide ((0 = 0) ∧ (out.length = out.length)))
 (.test (decide ((0 = 0) ∧ (out.length = out.length)))
 (.sub (F87_L12 (((), ((), (t26, (t27, (t28, ((), ((out.length : Int), (0 : Int)))))))), (out, (z0.1, z0.2)))) fun z1 =>
 (.test (decide ((0 = 0) ∧ (z1.2.length = z1.2.length)))
 (.ret (Sum.inl (((), (z1.1.2.1, (z1.1.2.2.1, (w64 (z1.1.2.2.2 + 1))))), z1.2)))
 .fail))
 .fail)
 .fail))
 .fail)
 (.test (decide ((0 = 0) ∧ (out.length = out.length)))
 (.ret (Sum.inr ((), out)))
 .fail))
noncomputable def F87_L9 (v) := loopO (fun v => (F87_L9_step v).run) v
def F87_fo : List FO := [⟨[(.one (.rw 0 0))], [(.row 0 (.list true (.int .i64)))]⟩]
noncomputable def F87_t : (Int × List ((Int × Int))) → T (Unit × List (List (Int))) := fun (n, ds) =>
 (.test true
 (.sub (F87_L3 ((ds, ((), (n, (0 : Int)))), (List.replicate 0 (0 : Int)))) fun z0 =>
 (.test (decide ((0 + z0.2.length) ≤ z0.2.length))
 (.test (decide ((0 = 0) ∧ (1 = (List.length (List.set (List.replicate 1 ([] : List (Int))) 0 (win z0.2 0 z0.2.length))))))
 (.sub (F87_L9 (((), (z0.1.1, ((z0.1.1.length : Int), (0 : Int)))), (List.set (List.replicate 1 ([] : List (Int))) 0 (win z0.2 0 z0.2.length)))) fun z1 =>
 (.test (decide ((0 = 0) ∧ (z1.2.length = z1.2.length)))
 (.sub (F6 (((), ()), z1.2)) fun z2 =>
 (.test (decide ((0 = 0) ∧ (z1.2.length = z2.2.length)))
 (.ret ((), z2.2))
 .fail))
 .fail))
 .fail)
 .fail))
 .fail)
noncomputable def F87 (v) := (F87_t v).run
noncomputable def F87_E : TEnv := ((((E0.add1 n_F40 F40_sh F40_fo F40).add1 n_F33 F33_sh F33_fo F33).add1 n_F41 F41_sh F41_fo F41).add1 n_F28 F6_sh F6_fo F6)
theorem F87_Eok : (F87_E).OK := ((((E0ok.add1 F40_ok).add1 F33_ok).add1 F41_ok).add1 F6_ok)
noncomputable def F87_told : Nat → Option SealT := fun id => if id = 3 then some (LSh.told F87_L3_sh 0 (F87_L3_step)) else if id = 12 then some (LSh.told F87_L12_sh 0 (F87_L12_step)) else if id = 9 then some (LSh.told F87_L9_sh 0 (F87_L9_step)) else none
theorem F87_L3_ok : ToldOK Tryz.prog 0 (loopAt (bodyOf fn_F87) [0]) (LSh.told F87_L3_sh 0 (F87_L3_step)) :=
 loop_ok (E := F87_E) (F87_Eok) (told := F87_told) (l := F87_L3_sh) (step := F87_L3_step) (loopsOK_of (ls := []) (by kernel_rfl) trivial) (by kernel_rfl) (fun v => by kernel_rfl)
theorem F87_L12_ok : ToldOK Tryz.prog 0 (loopAt (bodyOf fn_F87) [1, 0]) (LSh.told F87_L12_sh 0 (F87_L12_step)) :=
 loop_ok (E := F87_E) (F87_Eok) (told := F87_told) (l := F87_L12_sh) (step := F87_L12_step) (loopsOK_of (ls := []) (by kernel_rfl) trivial) (by kernel_rfl) (fun v => by kernel_rfl)
theorem F87_L9_ok : ToldOK Tryz.prog 0 (loopAt (bodyOf fn_F87) [1]) (LSh.told F87_L9_sh 0 (F87_L9_step)) :=
 loop_ok (E := F87_E) (F87_Eok) (told := F87_told) (l := F87_L9_sh) (step := F87_L9_step) (loopsOK_of (ls := [loopAt (bodyOf fn_F87) [1, 0]]) (by kernel_rfl) ⟨.inr ⟨_, by kernel_rfl, F87_L12_ok⟩, trivial⟩) (by kernel_rfl) (fun v => by kernel_rfl)
theorem F87_ok : FOK Tryz.prog n_F87 F87_sh F87_fo F87 :=
 fn_ok (E := F87_E) (F87_Eok) (told := F87_told) (fl := []) (c := bodyOf fn_F87) (s := F87_sh) (l := F87_fo) (tree := F87_t) fnat_F87 (by kernel_rfl) (by kernel_rfl) (by kernel_rfl) (loopsOK_of (ls := [loopAt (bodyOf fn_F87) [0], loopAt (bodyOf fn_F87) [1]]) (by kernel_rfl) ⟨.inr ⟨_, by kernel_rfl, F87_L3_ok⟩, ⟨.inr ⟨_, by kernel_rfl, F87_L9_ok⟩, trivial⟩⟩) (fun v => by kernel_rfl)
theorem F87_whole (ds : List Dg) (N : Nat) (hN : N ≤ 12) : ∀ (m k : Nat), k + m = N → F87_L3 ((ds, ((), ((N : Int), (k : Int)))), nameL k) = some ((ds, ()), nameL N) := by
 intro m
 induction m with
 | zero =>
  intro k hk
  have e : k = N := by omega
  subst e
  simp only [F87_L3]
  refine loopO_done ?_
  rw [F87_L3_step, T.run_test, if_neg (by simp), T.run_test, if_pos (by simp), T.run_ret]
 | succ m ih =>
  intro k hk
  have w1 : w64 ((k : Int) + 1) = ((k + 1 : Nat) : Int) := by rw [w64_id (by omega) (by omega)]; omega
  have := ih (k + 1) (by omega)
  simp only [F87_L3] at this ⊢
  rw [← this]
  refine loopO_next ?_
  rw [F87_L3_step, T.run_test, if_pos (decide_eq_true (by omega)), T.run_test, if_pos (by simp), T.run_test, if_pos (by simp), win_all, win_one, T.run_test, if_pos (by exact decide_eq_true (by rw [nameL_length, List.length_singleton]; omega)), T.run_test, if_pos (by simp), T.run_ret, w1, nameL_succ]
theorem F87_cut {p : List Int} (hs : p.Pairwise (· < ·)) {d : Dg} {i j : Nat} (hi : i < p.length) (hj : j < p.length) (ei : p[i] = d.1) (ej : p[j] = d.2) (hd : d.1 < d.2) :
  p.filter (fun v => decide (v ≤ d.1 ∨ d.2 ≤ v)) = p.take (i + 1) ++ p.drop j ∧ p.filter (fun v => decide (d.1 ≤ v ∧ v ≤ d.2)) = (p.drop i).take (j + 1 - i) ∧ i < j := by
 have hij : i < j := (sorted_lt hs hi hj).1 (by rw [ei, ej]; exact hd)
 have lt : ∀ x (h : x < p.length), (p[x] < d.1 ↔ x < i) ∧ (p[x] < d.2 ↔ x < j) := fun x h => ⟨by rw [← ei]; exact sorted_lt hs h hi, by rw [← ej]; exact sorted_lt hs h hj⟩
 have gt : ∀ x (h : x < p.length), (d.1 < p[x] ↔ i < x) ∧ (d.2 < p[x] ↔ j < x) := fun x h => ⟨by rw [← ei]; exact sorted_lt hs hi h, by rw [← ej]; exact sorted_lt hs hj h⟩
 refine ⟨?_, ?_, hij⟩
 ·refine filter_out p _ (i + 1) j (by omega) (by omega) (fun x h hx => ?_) (fun x h h1 h2 => ?_) (fun x h hx => ?_)
  ·have := gt x h; rw [decide_eq_true_eq]; omega
  ·have := gt x h; have := lt x h; rw [decide_eq_false_iff_not]; omega
  ·have := lt x h; rw [decide_eq_true_eq]; omega
 ·refine filter_mid p _ i (j + 1) (by omega) (by omega) (fun x h hx => ?_) (fun x h h1 h2 => ?_) (fun x h hx => ?_)
  ·have := lt x h; rw [decide_eq_false_iff_not]; omega
  ·have := gt x h; have := lt x h; rw [decide_eq_true_eq]; omega
  ·have := gt x h; rw [decide_eq_false_iff_not]; omega
theorem F87_L12_eq (t26 : List Dg) (t27 t28 : Int) (d : Dg) (hd : d.1 < d.2) : ∀ (rest pre out : List (List Int)), out = pre ++ rest → out.length ≤ 100 → (∀ p ∈ out, p.Pairwise (· < ·) ∧ p.length ≤ 100) →
  F87_L12 (((), ((), (t26, (t27, (t28, ((), ((out.length : Int), (pre.length : Int)))))))), (out, d)) = some (((), (t26, (t27, t28))), pre ++ splitD d rest) := by
 intro rest
 induction rest with
 | nil =>
  intro pre out ho hl hp
  rw [List.append_nil] at ho
  subst ho
  simp only [F87_L12]
  refine loopO_done ?_
  rw [F87_L12_step, T.run_test, if_neg (by simp), T.run_test, if_pos (by simp), T.run_ret, splitD, List.append_nil]
 | cons p t ih =>
  intro pre out ho hl hp
  have hlen : out.length = pre.length + (t.length + 1) := by rw [ho, List.length_append, List.length_cons]
  have hg : out[pre.length]? = some p := by rw [ho, List.getElem?_append_right (Nat.le_refl _), Nat.sub_self]; rfl
  have hpm : p ∈ out := by rw [ho]; simp
  obtain ⟨hs, hpl⟩ := hp p hpm
  have x1 := F40_eq p d.1 (by omega)
  have x2 := F40_eq p d.2 (by omega)
  have w1 : w64 ((pre.length : Int) + 1) = (((pre ++ [p]).length : Nat) : Int) := by rw [List.length_append, List.length_singleton, w64_id (by omega) (by omega)]; omega
  have next := ih (pre ++ [p]) out (by rw [ho]; simp) hl hp
  have go : ¬ (d.1 ∈ p ∧ d.2 ∈ p) → (F87_L12_step (((), ((), (t26, (t27, (t28, ((), ((out.length : Int), (pre.length : Int)))))))), (out, d))).run = some (.inl (((), ((), (t26, (t27, (t28, ((), ((out.length : Int), (((pre ++ [p]).length : Nat) : Int)))))))), (out, d))) := by
   intro c
   rw [F87_L12_step, T.run_test, if_pos (decide_eq_true (by omega)), T.run_test, if_pos (decide_eq_true (by omega)), T.run_sub, Nat.zero_add, Int.toNat_natCast, hg, Option.bind_some, T.run_sub, x1, Option.bind_some, T.run_sub, x2, Option.bind_some, T.run_test]
   by_cases c1 : d.1 ∈ p
   ·obtain ⟨i, hi, ei, e1⟩ := idxI_yes c1
    have e2 := idxI_no (fun h => c ⟨c1, h⟩)
    rw [e1, e2, if_pos (decide_eq_true (by omega)), T.run_test, if_neg (by simp), T.run_test, if_pos (by simp), T.run_test, if_pos (by simp), T.run_ret, w1]
   ·rw [idxI_no c1, if_neg (by simp), T.run_test, if_pos (by simp), T.run_test, if_pos (by simp), T.run_ret, w1]
  by_cases c : d.1 ∈ p ∧ d.2 ∈ p
  ·obtain ⟨i, hi, ei, e1⟩ := idxI_yes c.1
   obtain ⟨j, hj, ej, e2⟩ := idxI_yes c.2
   obtain ⟨f1, f2, hij⟩ := F87_cut hs hi hj ei ej hd
   rw [e1] at x1
   rw [e2] at x2
   have v1 : w64 ((i : Int) + 1) = ((i + 1 : Nat) : Int) := by rw [w64_id (by omega) (by omega)]; omega
   have v2 : w64 ((j : Int) + 1) = ((j + 1 : Nat) : Int) := by rw [w64_id (by omega) (by omega)]; omega
   have g1 : win p 0 (i + 1 - 0) = p.take (i + 1) := by rw [win_take, Nat.sub_zero]
   have g2 : win p j (p.length - j) = p.drop j := by unfold win; rw [List.take_of_length_le (by simp)]
   have g3 : win p i (j + 1 - i) = (p.drop i).take (j + 1 - i) := rfl
   have g4 : win (List.set (List.set (List.replicate 2 ([] : List Int)) 0 (p.take (i + 1))) 1 (p.drop j)) 0 2 = [p.take (i + 1), p.drop j] := rfl
   have hcat := F33_two (p.take (i + 1)) (p.drop j) (by rw [List.length_take, List.length_drop]; omega)
   have hml : ((p.drop i).take (j + 1 - i)).length ≤ 100 := by rw [List.length_take, List.length_drop]; omega
   have hcl : F41 ((p.drop i).take (j + 1 - i)) = some ((), (p.drop i).take (j + 1 - i)) := by
    unfold F41
    rw [if_pos ⟨by unfold maxLen; omega, by omega⟩]
   have hset : out.set pre.length (p.take (i + 1) ++ p.drop j) = pre ++ (p.take (i + 1) ++ p.drop j) :: t := by
    rw [ho, List.set_append_right _ _ (Nat.le_refl _), Nat.sub_self]; rfl
   have hwo : win (pre ++ (p.take (i + 1) ++ p.drop j) :: t) 0 out.length = pre ++ (p.take (i + 1) ++ p.drop j) :: t := by
    have := win_all (pre ++ (p.take (i + 1) ++ p.drop j) :: t)
    rwa [List.length_append, List.length_cons, ← hlen] at this
   have hsl : (pre ++ (p.take (i + 1) ++ p.drop j) :: t).length = out.length := by rw [List.length_append, List.length_cons, ← hlen]
   rw [splitD, if_pos c, f1, f2]
   simp only [F87_L12]
   refine loopO_done ?_
   rw [F87_L12_step, T.run_test, if_pos (decide_eq_true (by omega)), T.run_test, if_pos (decide_eq_true (by omega)), T.run_sub, Nat.zero_add, Int.toNat_natCast, hg, Option.bind_some, T.run_sub, x1, Option.bind_some, T.run_sub, x2, Option.bind_some, T.run_test, if_pos (decide_eq_true (by omega)), T.run_test, if_pos (decide_eq_true (by omega)), v1, T.run_test, if_pos (decide_eq_true (by omega)), T.run_test, if_pos (decide_eq_true (by omega)), T.run_test, if_pos (decide_eq_true (by omega)), T.run_test, if_pos (decide_eq_true (by omega)), T.run_test, if_pos (by simp), T.run_sub]
   simp only [Int.toNat_natCast, g1, g2, g4, hcat, Option.bind_some]
   rw [T.run_test, if_pos (decide_eq_true (by omega)), T.run_test, if_pos (by simp), T.run_sub, Option.bind_some, T.run_test, if_pos (decide_eq_true (by omega)), v2, T.run_test, if_pos (decide_eq_true (by omega)), T.run_test, if_pos (decide_eq_true (by omega)), T.run_sub]
   simp only [Int.toNat_natCast, g3, hcl, Option.bind_some, win_all, hset, hwo, show ∀ q : List Int, win (List.set (List.replicate 1 ([] : List Int)) 0 q) 0 1 = [q] from fun q => rfl]
   rw [T.run_test, if_pos (by simp), T.run_test, if_pos (by simp), T.run_test, if_pos (by exact decide_eq_true (by rw [hsl]; omega)), T.run_test, if_pos (by exact decide_eq_true (by rw [List.length_singleton]; omega)), T.run_test, if_pos (by exact decide_eq_true (by rw [List.length_append, hsl]; exact ⟨trivial, rfl⟩)), T.run_ret]
   simp
  ·rw [splitD, if_neg c]
   simp only [F87_L12] at next ⊢
   rw [loopO_next (go c), next, List.append_assoc]
   rfl
theorem F87_L9_eq {N : Nat} (h3 : 3 ≤ N) (hN : N ≤ 12) (ds : List Dg) (hc : CutD N ds) (hl : ds.length ≤ 12) : ∀ (m k : Nat) (out : List (List Int)), k + m = ds.length → out.Perm ((wholeD N :: ds.take k).map (pcs N (ds.take k))) →
  F87_L9 (((), (ds, ((ds.length : Int), (k : Int)))), out) = some ((), (ds.drop k).foldl (fun out d => splitD d out) out) := by
 intro m
 induction m with
 | zero =>
  intro k out hk ho
  rw [List.drop_eq_nil_of_le (by omega)]
  simp only [F87_L9]
  refine loopO_done ?_
  rw [F87_L9_step, T.run_test, if_neg (by rw [decide_eq_true_eq]; omega), T.run_test, if_pos (by simp), T.run_ret]
  rfl
 | succ m ih =>
  intro k out hk ho
  have hlt : k < ds.length := by omega
  have w1 : w64 ((k : Int) + 1) = ((k + 1 : Nat) : Int) := by rw [w64_id (by omega) (by omega)]; omega
  have hte : ds.take (k + 1) = ds.take k ++ [ds[k]] := by rw [List.take_add_one, List.getElem?_eq_getElem hlt]; rfl
  have hcut : CutD N (ds.take k ++ [ds[k]]) := by
   rw [← hte]
   refine CutD.front (es := ds.drop (k + 1)) ?_
   rw [List.take_append_drop]; exact hc
  have hd := hc.1 ds[k] (List.getElem_mem hlt)
  have hol : out.length ≤ 20 := by
   have := ho.length_eq
   simp only [List.length_map, List.length_cons, List.length_take] at this
   omega
  have hp : ∀ p ∈ out, p.Pairwise (· < ·) ∧ p.length ≤ 100 := fun p hp => by
   obtain ⟨q, hq, rfl⟩ := List.mem_map.1 (ho.mem_iff.1 hp)
   have := (pcs_len hcut.front h3 hq).2
   exact ⟨pcs_sorted .., by omega⟩
  have h12 := F87_L12_eq ds (ds.length : Int) (k : Int) ds[k] (by omega) out [] out rfl (by omega) hp
  have := ih (k + 1) (splitD ds[k] out) (by omega) (by rw [hte]; exact split_perm hcut ho)
  rw [List.nil_append] at h12
  rw [List.drop_eq_getElem_cons hlt, List.foldl_cons]
  simp only [F87_L9] at this ⊢
  rw [← this]
  refine loopO_next ?_
  have h12' : F87_L12 (((), ((), (ds, ((ds.length : Int), ((k : Int), ((), ((out.length : Int), (0 : Int)))))))), (out, (ds[k].1, ds[k].2))) = some (((), (ds, ((ds.length : Int), (k : Int)))), splitD ds[k] out) := h12
  rw [F87_L9_step, T.run_test, if_pos (decide_eq_true (by omega)), T.run_test, if_pos (decide_eq_true (by omega)), T.run_sub, Int.toNat_natCast, List.getElem?_eq_getElem hlt, Option.bind_some, T.run_test, if_pos (by simp), T.run_test, if_pos (by simp), T.run_sub, h12', Option.bind_some, T.run_test, if_pos (by simp), T.run_ret, w1]
theorem F87_eq {N : Nat} {ds : List Dg} (h3 : 3 ≤ N) (hN : N ≤ 12) (hl : ds.length ≤ 12) (hc : CutD N ds) : F87 ((N : Int), ds) = some ((), sortL (specP N ds)) := by
 have hw := F87_whole ds N hN N 0 (by omega)
 have h9 := F87_L9_eq h3 hN ds hc hl ds.length 0 [nameL N] (by omega) (by
  have : pcs N [] (wholeD N) = nameL N := by
   unfold pcs covD wholeD
   rw [List.filter_eq_self]
   intro v hv
   have := nameL_mem hv
   simp; omega
  simp [this])
 rw [Int.natCast_zero] at hw h9
 rw [List.drop_zero] at h9
 change _ = some ((), implP N ds) at h9
 have hsl := implP_count h3 hc
 have hsort := F6_eq (implP N ds) (by omega) fun l hl => by have := implP_len h3 hc hl; omega
 have hsame : sortL (implP N ds) = sortL (specP N ds) := sortL_unique (sortL_up _) ((sortL_perm _).trans (pieces_same h3 hc))
 rw [F87, F87_t, T.run_test, if_pos rfl, T.run_sub, show List.replicate 0 (0 : Int) = nameL 0 from rfl, hw, Option.bind_some, T.run_test, if_pos (by simp), T.run_test, if_pos (by simp), T.run_sub, win_all, show List.set (List.replicate 1 ([] : List Int)) 0 (nameL N) = [nameL N] from rfl, h9, Option.bind_some, T.run_test, if_pos (by simp), T.run_sub, hsort, Option.bind_some, T.run_test, if_pos (by exact decide_eq_true ⟨rfl, (sortL_perm _).length_eq.symm⟩), T.run_ret, hsame]
def F53_sh : FSh := ⟨[.one (.si .u64)], []⟩
def F53_fo : List FO := [⟨[.one (.si .i64)], []⟩]
def F53 (x : Int) : Option Int := if 0 ≤ x ∧ x ≤ 18446744073709551615 then some (Lib.bitLen x.toNat : Int) else none
def F53_ren : Shelf.Ren := ⟨fun k => if k = 125 then n_F53 else if k = 128 then 240 else 241, fun t => if t = 3 then 3 else if t = 4 then 4 else if t = 5 then 5 else if t = 9 then 9 else if t = 46 then 151 else if t = 51 then 166 else 104, fun x => x⟩
theorem F53_lay : Lays.n125 Tryz.prog F53_ren :=
 { mixed := by kernel_rfl, f125 := by kernel_rfl, f128 := by kernel_rfl, f129 := by kernel_rfl, t3 := by kernel_rfl, a3 := fun w => by kernel_rfl, z3 := fun w => by kernel_rfl, v3 := fun w => by kernel_rfl, t4 := by kernel_rfl, a4 := fun w => by kernel_rfl, z4 := fun w => by kernel_rfl, v4 := fun w => by kernel_rfl, t5 := by kernel_rfl, a5 := fun w => by kernel_rfl, z5 := fun w => by kernel_rfl, v5 := fun w => by kernel_rfl, t9 := by kernel_rfl, a9 := fun w => by kernel_rfl, z9 := fun w => by kernel_rfl, v9 := fun w => by kernel_rfl, t46 := by kernel_rfl, a46 := fun w => by kernel_rfl, z46 := fun w => by kernel_rfl, v46 := fun w => by kernel_rfl, t51 := by kernel_rfl, a51 := fun w => by kernel_rfl, z51 := fun w => by kernel_rfl, v51 := fun w => by kernel_rfl, t53 := by kernel_rfl, a53 := fun w => by kernel_rfl, z53 := fun w => by kernel_rfl, v53 := fun w => by kernel_rfl }
theorem F53_ok : FOK Tryz.prog n_F53 F53_sh F53_fo F53 :=
 bitsLen_ok ⟨_, fnat_F53, by kernel_rfl, by kernel_rfl⟩ (ρr := F53_ren) rfl F53_lay
def F54_sh : FSh := ⟨[(.one (.si .i64))], []⟩
def F54_fo : List FO := [⟨[(.one .sb)], []⟩]
noncomputable def F54_t : Int → T Bool := fun x =>
 (.ret (x != x))
noncomputable def F54 (v) := (F54_t v).run
noncomputable def F54_E : TEnv := E0
theorem F54_Eok : (F54_E).OK := E0ok
noncomputable def F54_told : Nat → Option SealT := fun id => none
theorem F54_ok : FOK Tryz.prog n_F54 F54_sh F54_fo F54 :=
 fn_ok (E := F54_E) (F54_Eok) (told := F54_told) (fl := []) (c := bodyOf fn_F54) (s := F54_sh) (l := F54_fo) (tree := F54_t) fnat_F54 (by kernel_rfl) (by kernel_rfl) (by kernel_rfl) (loopsOK_of (ls := []) (by kernel_rfl) trivial) (fun v => by kernel_rfl)
def F60_sh : FSh := ⟨[(.one (.si .i64)), (.one (.si .i64))], []⟩
def F60_fo : List FO := [⟨[(.one .sb)], []⟩]
noncomputable def F60_t : (Int × Int) → T Bool := fun (x, y) =>
 (.sub (F54 x) fun z0 =>
 (.test z0
 (.sub (F54 y) fun z1 =>
 (.test (! z1)
 (.ret true)
 (.ret (decide (x < y)))))
 (.ret (decide (x < y)))))
noncomputable def F60 (v) := (F60_t v).run
noncomputable def F60_E : TEnv := (E0.add1 n_F54 F54_sh F54_fo F54)
theorem F60_Eok : (F60_E).OK := (E0ok.add1 F54_ok)
noncomputable def F60_told : Nat → Option SealT := fun id => none
theorem F60_ok : FOK Tryz.prog n_F60 F60_sh F60_fo F60 :=
 fn_ok (E := F60_E) (F60_Eok) (told := F60_told) (fl := []) (c := bodyOf fn_F60) (s := F60_sh) (l := F60_fo) (tree := F60_t) fnat_F60 (by kernel_rfl) (by kernel_rfl) (by kernel_rfl) (loopsOK_of (ls := []) (by kernel_rfl) trivial) (fun v => by kernel_rfl)
theorem F60_val (x y : Int) : F60 (x, y) = some (decide (x < y)) := by
 simp [F60, F60_t, T.run, F54, F54_t]
end Go.Proofs.W
