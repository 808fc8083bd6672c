/- Functions of the program, walked, and what they compute. -/
import Derived.Test.YtaoeghfoifhhcaaGreatDoorFdWk2
set_option linter.unusedVariables false
set_option linter.unusedSimpArgs false
set_option maxRecDepth 100000
set_option maxHeartbeats 4000000
namespace Go.Proofs.W
open Go Go.Gm Go.Proofs
open Go.RowKit Go.Shelf

def en (a : Int → Int) (i : Int) : Nat → Int
  | 0 => 0
  | 1 => 1
  | k + 2 => a (i + ((k + 1 : Nat) : Int)) * en a i (k + 1) - en a i k
theorem en_two (a : Int → Int) (i : Int) (k : Nat) : en a i (k + 2) = a (i + (k + 1)) * en a i (k + 1) - en a i k := by
  rw [en, Int.natCast_add]; rfl
theorem en_left (a : Int → Int) : ∀ (k : Nat) (i : Int), en a i (k + 2) = a (i + 1) * en a (i + 1) (k + 1) - en a (i + 2) k
  | 0, i => by simp [en]
  | 1, i => by
    rw [en_two, en_two, en_two]
    simp only [en]
    rw [show i + ((1 : Nat) + 1 : Int) = i + 2 by omega, show i + ((0 : Nat) + 1 : Int) = i + 1 by omega, show i + 1 + ((0 : Nat) + 1 : Int) = i + 2 by omega]
    grind
  | k + 2, i => by
    rw [en_two, en_left a (k + 1) i, en_left a k i, en_two a (i + 1) (k + 1), en_two a (i + 2) k]
    rw [show i + (((k + 2 : Nat) : Int) + 1) = i + k + 3 by omega, show i + 1 + (((k + 1 : Nat) : Int) + 1) = i + k + 3 by omega, show i + 2 + ((k : Int) + 1) = i + k + 3 by omega]
    grind
theorem en_det (a : Int → Int) (i : Int) : ∀ k : Nat, en a i (k + 1) * en a (i + 1) (k + 1) - en a (i + 1) k * en a i (k + 2) = 1
  | 0 => by simp [en]
  | k + 1 => by
    have h := en_det a i k
    rw [en_two a (i + 1) k, en_two a i (k + 1), show i + (((k + 1 : Nat) : Int) + 1) = i + 1 + ((k : Int) + 1) by omega]
    grind
theorem en_congr {a b : Int → Int} {i j : Int} : ∀ k : Nat, (∀ t : Nat, 1 ≤ t → t < k → a (i + t) = b (j + t)) → en a i k = en b j k
  | 0, _ => rfl
  | 1, _ => rfl
  | k + 2, h => by
    rw [en, en, en_congr (k + 1) fun t h1 h2 => h t h1 (by omega), en_congr k fun t h1 h2 => h t h1 (by omega), h (k + 1) (by omega) (by omega)]
def qa (l : List Int) (x : Int) : Int := l.getD (x % (l.length : Int)).toNat 0
theorem qa_per (l : List Int) (x : Int) : qa l (x + l.length) = qa l x := by unfold qa; rw [Int.add_emod_right]
theorem qa_nat {l : List Int} {t : Nat} (h : t < l.length) : qa l (t : Int) = l.getD t 0 := by
  unfold qa
  rw [Int.emod_eq_of_lt (by omega) (by omega), Int.toNat_natCast]
theorem en_per (l : List Int) (i : Int) (k : Nat) : en (qa l) (i + l.length) k = en (qa l) i k :=
  en_congr k fun t _ _ => by rw [show i + (l.length : Int) + t = i + t + l.length by omega, qa_per]
def seg (a : Int → Int) (i : Int) (k : Nat) : List Int := (List.range k).map fun (t : Nat) => a (i + (t : Int))
theorem seg_succ (a : Int → Int) (i : Int) (k : Nat) : seg a i (k + 1) = seg a i k ++ [a (i + k)] := by simp [seg, List.range_succ]
theorem MM_seg (a : Int → Int) (i : Int) : ∀ k : Nat, MM (seg a (i + 1) (k + 1)) = (en a i (k + 2), -en a i (k + 1), en a (i + 1) (k + 1), -en a (i + 1) k)
  | 0 => by
    simp [seg, MM, A4, mul4, one4, en]
  | k + 1 => by
    rw [seg_succ, MM_append, MM_seg a i k]
    show mul4 _ (mul4 (A4 _) one4) = _
    rw [mul4_one', en_two a i (k + 1), en_two a (i + 1) k]
    simp only [mul4, A4, Prod.mk.injEq]
    rw [show i + 1 + ((k + 1 : Nat) : Int) = i + (((k + 1 : Nat) : Int) + 1) by omega, show i + 1 + ((k : Int) + 1) = i + (((k + 1 : Nat) : Int) + 1) by omega]
    refine ⟨?_, ?_, ?_, ?_⟩ <;> grind
theorem seg_rot {l : List Int} (hl : 0 < l.length) (i : Int) : ∃ m, m ≤ l.length ∧ seg (qa l) i l.length = l.drop m ++ l.take m := by
  obtain ⟨m, hm⟩ : ∃ m : Nat, i % (l.length : Int) = m := ⟨(i % (l.length : Int)).toNat, by rw [Int.toNat_of_nonneg (Int.emod_nonneg _ (by omega))]⟩
  have hlt : m < l.length := by have := Int.emod_lt_of_pos i (show 0 < (l.length : Int) by omega); omega
  refine ⟨m, by omega, ?_⟩
  apply List.ext_getElem?
  intro t
  by_cases ht : t < l.length
  · have hv : (seg (qa l) i l.length)[t]? = some (qa l (i + t)) := by simp [seg, ht]
    rw [hv]
    have hi : i = (l.length : Int) * (i / l.length) + m := by have := Int.mul_ediv_add_emod i l.length; omega
    by_cases h2 : m + t < l.length
    · rw [List.getElem?_append_left (by simp; omega), List.getElem?_drop, List.getElem?_eq_getElem h2]
      congr 1
      unfold qa
      rw [show (i + t) % (l.length : Int) = ((m + t : Nat) : Int) by
        rw [hi, Int.add_assoc, Int.add_comm, Int.add_mul_emod_self_left]
        exact Int.emod_eq_of_lt (by omega) (by omega), Int.toNat_natCast, List.getD_eq_getElem?_getD, List.getElem?_eq_getElem h2]
      rfl
    · rw [List.getElem?_append_right (by simp; omega), List.length_drop, List.getElem?_take_of_lt (by omega), List.getElem?_eq_getElem (by omega)]
      congr 1
      unfold qa
      rw [show (i + t) % (l.length : Int) = ((t - (l.length - m) : Nat) : Int) by
        rw [hi, show (l.length : Int) * (i / l.length) + m + t = ((t - (l.length - m) : Nat) : Int) + (l.length : Int) * (i / l.length + 1) by rw [Int.mul_add]; omega, Int.add_mul_emod_self_left]
        exact Int.emod_eq_of_lt (by omega) (by omega), Int.toNat_natCast, List.getD_eq_getElem?_getD, List.getElem?_eq_getElem (by omega)]
      rfl
  · rw [List.getElem?_eq_none (by simp [seg]; omega), List.getElem?_eq_none (by simp; omega)]
theorem en_close {l : List Int} (hl : 3 ≤ l.length) (h : clo (-1) l) (i : Int) : en (qa l) i l.length = 0 ∧ en (qa l) i (l.length - 1) = 1 := by
  have key : ∀ i : Int, en (qa l) i (l.length + 1) = -1 ∧ en (qa l) i l.length = 0 ∧ en (qa l) (i + 1) (l.length - 1) = 1 := by
    intro i
    obtain ⟨m, hm, hs⟩ := seg_rot (l := l) (by omega) (i + 1)
    have hc : clo (-1) (l.drop m ++ l.take m) := (clo_rot _ _).1 (by rw [List.take_append_drop]; exact h)
    rw [← hs] at hc
    unfold clo at hc
    obtain ⟨n, hn⟩ : ∃ n, l.length = n + 1 := ⟨l.length - 1, by omega⟩
    rw [hn] at hc ⊢
    rw [MM_seg] at hc
    simp only [Prod.mk.injEq] at hc
    rw [Nat.add_sub_cancel]
    exact ⟨hc.1, by omega, by omega⟩
  refine ⟨(key i).2.1, ?_⟩
  have := (key (i - 1)).2.2
  rwa [Int.sub_add_cancel] at this
theorem en_glide {l : List Int} (hl : 3 ≤ l.length) (h : clo (-1) l) (i : Int) : ∀ d : Nat, d ≤ l.length → en (qa l) i (l.length - d) = en (qa l) (i + ((l.length - d : Nat) : Int)) d
  | 0, _ => (en_close hl h i).1
  | 1, _ => (en_close hl h i).2
  | d + 2, hd => by
    have h0 := en_glide hl h i d (by omega)
    have h1 := en_glide hl h i (d + 1) (by omega)
    obtain ⟨m, hm⟩ : ∃ m, m = l.length - (d + 2) := ⟨_, rfl⟩
    have e0 : l.length - d = m + 2 := by omega
    have e1 : l.length - (d + 1) = m + 1 := by omega
    rw [e0] at h0
    rw [e1] at h1
    rw [← hm]
    have h2 := en_two (qa l) i m
    have h3 := en_left (qa l) d (i + m)
    rw [show i + (m : Int) + 1 = i + ((m + 1 : Nat) : Int) by omega, show i + (m : Int) + 2 = i + ((m + 2 : Nat) : Int) by omega] at h3
    rw [show i + ((m : Int) + 1) = i + ((m + 1 : Nat) : Int) by omega] at h2
    rw [h3, ← h0, ← h1, h2]
    omega
theorem en_glide' {l : List Int} (hl : 3 ≤ l.length) (h : clo (-1) l) (i : Int) (k : Nat) (hk : k ≤ l.length) : en (qa l) i k = en (qa l) (i + k) (l.length - k) := by
  have := en_glide hl h i (l.length - k) (by omega)
  rwa [show l.length - (l.length - k) = k by omega] at this
def eE (l : List Int) (a b : Nat) : Int := en (fun x => l.getD x.toNat 0) (a : Int) (b - a)
theorem eE_en {l : List Int} {a b : Nat} (hab : a ≤ b) (hb : b ≤ l.length) : eE l a b = en (qa l) (a : Int) (b - a) := by
  unfold eE
  refine en_congr _ fun t h1 h2 => ?_
  rw [show (a : Int) + t = ((a + t : Nat) : Int) by omega, qa_nat (by omega), Int.toNat_natCast]
theorem eE_self (l : List Int) (a : Nat) : eE l a a = 0 := by unfold eE; rw [Nat.sub_self]; rfl
theorem eE_next (l : List Int) (a : Nat) : eE l a (a + 1) = 1 := by unfold eE; rw [Nat.add_sub_cancel_left]; rfl
theorem eE_right {l : List Int} {a b : Nat} (h : a < b) : eE l a (b + 1) = l.getD b 0 * eE l a b - eE l a (b - 1) := by
  unfold eE
  obtain ⟨k, hk⟩ : ∃ k, b = a + (k + 1) := ⟨b - a - 1, by omega⟩
  subst hk
  rw [show a + (k + 1) + 1 - a = k + 2 by omega, show a + (k + 1) - a = k + 1 by omega, show a + (k + 1) - 1 - a = k by omega, en]
  rw [show (a : Int) + ((k + 1 : Nat) : Int) = ((a + (k + 1) : Nat) : Int) by omega, Int.toNat_natCast]
theorem eE_left {l : List Int} {a b : Nat} (h : a + 1 < b) : eE l a b = l.getD (a + 1) 0 * eE l (a + 1) b - eE l (a + 2) b := by
  unfold eE
  obtain ⟨k, hk⟩ : ∃ k, b = a + (k + 2) := ⟨b - a - 2, by omega⟩
  subst hk
  rw [show a + (k + 2) - a = k + 2 by omega, show a + (k + 2) - (a + 1) = k + 1 by omega, show a + (k + 2) - (a + 2) = k by omega, en_left]
  rw [show (a : Int) + 1 = ((a + 1 : Nat) : Int) by omega, Int.toNat_natCast, show ((a : Int) + 2) = ((a + 2 : Nat) : Int) by omega]
theorem eE_congr {l m : List Int} {a b c d : Nat} (hd : b - a = d - c) (h : ∀ t, 1 ≤ t → t < b - a → l.getD (a + t) 0 = m.getD (c + t) 0) : eE l a b = eE m c d := by
  unfold eE
  rw [← hd]
  refine en_congr _ fun t h1 h2 => ?_
  rw [show (a : Int) + t = ((a + t : Nat) : Int) by omega, show (c : Int) + t = ((c + t : Nat) : Int) by omega, Int.toNat_natCast, Int.toNat_natCast]
  exact h t h1 h2
theorem cutL_getD {l : List Int} {p : Nat} (hn : 4 ≤ l.length) (hb : ∀ z ∈ l, 1 ≤ z ∧ z ≤ 1000000) (hp : p < l.length) {t : Nat} (ht : t < l.length) (htp : t ≠ p) :
    (cutL l p).getD (if t < p then t else t - 1) 0 = l.getD t 0 - (if t = nbB l.length p ∨ t = nbC l.length p then 1 else 0) := by
  have h := cutL_get (l := l) (i := p) (p := t) (by omega) hp ht htp
  rw [List.getD_eq_getElem?_getD, h]
  unfold cutV
  have hv : 1 ≤ l.getD t 0 ∧ l.getD t 0 ≤ 1000000 := by
    rw [List.getD_eq_getElem?_getD, List.getElem?_eq_getElem ht]
    exact hb _ (List.getElem_mem ht)
  split
  · show w64 _ = _
    rw [w64_id (by omega) (by omega)]
  · rw [Int.sub_zero]
    rfl
def dn (p t : Nat) : Nat := if t < p then t else t - 1
theorem cut_lt {l : List Int} {p a b : Nat} (hn : 4 ≤ l.length) (hb : ∀ z ∈ l, 1 ≤ z ∧ z ≤ 1000000) (hp : p < l.length) (hab : a < b) (hbp : b < p) : eE (cutL l p) a b = eE l a b := by
  refine eE_congr rfl fun t h1 h2 => ?_
  have h := cutL_getD hn hb hp (t := a + t) (by omega) (by omega)
  have nb := nb_facts (n := l.length) (i := p) (by omega) hp
  rw [if_pos (by omega), if_neg (by omega), Int.sub_zero] at h
  exact h
theorem cut_gt {l : List Int} {p a b : Nat} (hn : 4 ≤ l.length) (hb : ∀ z ∈ l, 1 ≤ z ∧ z ≤ 1000000) (hp : p < a) (hab : a < b) (hbl : b < l.length) : eE (cutL l p) (a - 1) (b - 1) = eE l a b := by
  refine eE_congr (by omega) fun t h1 h2 => ?_
  have h := cutL_getD hn hb (show p < l.length by omega) (t := a + t) (by omega) (by omega)
  have nb := nb_facts (n := l.length) (i := p) (by omega) (by omega)
  rw [if_neg (by omega), if_neg (by omega), Int.sub_zero] at h
  rw [show a - 1 + t = a + t - 1 by omega]
  exact h
theorem cut_mid {l : List Int} {p a : Nat} (hn : 4 ≤ l.length) (hb : ∀ z ∈ l, 1 ≤ z ∧ z ≤ 1000000) (h1 : l[p]? = some 1) (hap : a < p) :
    ∀ d, p + 1 + d < l.length → eE (cutL l p) a (p + d) = eE l a (p + 1 + d) := by
  have hp : p < l.length := by
    rcases Nat.lt_or_ge p l.length with h | h
    · exact h
    · rw [List.getElem?_eq_none h] at h1; cases h1
  have h1' : l.getD p 0 = 1 := by rw [List.getD_eq_getElem?_getD, h1]; rfl
  intro d
  induction d using Nat.strongRecOn with
  | ind d ih =>
    intro hd
    have nb := nb_facts (n := l.length) (i := p) (by omega) hp
    have nB : nbB l.length p = p - 1 := by omega
    have nC : nbC l.length p = p + 1 := by omega
    have low : ∀ c, a ≤ c → c < p → eE (cutL l p) a c = eE l a c := by
      intro c hc1 hc2
      refine eE_congr rfl fun t t1 t2 => ?_
      have h := cutL_getD hn hb hp (t := a + t) (by omega) (by omega)
      rw [if_pos (by omega), if_neg (by omega), Int.sub_zero] at h
      exact h
    have e1 : eE l a (p + 1) = eE l a p - eE l a (p - 1) := by rw [eE_right hap, h1', Int.one_mul]
    have hm1 : (cutL l p).getD (p - 1) 0 = l.getD (p - 1) 0 - 1 := by
      have h := cutL_getD hn hb hp (t := p - 1) (by omega) (by omega)
      rwa [if_pos (by omega), if_pos (by omega)] at h
    have e0 : eE (cutL l p) a p = eE l a (p + 1) := by
      by_cases hc : a + 1 = p
      · subst hc
        rw [eE_next, e1, eE_next, Nat.add_sub_cancel, eE_self]
        rfl
      · have e2 := eE_right (l := cutL l p) (a := a) (b := p - 1) (by omega)
        have e3 := eE_right (l := l) (a := a) (b := p - 1) (by omega)
        rw [show p - 1 + 1 = p by omega] at e2 e3
        rw [e2, e1, e3, hm1, low (p - 1) (by omega) (by omega), low (p - 1 - 1) (by omega) (by omega)]
        grind
    match d with
    | 0 => exact e0
    | 1 =>
      have hm2 : (cutL l p).getD p 0 = l.getD (p + 1) 0 - 1 := by
        have h := cutL_getD hn hb hp (t := p + 1) (by omega) (by omega)
        rwa [if_neg (by omega), if_pos (by omega), Nat.add_sub_cancel] at h
      have e4 := eE_right (l := cutL l p) (a := a) (b := p) (by omega)
      have e5 := eE_right (l := l) (a := a) (b := p + 1) (by omega)
      rw [e4, e5, e0, hm2, low (p - 1) (by omega) (by omega), Nat.add_sub_cancel]
      grind
    | d + 2 =>
      have i1 := ih (d + 1) (by omega) (by omega)
      have i0 := ih d (by omega) (by omega)
      have hm : (cutL l p).getD (p + (d + 1)) 0 = l.getD (p + 1 + (d + 1)) 0 := by
        have h := cutL_getD hn hb hp (t := p + 1 + (d + 1)) (by omega) (by omega)
        rwa [if_neg (by omega), if_neg (by omega), Int.sub_zero, show p + 1 + (d + 1) - 1 = p + (d + 1) by omega] at h
      have e4 := eE_right (l := cutL l p) (a := a) (b := p + (d + 1)) (by omega)
      have e5 := eE_right (l := l) (a := a) (b := p + 1 + (d + 1)) (by omega)
      rw [show p + (d + 1) + 1 = p + (d + 2) by omega, show p + (d + 1) - 1 = p + d by omega] at e4
      rw [show p + 1 + (d + 1) + 1 = p + 1 + (d + 2) by omega, show p + 1 + (d + 1) - 1 = p + 1 + d by omega] at e5
      rw [e4, e5, i1, i0, hm]
theorem cut_eE {l : List Int} {p a b : Nat} (hn : 4 ≤ l.length) (hb : ∀ z ∈ l, 1 ≤ z ∧ z ≤ 1000000) (h1 : l[p]? = some 1) (hab : a < b) (hbl : b < l.length) (ha : a ≠ p) (hbp : b ≠ p) :
    eE (cutL l p) (dn p a) (dn p b) = eE l a b := by
  have hp : p < l.length := by
    rcases Nat.lt_or_ge p l.length with h | h
    · exact h
    · rw [List.getElem?_eq_none h] at h1; cases h1
  unfold dn
  rcases Nat.lt_or_gt_of_ne ha with h | h
  · rcases Nat.lt_or_gt_of_ne hbp with h' | h'
    · rw [if_pos h, if_pos h']; exact cut_lt hn hb hp hab h'
    · rw [if_pos h, if_neg (by omega)]
      have := cut_mid hn hb h1 h (b - p - 1) (by omega)
      rwa [show p + (b - p - 1) = b - 1 by omega, show p + 1 + (b - p - 1) = b by omega] at this
  · rw [if_neg (by omega), if_neg (by omega)]; exact cut_gt hn hb h hab hbl
def dE (l : List Int) (a b : Nat) : Int := if a ≤ b then eE l a b else eE l b a
theorem ear_eE {l : List Int} {p b : Nat} (hn : 4 ≤ l.length) (hc : clo (-1) l) (h1 : l[p]? = some 1) (hp : p < l.length) (hb : b < l.length) (hbp : b ≠ p) :
    dE l p b = dE l (nbB l.length p) b + dE l (nbC l.length p) b := by
  have h1' : l.getD p 0 = 1 := by rw [List.getD_eq_getElem?_getD, h1]; rfl
  have nb := nb_facts (n := l.length) (i := p) (by omega) hp
  unfold dE
  rcases Nat.lt_or_gt_of_ne hbp with h | h
  · -- the other corner comes first
    rw [if_neg (by omega)]
    by_cases hl : p = l.length - 1
    · have nB : nbB l.length p = p - 1 := by omega
      have nC : nbC l.length p = 0 := by omega
      rw [nB, nC, if_pos (by omega : (0 : Nat) ≤ b)]
      have e := eE_right (l := l) (a := b) (b := p) h
      have g := en_glide' (l := l) (by omega) hc (b : Int) (l.length - b) (by omega)
      rw [show ((b : Int) + ((l.length - b : Nat) : Int)) = 0 + l.length by omega, en_per, show l.length - (l.length - b) = b by omega] at g
      have g1 := eE_en (l := l) (a := b) (b := l.length) (by omega) (by omega)
      have g2 := eE_en (l := l) (a := 0) (b := b) (by omega) (by omega)
      rw [Nat.sub_zero] at g2
      rw [g, show ((0 : Int)) = ((0 : Nat) : Int) from rfl, ← g2] at g1
      rw [show p + 1 = l.length by omega, g1, h1', Int.one_mul] at e
      by_cases hq : p - 1 ≤ b
      · obtain rfl : b = p - 1 := by omega
        rw [if_pos (by omega), eE_self]
        rw [eE_self] at e
        omega
      · rw [if_neg hq]
        omega
    · have nC : nbC l.length p = p + 1 := by omega
      have nB : nbB l.length p = p - 1 := by omega
      rw [nB, nC, if_neg (by omega : ¬ p + 1 ≤ b)]
      have e := eE_right (l := l) (a := b) (b := p) h
      rw [h1', Int.one_mul] at e
      by_cases hq : p - 1 ≤ b
      · obtain rfl : b = p - 1 := by omega
        rw [if_pos (by omega), eE_self]
        rw [eE_self] at e
        omega
      · rw [if_neg hq]
        omega
  · rw [if_pos (by omega)]
    by_cases hl : p = 0
    · subst hl
      have nC : nbC l.length 0 = 1 := by omega
      have nB : nbB l.length 0 = l.length - 1 := by omega
      rw [nB, nC, if_pos (by omega : 1 ≤ b)]
      have e := en_left (qa l) (b - 1) (-1)
      have g := en_glide' (l := l) (by omega) hc (-1) (b + 1) (by omega)
      rw [show b - 1 + 2 = b + 1 by omega, show b - 1 + 1 = b by omega, show (-1 : Int) + 1 = ((0 : Nat) : Int) by omega, show (-1 : Int) + 2 = ((1 : Nat) : Int) by omega, g, qa_nat hp, h1', Int.one_mul,
        show ((-1 : Int) + ((b + 1 : Nat) : Int)) = (b : Int) by omega] at e
      have g1 := eE_en (l := l) (a := 0) (b := b) (by omega) (by omega)
      have g2 := eE_en (l := l) (a := 1) (b := b) (by omega) (by omega)
      have g3 := eE_en (l := l) (a := b) (b := l.length - 1) (by omega) (by omega)
      rw [show l.length - 1 - b = l.length - (b + 1) by omega] at g3
      rw [Nat.sub_zero] at g1
      rw [← g1, ← g2, ← g3] at e
      by_cases hq : l.length - 1 ≤ b
      · obtain rfl : b = l.length - 1 := by omega
        rw [if_pos (by omega), eE_self]
        rw [eE_self] at e
        omega
      · rw [if_neg hq]
        omega
    · have nB : nbB l.length p = p - 1 := by omega
      rw [nB, if_pos (by omega : p - 1 ≤ b)]
      have e := eE_left (l := l) (a := p - 1) (b := b) (by omega)
      rw [show p - 1 + 1 = p by omega, show p - 1 + 2 = p + 1 by omega, h1', Int.one_mul] at e
      by_cases hl : p = l.length - 1
      · omega
      · have nC : nbC l.length p = p + 1 := by omega
        rw [nC, if_pos (by omega)]
        omega
def adj (n a b : Nat) : Prop := b = a + 1 ∨ (a = 0 ∧ b = n - 1)
theorem eE_main : ∀ (k : Nat) (l names : List Int) (ds : List Dg), l.length = k + 3 → (∀ z ∈ l, 1 ≤ z ∧ z ≤ 1000000) → names.Pairwise (· < ·) → names.length = k + 3 → triS k l names = some ds →
    ∀ a b, a < b → b < k + 3 → 1 ≤ eE l a b ∧ eE l a b ≤ 2 ^ k ∧ (eE l a b = 1 ↔ adj (k + 3) a b ∨ (names.getD a 0, names.getD b 0) ∈ ds)
  | 0, l, names, ds, hl, hb, hs, hn, h, a, b, hab, hbl => by
    simp only [triS] at h
    split at h
    · rename_i hl3
      subst hl3
      have : (a = 0 ∧ b = 1) ∨ (a = 0 ∧ b = 2) ∨ (a = 1 ∧ b = 2) := by omega
      rcases this with ⟨rfl, rfl⟩ | ⟨rfl, rfl⟩ | ⟨rfl, rfl⟩ <;> simp [eE, en, adj]
    · cases h
  | k + 1, l, names, ds, hl, hb, hs, hn, h, a, b, hab, hbl => by
    have hclo := tri_clo (k + 1) l names ds hl hb h
    simp only [triS] at h
    split at h
    · cases h
    · rename_i p hear
      split at h
      · rename_i hok
        obtain ⟨ds', h', rfl⟩ := Option.map_eq_some_iff.1 h
        obtain ⟨hp, h1⟩ := ear_lt hear
        have hn4 : 4 ≤ l.length := by omega
        have hlen : (cutL l p).length = k + 3 := by rw [cutL_length hp]; omega
        have hnam : (names.eraseIdx p).length = k + 3 := by rw [List.length_eraseIdx, if_pos (by omega)]; omega
        have hsort : (names.eraseIdx p).Pairwise (· < ·) := hs.sublist (List.eraseIdx_sublist _ _)
        have nb := nb_facts (n := l.length) (i := p) (by omega) hp
        have hb' : ∀ z ∈ cutL l p, 1 ≤ z ∧ z ≤ 1000000 := by
          intro z hz
          obtain ⟨t', ht'⟩ := List.getElem?_of_mem hz
          have htl : t' < l.length - 1 := by
            rw [← cutL_length hp]
            rcases Nat.lt_or_ge t' (cutL l p).length with hh | hh
            · exact hh
            · rw [List.getElem?_eq_none hh] at ht'; cases ht'
          obtain ⟨t, ht1, ht2, ht3⟩ : ∃ t, t < l.length ∧ t ≠ p ∧ t' = dn p t := by
            by_cases hh : t' < p
            · exact ⟨t', by omega, by omega, by unfold dn; rw [if_pos hh]⟩
            · exact ⟨t' + 1, by omega, by omega, by unfold dn; rw [if_neg (by omega)]; rfl⟩
          have hv := cutL_getD hn4 hb hp ht1 ht2
          rw [show (if t < p then t else t - 1) = t' from ht3.symm, List.getD_eq_getElem?_getD, ht'] at hv
          simp only [Option.getD_some] at hv
          have hbt : ∀ u, u < l.length → 1 ≤ l.getD u 0 ∧ l.getD u 0 ≤ 1000000 := fun u hu => by
            rw [List.getD_eq_getElem?_getD, List.getElem?_eq_getElem hu]
            exact hb _ (List.getElem_mem hu)
          have hb1 := hbt t ht1
          have hb2 := hbt (nbB l.length p) nb.1
          have hb3 := hbt (nbC l.length p) nb.2.1
          unfold okC at hok
          rw [decide_eq_true_eq, w64_id (by omega) (by omega), w64_id (by omega) (by omega)] at hok
          rw [hv]
          split
          · rename_i hc
            rcases hc with hc | hc <;> rw [hc] at hb1 ⊢ <;> omega
          · omega
        have ih := eE_main k (cutL l p) (names.eraseIdx p) ds' hlen hb' hsort hnam h'
        have hg := (tri_good k (cutL l p) (names.eraseIdx p) ds' hsort hlen hnam (triS_tri k _ _ _ hsort hlen hnam (fun v hv => by have := hb' v hv; omega) h').1).2.1
        -- names of corners that are left
        have nget : ∀ t, t ≠ p → (names.eraseIdx p).getD (dn p t) 0 = names.getD t 0 := fun t ht => by
          rw [List.getD_eq_getElem?_getD, show dn p t = if t < p then t else t - 1 from rfl, erase_get ht, ← List.getD_eq_getElem?_getD]
        have ninj : ∀ s t, s < k + 4 → t < k + 4 → names.getD s 0 = names.getD t 0 → s = t := fun s t h1 h2 he => by
          rw [List.getD_eq_getElem?_getD, List.getD_eq_getElem?_getD, List.getElem?_eq_getElem (by omega), List.getElem?_eq_getElem (by omega)] at he
          exact sorted_inj hs (List.getElem?_eq_getElem (by omega)) (by rw [List.getElem?_eq_getElem (show t < names.length by omega)]; exact congrArg some he.symm)
        have nlt : ∀ s t, s < t → t < k + 4 → names.getD s 0 < names.getD t 0 := fun s t h1 h2 => by
          have := sorted_get hs h1 (List.getElem?_eq_getElem (show s < names.length by omega)) (List.getElem?_eq_getElem (show t < names.length by omega))
          rw [List.getD_eq_getElem?_getD, List.getD_eq_getElem?_getD, List.getElem?_eq_getElem (show s < names.length by omega), List.getElem?_eq_getElem (show t < names.length by omega)]
          exact this
        -- entries of corners other than the ear
        have other : ∀ s t, s < t → t < k + 4 → s ≠ p → t ≠ p → 1 ≤ eE l s t ∧ eE l s t ≤ 2 ^ k ∧ (eE l s t = 1 ↔ adj (k + 3) (dn p s) (dn p t) ∨ (names.getD s 0, names.getD t 0) ∈ ds') := by
          intro s t hst htk hs1 ht1
          have e := cut_eE hn4 hb h1 hst (by omega) hs1 ht1
          have i := ih (dn p s) (dn p t) (by unfold dn; split <;> split <;> omega) (by unfold dn; split <;> omega)
          rw [e, nget s hs1, nget t ht1] at i
          exact i
        have hd : cutD names p = if p = 0 then (names.getD 1 0, names.getD (k + 3) 0) else if p = k + 3 then (names.getD 0 0, names.getD (k + 2) 0) else (names.getD (p - 1) 0, names.getD (p + 1) 0) := by
          unfold cutD
          rw [show names.length = l.length by omega]
          by_cases c0 : p = 0
          · rw [if_pos c0, show nbB l.length p = k + 3 by omega, show nbC l.length p = 1 by omega]
            have := nlt 1 (k + 3) (by omega) (by omega)
            rw [Int.min_eq_right (by omega), Int.max_eq_left (by omega)]
          · rw [if_neg c0]
            by_cases c1 : p = k + 3
            · rw [if_pos c1, show nbB l.length p = k + 2 by omega, show nbC l.length p = 0 by omega]
              have := nlt 0 (k + 2) (by omega) (by omega)
              rw [Int.min_eq_right (by omega), Int.max_eq_left (by omega)]
            · rw [if_neg c1, show nbB l.length p = p - 1 by omega, show nbC l.length p = p + 1 by omega]
              have := nlt (p - 1) (p + 1) (by omega) (by omega)
              rw [Int.min_eq_left (by omega), Int.max_eq_right (by omega)]
        have hpow : (2 : Int) ^ (k + 1) = 2 * 2 ^ k := by rw [Int.pow_succ, Int.mul_comm]
        have hpos : (1 : Int) ≤ 2 ^ k := by
          have : (0 : Int) < 2 ^ k := Int.pow_pos (by omega)
          omega
        by_cases hap : a = p ∨ b = p
        · -- one of the two is the ear
          obtain ⟨c, hc1, hc2, hc3, hc4⟩ : ∃ c, c < k + 4 ∧ c ≠ p ∧ eE l a b = dE l p c ∧ (adj (k + 4) a b ↔ (c = nbB l.length p ∨ c = nbC l.length p)) := by
            rcases hap with rfl | rfl
            · exact ⟨b, by omega, by omega, by unfold dE; rw [if_pos (by omega)], by unfold adj; omega⟩
            · exact ⟨a, by omega, by omega, by unfold dE; rw [if_neg (by omega)], by unfold adj; omega⟩
          have hnot : (names.getD a 0, names.getD b 0) ∉ cutD names p :: ds' := by
            intro hmem
            rcases List.mem_cons.1 hmem with hm | hm
            · rw [hd] at hm
              split at hm
              · have e1 := ninj _ _ (by omega) (by omega) (Prod.mk.inj hm).1
                have e2 := ninj _ _ (by omega) (by omega) (Prod.mk.inj hm).2
                omega
              · split at hm
                · have e1 := ninj _ _ (by omega) (by omega) (Prod.mk.inj hm).1
                  have e2 := ninj _ _ (by omega) (by omega) (Prod.mk.inj hm).2
                  omega
                · have e1 := ninj _ _ (by omega) (by omega) (Prod.mk.inj hm).1
                  have e2 := ninj _ _ (by omega) (by omega) (Prod.mk.inj hm).2
                  omega
            · have he := hg _ hm
              have hmm : names.getD p 0 ∈ names.eraseIdx p := by
                rcases hap with rfl | rfl
                · exact he.1
                · exact he.2.1
              obtain ⟨u, hu1, hu2⟩ := erase_mem hmm
              have hul : u < names.length := by
                rcases Nat.lt_or_ge u names.length with hh | hh
                · exact hh
                · rw [List.getElem?_eq_none hh] at hu2; cases hu2
              refine hu1 (ninj u p (by omega) (by omega) ?_)
              rw [List.getD_eq_getElem?_getD, hu2]
              rfl
          have hsum := ear_eE hn4 hclo h1 hp (show c < l.length by omega) hc2
          -- the entry of a neighbour and the other corner
          have part : ∀ m, m < k + 4 → m ≠ p → m ≠ c → 1 ≤ dE l m c ∧ dE l m c ≤ 2 ^ k := by
            intro m hm1 hm2 hm3
            unfold dE
            by_cases hmc : m ≤ c
            · rw [if_pos hmc]
              have := other m c (by omega) (by omega) hm2 hc2
              exact ⟨this.1, this.2.1⟩
            · rw [if_neg hmc]
              have := other c m (by omega) (by omega) hc2 hm2
              exact ⟨this.1, this.2.1⟩
          have self : ∀ m, m = c → dE l m c = 0 := fun m hm => by subst hm; unfold dE; rw [if_pos (by omega), eE_self]
          rw [hc3, hc4, hsum, hpow]
          by_cases hB : c = nbB l.length p
          · have p2 := part (nbC l.length p) (by omega) (by omega) (by omega)
            rw [self _ hB.symm]
            have hone : dE l (nbC l.length p) c = 1 := by
              have h0 := hsum
              rw [self _ hB.symm, Int.zero_add] at h0
              rw [← h0]
              -- the ear and its neighbour: a side
              unfold dE
              by_cases hpc : p ≤ c
              · rw [if_pos hpc]
                by_cases hp0 : p = 0
                · have hc' : c = l.length - 1 := by omega
                  rw [hc', hp0, eE_en (by omega) (by omega), Nat.sub_zero]
                  exact (en_close (by omega) hclo _).2
                · omega
              · rw [if_neg hpc, show p = c + 1 by omega, eE_next]
            refine ⟨by omega, by omega, ?_⟩
            rw [hone]
            exact ⟨fun _ => .inl (.inl hB), fun _ => rfl⟩
          · by_cases hC : c = nbC l.length p
            · have p2 := part (nbB l.length p) (by omega) (by omega) (by omega)
              rw [self _ hC.symm]
              have hone : dE l (nbB l.length p) c = 1 := by
                have h0 := hsum
                rw [self _ hC.symm, Int.add_zero] at h0
                rw [← h0]
                unfold dE
                by_cases hpc : p ≤ c
                · rw [if_pos hpc, show c = p + 1 by omega, eE_next]
                · rw [if_neg hpc]
                  have hc' : c = 0 := by omega
                  have hp' : p = l.length - 1 := by omega
                  rw [hc', hp', eE_en (by omega) (by omega), Nat.sub_zero]
                  exact (en_close (by omega) hclo _).2
              refine ⟨by omega, by omega, ?_⟩
              rw [hone]
              exact ⟨fun _ => .inl (.inr hC), fun _ => rfl⟩
            · have p1 := part (nbB l.length p) (by omega) (by omega) (fun e => hB e.symm)
              have p2 := part (nbC l.length p) (by omega) (by omega) (fun e => hC e.symm)
              refine ⟨by omega, by omega, ?_⟩
              constructor
              · intro e; omega
              · rintro (e | e)
                · rcases e with e | e
                  · exact absurd e hB
                  · exact absurd e hC
                · exact absurd e hnot
        · have hap' : a ≠ p ∧ b ≠ p := ⟨fun e => hap (.inl e), fun e => hap (.inr e)⟩
          obtain ⟨o1, o2, o3⟩ := other a b hab hbl hap'.1 hap'.2
          refine ⟨o1, by rw [hpow]; omega, ?_⟩
          rw [o3]
          have hdm : (names.getD a 0, names.getD b 0) = cutD names p ↔ (adj (k + 3) (dn p a) (dn p b) ∧ ¬ adj (k + 4) a b) := by
            rw [hd]
            constructor
            · intro he
              split at he
              · have e1 := ninj _ _ (by omega) (by omega) (Prod.mk.inj he).1
                have e2 := ninj _ _ (by omega) (by omega) (Prod.mk.inj he).2
                unfold adj dn
                repeat' split
                all_goals omega
              · split at he
                · have e1 := ninj _ _ (by omega) (by omega) (Prod.mk.inj he).1
                  have e2 := ninj _ _ (by omega) (by omega) (Prod.mk.inj he).2
                  unfold adj dn
                  repeat' split
                  all_goals omega
                · have e1 := ninj _ _ (by omega) (by omega) (Prod.mk.inj he).1
                  have e2 := ninj _ _ (by omega) (by omega) (Prod.mk.inj he).2
                  unfold adj dn
                  repeat' split
                  all_goals omega
            · rintro ⟨x1, x2⟩
              unfold adj dn at x1
              unfold adj at x2
              have key : (p = 0 ∧ a = 1 ∧ b = k + 3) ∨ (p = k + 3 ∧ a = 0 ∧ b = k + 2) ∨ (p ≠ 0 ∧ p ≠ k + 3 ∧ a = p - 1 ∧ b = p + 1) := by
                revert x1
                repeat' split
                all_goals (intro x1; omega)
              rcases key with ⟨c1, c2, c3⟩ | ⟨c1, c2, c3⟩ | ⟨c1, c2, c3, c4⟩
              · rw [if_pos c1, c2, c3]
              · rw [if_neg (by omega), if_pos c1, c2, c3]
              · rw [if_neg c1, if_neg c2, c3, c4]
          have hadj : adj (k + 4) a b → adj (k + 3) (dn p a) (dn p b) := by
            unfold adj dn
            intro hh
            repeat' split
            all_goals omega
          rw [List.mem_cons, hdm]
          by_cases hA : adj (k + 4) a b
          · exact ⟨fun _ => .inl hA, fun _ => .inl (hadj hA)⟩
          · constructor
            · rintro (x | x)
              · exact .inr (.inl ⟨x, hA⟩)
              · exact .inr (.inr x)
            · rintro (x | ⟨x, _⟩ | x)
              · exact absurd x hA
              · exact .inl x
              · exact .inr x
      · cases h



theorem quid_triS {l : List Int} {ds : List Dg} (h : trOf l = some ds) : ∃ es, triS (l.length - 3) l (nameL l.length) = some es ∧ ds = sortD es ∧ (∀ z ∈ l, 1 ≤ z ∧ z ≤ 1000000) ∧ 3 ≤ l.length ∧ l.length ≤ 12 := by
  have hb := trOf_bounds (l := l) (by rw [h]; rfl)
  have hb12 : l.all (inB 1 12) = true := List.all_eq_true.2 fun v hv => by have := hb.2 v hv; rw [inB_iff]; omega
  have hs := trOf_spec l hb12 (by rw [inB_iff]; omega)
  rw [h] at hs
  obtain ⟨es, h1, h2⟩ := Option.map_eq_some_iff.1 hs
  exact ⟨es, h1, h2.symm, fun z hz => by have := hb.2 z hz; omega, hb.1.1, hb.1.2⟩
theorem nameL_getD {n a : Nat} (h : a < n) : (nameL n).getD a 0 = (a : Int) := by simp [nameL, List.getD_eq_getElem?_getD, h]
theorem fr_pair {l : List Int} {ds : List Dg} (h : trOf l = some ds) {a b : Nat} (hab : a < b) (hb : b < l.length) :
    1 ≤ eE l a b ∧ eE l a b ≤ 512 ∧ (eE l a b = 1 ↔ adj l.length a b ∨ ((a : Int), (b : Int)) ∈ ds) := by
  obtain ⟨es, h1, h2, h3, h4, h5⟩ := quid_triS h
  obtain ⟨g1, g2, g3⟩ := eE_main (l.length - 3) l (nameL l.length) es (by omega) h3 (nameL_sorted _) (by rw [nameL_length]; omega) h1 a b hab (by omega)
  rw [show l.length - 3 + 3 = l.length by omega, nameL_getD (by omega), nameL_getD hb] at g3
  refine ⟨g1, ?_, ?_⟩
  · have : ∀ k, k ≤ 9 → (2 : Int) ^ k ≤ 512 := by decide
    have := this (l.length - 3) (by omega)
    omega
  · rw [g3, h2, (sortD_perm es).mem_iff]
theorem en_mod (l : List Int) (i : Int) (k : Nat) : en (qa l) i k = en (qa l) (i % (l.length : Int)) k :=
  en_congr k fun t _ _ => by unfold qa; rw [Int.emod_add_emod]
theorem en_pair {l : List Int} (hc : clo (-1) l) (hl : 3 ≤ l.length) (i : Int) {k : Nat} (h1 : 1 ≤ k) (h2 : k < l.length) : ∃ r a b : Nat, (r : Int) = i % (l.length : Int) ∧ r < l.length ∧ a < b ∧ b < l.length ∧ en (qa l) i k = eE l a b ∧
    ((r + k < l.length ∧ a = r ∧ b = r + k) ∨ (l.length ≤ r + k ∧ a = r + k - l.length ∧ b = r)) := by
  obtain ⟨r, hr⟩ : ∃ r : Nat, (r : Int) = i % (l.length : Int) := ⟨(i % (l.length : Int)).toNat, by rw [Int.toNat_of_nonneg (Int.emod_nonneg _ (by omega))]⟩
  have hlt : r < l.length := by have := Int.emod_lt_of_pos i (show 0 < (l.length : Int) by omega); omega
  rw [en_mod, ← hr]
  by_cases h : r + k < l.length
  · refine ⟨r, r, r + k, rfl, hlt, by omega, h, ?_, .inl ⟨h, rfl, rfl⟩⟩
    rw [eE_en (by omega) (by omega), Nat.add_sub_cancel_left]
  · refine ⟨r, r + k - l.length, r, rfl, hlt, by omega, hlt, ?_, .inr ⟨by omega, rfl, rfl⟩⟩
    rw [en_glide' hl hc _ k (by omega), show (r : Int) + k = ((r + k - l.length : Nat) : Int) + l.length by omega, en_per, eE_en (by omega) (by omega)]
    congr 1
    omega
theorem en_pos {l : List Int} {ds : List Dg} (h : trOf l = some ds) (i : Int) {k : Nat} (h1 : 1 ≤ k) (h2 : k < l.length) : 1 ≤ en (qa l) i k ∧ en (qa l) i k ≤ 512 := by
  obtain ⟨_, _, _, _, h4, _⟩ := quid_triS h
  obtain ⟨r, a, b, _, _, hab, hb, e, _⟩ := en_pair (quid_clo (by rw [h]; rfl)) h4 i h1 h2
  rw [e]
  have := fr_pair h hab hb
  exact ⟨this.1, this.2.1⟩
theorem tri_rng {n : Nat} {ds : List Dg} (h : isTri n ds = true) : (∀ d ∈ ds, 0 ≤ d.1 ∧ d.1 + 1 < d.2 ∧ d.2 < n ∧ ¬ (d.1 = 0 ∧ d.2 = n - 1)) ∧ ds.Nodup ∧ (ds.length : Int) = n - 3 ∧ 3 ≤ n ∧ n ≤ 12 := by
  obtain ⟨g1, g2, g3, g4⟩ := (isTri_iff _ _).1 h
  refine ⟨fun d hd => ?_, ?_, g2, by omega, by omega⟩
  · have := inDg_iff.1 (g3 d hd)
    omega
  · exact g4.imp fun {a b} hh e => by subst e; simp [ltD] at hh
theorem sum_range_succ' (f : Nat → Int) (n : Nat) : ((List.range (n + 1)).map f).sum = ((List.range n).map f).sum + f n := by
  simp [List.range_succ]
theorem mem_dgL_iff {n : Nat} {d : Dg} : d ∈ dgL n ↔ inDg n d = true := by
  refine ⟨fun h => ?_, mem_dgL⟩
  unfold dgL at h
  obtain ⟨a, _, h⟩ := List.mem_flatMap.1 h
  exact (List.mem_filter.1 h).2
theorem ones_list {l : List Int} {ds : List Dg} (h : trOf l = some ds) : (dgL l.length).filter (fun d => decide (en (qa l) d.1 (d.2 - d.1).toNat = 1)) = ds := by
  obtain ⟨ht, _⟩ := trOf_tri h
  obtain ⟨g1, g2, g3, g4, g5⟩ := tri_rng ht
  have hdg : ∀ n, n ≤ 12 → (dgL n).Pairwise (fun d e => ltD d e = true) := by decide +kernel
  have hup := hdg l.length g5
  have hmem : ∀ d : Dg, d ∈ (dgL l.length).filter (fun d => decide (en (qa l) d.1 (d.2 - d.1).toNat = 1)) ↔ d ∈ ds := by
    intro d
    rw [List.mem_filter, decide_eq_true_eq]
    constructor
    · rintro ⟨h1, h2⟩
      have hi := inDg_iff.1 ((mem_dgL_iff.1 h1))
      obtain ⟨a, ha⟩ : ∃ a : Nat, d.1 = a := ⟨d.1.toNat, by omega⟩
      obtain ⟨b, hb⟩ : ∃ b : Nat, d.2 = b := ⟨d.2.toNat, by omega⟩
      have hp := (fr_pair h (a := a) (b := b) (by omega) (by omega)).2.2
      rw [ha, hb, show ((b : Int) - a).toNat = b - a by omega, ← eE_en (by omega) (by omega)] at h2
      rcases hp.1 h2 with hh | hh
      · unfold adj at hh; omega
      · rw [← ha, ← hb] at hh; exact hh
    · intro hd
      have := g1 d hd
      refine ⟨mem_dgL (inDg_iff.2 (by omega)), ?_⟩
      obtain ⟨a, ha⟩ : ∃ a : Nat, d.1 = a := ⟨d.1.toNat, by omega⟩
      obtain ⟨b, hb⟩ : ∃ b : Nat, d.2 = b := ⟨d.2.toNat, by omega⟩
      have hp := (fr_pair h (a := a) (b := b) (by omega) (by omega)).2.2
      rw [ha, hb, show ((b : Int) - a).toNat = b - a by omega, ← eE_en (by omega) (by omega)]
      refine hp.2 (.inr ?_)
      rw [← ha, ← hb]
      exact hd
  have hs1 : SortedD ((dgL l.length).filter (fun d => decide (en (qa l) d.1 (d.2 - d.1).toNat = 1))) := (hup.sublist List.filter_sublist).imp fun hh => leD_of_lt hh
  obtain ⟨es, _, h2, _⟩ := quid_triS h
  have hs2 : SortedD ds := by rw [h2]; exact sortD_sorted es
  refine sorted_unique hs1 hs2 ((List.perm_ext_iff_of_nodup ?_ g2).2 hmem)
  refine List.Pairwise.sublist List.filter_sublist (hup.imp fun {a b} hh e => ?_)
  subst e
  simp [ltD] at hh


def F70_sh : FSh := ⟨[(.one (.sl (.int .i64) false false)), (.one (.si .i64))], []⟩

def F70_L3_sh : LSh := ⟨(fun ex => match ex with | .norm => [(0, none), (1, none), (5, none), (6, none), (7, none)] | .exit i => if i = 0 then [(6, none)] else [] | .ret => [(4, none)]), [(0, (.one (.sl (.int .i64) false false))), (1, (.one (.si .i64))), (5, (.one (.si .i64))), (6, (.one (.rw 0 0))), (7, (.one (.si .i64)))], [(.row 0 (.int .i64))], [⟨(.exit 0), [(6, (.one (.rw 0 0)))], [(.row 0 (.int .i64))]⟩], [], []⟩
noncomputable def F70_L3_step : ((List (Int) × Int × Int × Unit × Int) × List (Int)) → T (((List (Int) × Int × Int × Unit × Int) × List (Int)) ⊕ (Unit × List (Int))) := fun ((quiddity, i, n, (), j), out) =>
 (.test (decide (j < n))
 (.sub (F81 ((w64 (i + j)), n)) fun z0 =>
 (.test (decide ((0 ≤ z0) ∧ (z0 < ((List.length quiddity) : Int))))
 (.sub (quiddity[(Int.toNat z0)]?) fun z1 =>
 (.test (decide ((0 ≤ j) ∧ (j < ((List.length out) : Int))))
 (.sub (out[(0 + (Int.toNat j))]?) fun z2 =>
 (.test (decide ((0 ≤ (w64 (j - 1))) ∧ ((w64 (j - 1)) < ((List.length out) : Int))))
 (.sub (out[(0 + (Int.toNat (w64 (j - 1))))]?) fun z3 =>
 (.test (decide (1 ≤ 1))
 (.test (decide ((0 + (List.length out)) ≤ (List.length out)))
 (.test (decide ((2 * (((List.length out) + 1) * 9)) ≤ 140737488355328))
 (.test (decide ((0 = 0) ∧ (((List.length out) + 1) = (List.length ((win out 0 (List.length out)) ++ [(w64 ((w64 (z1 * z2)) - z3))])))))
 (.ret (Sum.inl ((quiddity, (i, (n, ((), (w64 (j + 1)))))), ((win out 0 (List.length out)) ++ [(w64 ((w64 (z1 * z2)) - z3))]))))
 .fail)
 .fail)
 .fail)
 .fail))
 .fail))
 .fail))
 .fail))
 (.test (decide ((0 = 0) ∧ ((List.length out) = (List.length out))))
 (.ret (Sum.inr ((), out)))
 .fail))
noncomputable def F70_L3 (v : ((List (Int) × Int × Int × Unit × Int) × List (Int))) : Option (Unit × List (Int)) := loopO (fun v => (F70_L3_step v).run) v

def F70_fo : List FO := [⟨[(.one (.rw 0 0))], [(.row 0 (.int .i64))]⟩]
noncomputable def F70_t : (List (Int) × Int) → T (Unit × List (Int)) := fun (quiddity, i) =>
 (.test true
 (.sub (F70_L3 ((quiddity, (i, (((List.length quiddity) : Int), ((), (1 : Int))))), [(0 : Int), (1 : Int)])) fun z0 =>
 (.test (decide ((0 = 0) ∧ ((List.length z0.2) = (List.length z0.2))))
 (.ret ((), z0.2))
 .fail))
 .fail)
noncomputable def F70 (v : (List (Int) × Int)) : Option (Unit × List (Int)) := (F70_t v).run
noncomputable def F70_E : TEnv := (E0.add1 n_F81 F81_sh F81_fo F81)
theorem F70_Eok : (F70_E).OK := (E0ok.add1 F81_ok)
noncomputable def F70_told : Nat → Option SealT := fun id => if id = 3 then some (LSh.told F70_L3_sh 0 (F70_L3_step)) else none
theorem F70_L3_ok : ToldOK Tryz.prog 0 (loopAt (bodyOf fn_F70) [0]) (LSh.told F70_L3_sh 0 (F70_L3_step)) :=
  loop_ok (E := F70_E) (F70_Eok) (told := F70_told) (l := F70_L3_sh) (step := F70_L3_step) (loopsOK_of (ls := []) (by kernel_rfl) trivial) (by kernel_rfl) (fun v => by kernel_rfl)
theorem F70_ok : FOK Tryz.prog n_F70 F70_sh F70_fo F70 :=
  fn_ok (E := F70_E) (F70_Eok) (told := F70_told) (fl := []) (c := bodyOf fn_F70) (s := F70_sh) (l := F70_fo) (tree := F70_t) fnat_F70 (by kernel_rfl) (by kernel_rfl) (by kernel_rfl) (loopsOK_of (ls := [loopAt (bodyOf fn_F70) [0]]) (by kernel_rfl) ⟨.inr ⟨_, by kernel_rfl, F70_L3_ok⟩, trivial⟩) (fun v => by kernel_rfl)

def ensL (q : List Int) (i : Int) (k : Nat) : List Int := (List.range k).map fun (t : Nat) => en (qa q) i t
theorem ensL_length (q : List Int) (i : Int) (k : Nat) : (ensL q i k).length = k := by simp [ensL]
theorem ensL_get {q : List Int} {i : Int} {k t : Nat} (h : t < k) : (ensL q i k)[t]? = some (en (qa q) i t) := by simp [ensL, h]
theorem ensL_succ (q : List Int) (i : Int) (k : Nat) : ensL q i (k + 1) = ensL q i k ++ [en (qa q) i k] := by simp [ensL, List.range_succ]
theorem en_small {q : List Int} {ds : List Dg} (h : trOf q = some ds) (i : Int) {k : Nat} (hk : k ≤ q.length) : 0 ≤ en (qa q) i k ∧ en (qa q) i k ≤ 512 := by
  obtain ⟨_, _, _, _, h3, _⟩ := quid_triS h
  by_cases h0 : k = 0
  · subst h0; exact ⟨Int.le_refl 0, by show (0 : Int) ≤ 512; decide⟩
  · by_cases h1 : k < q.length
    · have := en_pos h i (k := k) (by omega) h1
      omega
    · rw [show k = q.length by omega, (en_close h3 (quid_clo (by rw [h]; rfl)) i).1]
      decide
theorem qa_some {q : List Int} (hq : 0 < q.length) (x : Int) : 0 ≤ x % (q.length : Int) ∧ x % (q.length : Int) < (q.length : Int) ∧ q[(x % (q.length : Int)).toNat]? = some (qa q x) := by
  have h1 := Int.emod_nonneg x (show (q.length : Int) ≠ 0 by omega)
  have h2 := Int.emod_lt_of_pos x (show 0 < (q.length : Int) by omega)
  refine ⟨h1, h2, ?_⟩
  unfold qa
  rw [List.getD_eq_getElem?_getD, List.getElem?_eq_getElem (by omega)]
  rfl
theorem qa_small {q : List Int} {ds : List Dg} (h : trOf q = some ds) (x : Int) : 0 ≤ qa q x ∧ qa q x ≤ 12 := by
  have hb := trOf_bounds (l := q) (by rw [h]; rfl)
  obtain ⟨h1, h2, h3⟩ := qa_some (q := q) (by omega) x
  have := hb.2 _ (List.mem_of_getElem? h3)
  omega
theorem F70_eq {q : List Int} {ds : List Dg} (h : trOf q = some ds) (i : Int) (hi : -100000 ≤ i ∧ i ≤ 100000) : F70 (q, i) = some ((), ensL q i (q.length + 1)) := by
  have hb := (trOf_bounds (l := q) (by rw [h]; rfl)).1
  have key : ∀ m j : Nat, 1 ≤ j → j + m = q.length → F70_L3 ((q, (i, ((q.length : Int), ((), (j : Int))))), ensL q i (j + 1)) = some ((), ensL q i (q.length + 1)) := by
    intro m
    induction m with
    | zero =>
      intro j h1 hj
      rw [show j = q.length by omega]
      simp only [F70_L3]
      refine loopO_done ?_
      rw [F70_L3_step, T.run_test, if_neg (by simp), T.run_test, if_pos (by simp), T.run_ret]
    | succ m ih =>
      intro j h1 hj
      have w0 : w64 (i + (j : Int)) = i + j := w64_id (by omega) (by omega)
      have w1 : w64 ((j : Int) + 1) = ((j + 1 : Nat) : Int) := by rw [w64_id (by omega) (by omega)]; omega
      have w2 : w64 ((j : Int) - 1) = ((j - 1 : Nat) : Int) := by rw [w64_id (by omega) (by omega)]; omega
      obtain ⟨q1, q2, q3⟩ := qa_some (q := q) (by omega) (i + j)
      have em := F81_eq (i + j) (q.length : Int) (by omega) (by omega)
      have e1 := ensL_get (q := q) (i := i) (k := j + 1) (t := j) (by omega)
      have e2 := ensL_get (q := q) (i := i) (k := j + 1) (t := j - 1) (by omega)
      have hl := ensL_length q i (j + 1)
      have hs := ensL_succ q i (j + 1)
      have b1 := en_small h i (k := j) (by omega)
      have b2 := en_small h i (k := j - 1) (by omega)
      have b3 := qa_small h (i + j)
      have hm := mul_le (a := qa q (i + j)) (b := en (qa q) i j) (A := 12) (B := 512) (by omega) (by omega) (by omega) (by omega)
      have hen : w64 (w64 (qa q (i + j) * en (qa q) i j) - en (qa q) i (j - 1)) = en (qa q) i (j + 1) := by
        rw [w64_id (z := qa q (i + j) * en (qa q) i j) (by omega) (by omega), w64_id (by omega) (by omega)]
        have := en_two (qa q) i (j - 1)
        rw [show j - 1 + 2 = j + 1 by omega, show j - 1 + 1 = j by omega, show i + (((j - 1 : Nat) : Int) + 1) = i + j by omega] at this
        exact this.symm
      rw [← ih (j + 1) (by omega) (by omega), hs]
      simp only [F70_L3]
      refine loopO_next ?_
      generalize ensL q i (j + 1) = out at *
      rw [F70_L3_step, T.run_test, if_pos (decide_eq_true (by omega)), T.run_sub, w0, em, Option.bind_some, T.run_test, if_pos (decide_eq_true ⟨q1, q2⟩), T.run_sub, q3, Option.bind_some,
        T.run_test, if_pos (decide_eq_true (by omega)), T.run_sub, Nat.zero_add, Int.toNat_natCast, e1, Option.bind_some, w2, T.run_test, if_pos (decide_eq_true (by omega)), T.run_sub, Int.toNat_natCast, Nat.zero_add, e2, Option.bind_some, hen, snocL,
        T.run_test, if_pos (by simp), T.run_test, if_pos (by simp), T.run_test, if_pos (decide_eq_true (by omega)), T.run_test, if_pos (decide_eq_true (by simp)), T.run_ret, w1]
  have this : F70_L3 ((q, (i, ((q.length : Int), ((), (1 : Int))))), ensL q i (1 + 1)) = _ := key (q.length - 1) 1 (by omega) (by omega)
  rw [F70, F70_t, T.run_test, if_pos rfl, T.run_sub, show ([(0 : Int), (1 : Int)] : List Int) = ensL q i (1 + 1) from rfl, this, Option.bind_some, T.run_test, if_pos (by simp), T.run_ret]



abbrev Fr := Int × Int
def crossF (f g : Fr) : Int := g.1 * f.2 - f.1 * g.2
def chain : Fr → List Fr → Prop
  | f, [] => f = (1, 0)
  | f, g :: t => crossF f g = 1 ∧ 0 ≤ g.1 ∧ 0 ≤ g.2 ∧ chain g t
def polyF : List Fr → Prop
  | [] => False
  | f :: t => f = (0, 1) ∧ chain f t ∧ 2 ≤ t.length
def cs : Fr → List Fr → List Int
  | u, w :: x :: t => crossF u x :: cs w (x :: t)
  | _, _ => []
def lastN : List Fr → Int
  | [] => 0
  | [_] => 0
  | [f, _] => f.1
  | _ :: g :: h :: t => lastN (g :: h :: t)
def qsF (p : List Fr) : List Int := lastN p :: cs (-1, 0) p
theorem three_F {u w x : Fr} (h1 : crossF u w = 1) (h2 : crossF w x = 1) : u.1 + x.1 = crossF u x * w.1 ∧ u.2 + x.2 = crossF u x * w.2 := by
  unfold crossF at *
  constructor <;> grind
theorem chain_pos {f : Fr} {t : List Fr} (h : chain f t) (h0 : 0 ≤ f.1) (h1 : 0 ≤ f.2) : 1 ≤ f.1 + f.2 := by
  cases t with
  | nil => rw [chain] at h; rw [h]; decide
  | cons g t =>
    rcases (by omega : 0 < f.1 + f.2 ∨ f.1 + f.2 ≤ 0) with c | c
    · exact c
    · exfalso
      have e1 : f.1 = 0 := by omega
      have e2 : f.2 = 0 := by omega
      have := h.1
      unfold crossF at this
      rw [e1, e2] at this
      simp at this
theorem ear_F : ∀ (t : List Fr) (u w : Fr), chain w t → crossF u w = 1 → 0 ≤ u.1 → 0 ≤ u.2 → 0 ≤ w.1 → 0 ≤ w.2 → u.1 + u.2 < w.1 + w.2 →
    ∃ A u' w' x B, u :: w :: t = A ++ u' :: w' :: x :: B ∧ w' = (u'.1 + x.1, u'.2 + x.2)
  | [], u, w, h, hc, u1, u2, w1, w2, hs => by
    rw [chain] at h
    subst h
    unfold crossF at hc
    simp only at hc hs
    omega
  | x :: B, u, w, h, hc, u1, u2, w1, w2, hs => by
    obtain ⟨h1, h2, h3, h4⟩ := h
    obtain ⟨e1, e2⟩ := three_F hc h1
    have hx := chain_pos h4 h2 h3
    obtain ⟨c, hcc⟩ : ∃ c, c = crossF u x := ⟨_, rfl⟩
    rw [← hcc] at e1 e2
    have hsum : u.1 + u.2 + (x.1 + x.2) = c * (w.1 + w.2) := by rw [Int.mul_add]; omega
    by_cases c1 : c = 1
    · refine ⟨[], u, w, x, B, rfl, ?_⟩
      rw [c1, Int.one_mul] at e1 e2
      exact Prod.ext e1.symm e2.symm
    · have hc2 : 2 ≤ c := by
        rcases (by omega : 0 < c ∨ c ≤ 0) with hp | hp
        · omega
        · have : c * (w.1 + w.2) ≤ 0 := Int.mul_nonpos_of_nonpos_of_nonneg hp (by omega)
          omega
      have hge : 2 * (w.1 + w.2) ≤ c * (w.1 + w.2) := Int.mul_le_mul_of_nonneg_right hc2 (by omega)
      obtain ⟨A, u', w', x', B', e, he⟩ := ear_F B w x h4 h1 w1 w2 h2 h3 (by omega)
      exact ⟨u :: A, u', w', x', B', by rw [e]; rfl, he⟩
theorem poly_ear {p : List Fr} (h : polyF p) : ∃ A u w x B, p = A ++ u :: w :: x :: B ∧ w = (u.1 + x.1, u.2 + x.2) := by
  match p, h with
  | f :: g :: x :: t, ⟨hf, hc, _⟩ =>
    subst hf
    obtain ⟨h1, h2, h3, h4⟩ := hc
    have h5 := h4
    obtain ⟨k1, k2, k3, k4⟩ := h5
    refine ear_F (x :: t) (0, 1) g h4 h1 (by decide) (by decide) h2 h3 ?_
    unfold crossF at h1 k1
    simp only at h1 ⊢
    rcases (by omega : 0 < g.2 ∨ g.2 ≤ 0) with c | c
    · omega
    · exfalso
      have e : g.2 = 0 := by omega
      rw [e] at k1
      have : g.1 = 1 := by omega
      rw [this] at k1
      omega
theorem chain_mid : ∀ (A : List Fr) (f : Fr) (u w x : Fr) (B : List Fr), w = (u.1 + x.1, u.2 + x.2) → chain f (A ++ u :: w :: x :: B) → chain f (A ++ u :: x :: B)
  | [], f, u, w, x, B, hw, h => by
    obtain ⟨h1, h2, h3, h4, h5, h6, h7, h8⟩ := h
    refine ⟨h1, h2, h3, ?_, h8⟩
    subst hw
    unfold crossF at *
    simp only at h4
    grind
  | a :: A, f, u, w, x, B, hw, h => by
    obtain ⟨h1, h2, h3, h4⟩ := h
    exact ⟨h1, h2, h3, chain_mid A a u w x B hw h4⟩
theorem lastN_mid : ∀ (A : List Fr) (u w x z : Fr) (B : List Fr), lastN (A ++ u :: w :: x :: z :: B) = lastN (A ++ u :: x :: z :: B)
  | [], u, w, x, z, B => rfl
  | [a], u, w, x, z, B => rfl
  | a :: b :: A, u, w, x, z, B => by
    have ih := lastN_mid (b :: A) u w x z B
    cases A with
    | nil => exact ih
    | cons c A => exact ih
theorem lastN_end : ∀ (A : List Fr) (u x : Fr), lastN (A ++ [u, x]) = u.1
  | [], u, x => rfl
  | [a], u, x => rfl
  | a :: b :: A, u, x => by
    have ih := lastN_end (b :: A) u x
    cases A with
    | nil => exact ih
    | cons c A => exact ih
theorem cs_length : ∀ (p : List Fr) (y : Fr), (cs y p).length = p.length - 1
  | [], y => rfl
  | [a], y => rfl
  | a :: b :: t, y => by
    rw [cs, List.length_cons, cs_length (b :: t) a]
    simp
theorem cs_app : ∀ (A : List Fr) (y u x : Fr) (B : List Fr), cs y (A ++ u :: x :: B) = cs y (A ++ [u]) ++ cs ((y :: A).getLast (by simp)) (u :: x :: B)
  | [], y, u, x, B => by
    show cs y (u :: x :: B) = cs y [u] ++ cs y (u :: x :: B)
    rfl
  | [a], y, u, x, B => rfl
  | a :: b :: A, y, u, x, B => by
    have ih := cs_app (b :: A) a u x B
    show crossF y b :: cs a (b :: (A ++ u :: x :: B)) = (crossF y b :: cs a (b :: (A ++ [u]))) ++ _
    rw [List.cons_append]
    congr 1
theorem chain_last : ∀ (A : List Fr) (f y u : Fr) (B : List Fr), crossF y f = 1 → chain f (A ++ u :: B) → crossF ((f :: A).getLast (by simp)) u = 1
  | [], f, y, u, B, _, h => h.1
  | a :: A, f, y, u, B, hy, h => by
    have := chain_last A a f u B h.1 h.2.2.2
    rwa [List.getLast_cons (by simp)]
theorem qsF_cut {A : List Fr} {u w x : Fr} {B : List Fr} (hw : w = (u.1 + x.1, u.2 + x.2)) (hp : polyF (A ++ u :: w :: x :: B)) :
    qsF (A ++ u :: w :: x :: B) = glueL (qsF (A ++ u :: x :: B)) (A.length + 1 + 1) := by
  -- the fraction ahead of u
  obtain ⟨y, hy⟩ : ∃ y, y = ((-1, 0) :: A).getLast (by simp) := ⟨_, rfl⟩
  have hyu : crossF y u = 1 := by
    cases A with
    | nil =>
      have hu : u = (0, 1) := hp.1
      rw [hy, hu]
      rfl
    | cons a A =>
      have ha : a = (0, 1) := hp.1
      have hc : chain a (A ++ u :: w :: x :: B) := hp.2.1
      rw [hy, List.getLast_cons (by simp)]
      exact chain_last A a (-1, 0) u _ (by rw [ha]; rfl) hc
  have hc : crossF u w = 1 ∧ (∀ z B', B = z :: B' → crossF x z = 1) := by
    cases A with
    | nil => exact ⟨hp.2.1.1, fun z B' e => by subst e; exact hp.2.1.2.2.2.2.2.2.1⟩
    | cons a A =>
      have hc : chain a (A ++ u :: w :: x :: B) := hp.2.1
      clear hp hy
      induction A generalizing a with
      | nil => exact ⟨hc.2.2.2.1, fun z B' e => by subst e; exact hc.2.2.2.2.2.2.2.2.2.1⟩
      | cons b A ih => exact ih b hc.2.2.2
  have hux : crossF u x = 1 := by
    have := hc.1
    subst hw
    unfold crossF at *
    simp only at this
    grind
  have hyw : crossF y w = crossF y x + 1 := by
    subst hw
    unfold crossF at *
    simp only
    grind
  have hl1 : (cs (-1, 0) (A ++ [u])).length = A.length := by rw [cs_length]; simp
  unfold qsF
  rw [cs_app A (-1, 0) u w (x :: B), cs_app A (-1, 0) u x B, ← hy]
  generalize cs (-1, 0) (A ++ [u]) = L at hl1 ⊢
  cases B with
  | nil =>
    rw [show cs y [u, w, x] = [crossF y w, crossF u x] from rfl, show cs y [u, x] = [crossF y x] from rfl, hyw, hux, show A ++ [u, w, x] = (A ++ [u]) ++ [w, x] by simp, lastN_end, lastN_end, ← hl1, glueL_end, hw]
    have : x = (1, 0) := by
      cases A with
      | nil => exact hp.2.1.2.2.2.2.2.2
      | cons a A =>
        have hc : chain a (A ++ u :: w :: [x]) := hp.2.1
        clear hp hy hl1
        induction A generalizing a with
        | nil => exact hc.2.2.2.2.2.2.2.2.2
        | cons b A ih => exact ih b hc.2.2.2
    rw [this]
  | cons z B' =>
    have hwz : crossF w z = crossF u z + 1 := by
      have := hc.2 z B' rfl
      subst hw
      unfold crossF at *
      simp only
      grind
    rw [show cs y (u :: w :: x :: z :: B') = crossF y w :: crossF u x :: crossF w z :: cs x (z :: B') from rfl, show cs y (u :: x :: z :: B') = crossF y x :: crossF u z :: cs x (z :: B') from rfl, hyw, hux, hwz, lastN_mid, ← hl1]
    have := glueL_mid (lastN (A ++ u :: x :: z :: B') :: L) (cs x (z :: B')) (crossF y x) (crossF u z)
    rw [List.length_cons] at this
    exact this.symm
theorem poly_len {p : List Fr} (h : polyF p) : 3 ≤ p.length := by
  match p, h with
  | _ :: t, ⟨_, _, h⟩ => rw [List.length_cons]; omega
theorem qsF_length {p : List Fr} (h : polyF p) : (qsF p).length = p.length := by
  have := poly_len h
  unfold qsF
  rw [List.length_cons, cs_length]
  omega
theorem poly_quid : ∀ (k : Nat) (p : List Fr), p.length = k + 3 → p.length ≤ 12 → polyF p → (trOf (qsF p)).isSome = true
  | 0, p, hl, _, h => by
    match p, hl with
    | [f, g, x], _ =>
      obtain ⟨hf, ⟨h1, h2, h3, h4, h5, h6, h7⟩, _⟩ := h
      rw [chain] at h7
      subst hf h7
      unfold crossF at h1 h4
      simp only at h1 h4
      have e1 : g.1 = 1 := by omega
      have e2 : g.2 = 1 := by omega
      have : qsF [(0, 1), g, (1, 0)] = [1, 1, 1] := by
        simp only [qsF, lastN, cs, crossF, e1, e2]
        rfl
      rw [this]
      decide +kernel
  | k + 1, p, hl, h12, h => by
    obtain ⟨A, u, w, x, B, hp, hw⟩ := poly_ear h
    subst hp
    have hlen : (A ++ u :: x :: B).length = k + 3 := by
      simp only [List.length_append, List.length_cons] at hl ⊢
      omega
    have hp' : polyF (A ++ u :: x :: B) := by
      cases A with
      | nil =>
        obtain ⟨h0, ⟨h1, h2, h3, h4, h5, h6, h7⟩, _⟩ := h
        refine ⟨h0, ⟨?_, h5, h6, h7⟩, by simp only [List.nil_append, List.length_cons] at hlen ⊢; omega⟩
        subst hw
        unfold crossF at *
        simp only at h4
        grind
      | cons a A => exact ⟨h.1, chain_mid A a u w x B hw h.2.1, by
        show 2 ≤ (A ++ u :: x :: B).length
        simp only [List.length_append, List.length_cons] at hlen ⊢
        omega⟩
    have ih := poly_quid k _ hlen (by omega) hp'
    rw [qsF_cut hw h]
    have hq := qsF_length hp'
    refine glue_quid ih (by omega) (j := A.length + 1) ?_
    rw [hq]
    simp only [List.length_append, List.length_cons]
    omega

theorem en_pl (a : Int → Int) (i : Nat) : ∀ m : Nat, en a 1 (i + m) * en a 0 (i + 1) - en a 1 i * en a 0 (i + 1 + m) = en a ((i + 1 : Nat) : Int) m
  | 0 => by
    rw [Nat.add_zero, Nat.add_zero]
    show _ = (0 : Int)
    omega
  | 1 => by
    have := en_det a 0 i
    show _ = (1 : Int)
    rw [show i + 1 + 1 = i + 2 by omega, Int.mul_comm (en a 1 (i + 1))]
    exact this
  | m + 2 => by
    have h1 := en_pl a i (m + 1)
    have h0 := en_pl a i m
    rw [show i + (m + 2) = i + m + 2 by omega, show i + 1 + (m + 2) = i + 1 + m + 2 by omega, en_two a 1 (i + m), en_two a 0 (i + 1 + m), en_two a ((i + 1 : Nat) : Int) m, ← h1, ← h0]
    rw [show (1 : Int) + (((i + m : Nat) : Int) + 1) = ((i + 1 : Nat) : Int) + ((m : Int) + 1) by omega, show (0 : Int) + (((i + 1 + m : Nat) : Int) + 1) = ((i + 1 : Nat) : Int) + ((m : Int) + 1) by omega,
      show i + (m + 1) = i + m + 1 by omega, show i + 1 + (m + 1) = i + 1 + m + 1 by omega]
    grind
def frsF (q : List Int) : List Fr := (List.range (q.length - 1)).map (fun (i : Nat) => (en (qa q) 1 i, en (qa q) 0 (i + 1))) ++ [(1, 0)]
theorem frsF_length {q : List Int} (h : 1 ≤ q.length) : (frsF q).length = q.length := by simp [frsF]; omega
theorem frsF_get {q : List Int} {i : Nat} (h : i < q.length - 1) : (frsF q)[i]? = some (en (qa q) 1 i, en (qa q) 0 (i + 1)) := by
  unfold frsF
  rw [List.getElem?_append_left (by simpa using h)]
  simp [h]
theorem frsF_last {q : List Int} (h : 1 ≤ q.length) : (frsF q)[q.length - 1]? = some (1, 0) := by
  unfold frsF
  rw [List.getElem?_append_right (by simp)]
  simp
theorem chain_step {u w x : Fr} (h1 : crossF u w = 1) (h2 : crossF w x = 1) : x = (crossF u x * w.1 - u.1, crossF u x * w.2 - u.2) := by
  obtain ⟨e1, e2⟩ := three_F h1 h2
  exact Prod.ext (by show x.1 = _; omega) (by show x.2 = _; omega)
theorem cs_get : ∀ (p : List Fr) (y : Fr) (i : Nat) (w x : Fr), p[i]? = some w → p[i + 1]? = some x → (cs y p)[i]? = some (crossF (((y :: p)[i]?).getD (0, 0)) x)
  | [], y, i, w, x, h, _ => by simp at h
  | [a], y, i, w, x, _, h => by simp at h
  | a :: b :: t, y, 0, w, x, _, h2 => by
    simp only [List.getElem?_cons_succ, List.getElem?_cons_zero, Option.some.injEq] at h2
    subst h2
    rfl
  | a :: b :: t, y, i + 1, w, x, h1, h2 => by
    have ih := cs_get (b :: t) a i w x (by simpa using h1) (by simpa using h2)
    rw [cs, List.getElem?_cons_succ, ih]
    simp
theorem chain_get : ∀ (t : List Fr) (f : Fr), chain f t → ∀ (i : Nat) (w x : Fr), (f :: t)[i]? = some w → (f :: t)[i + 1]? = some x → crossF w x = 1 ∧ 0 ≤ x.1 ∧ 0 ≤ x.2
  | [], f, _, i, w, x, _, h => by simp at h
  | g :: t, f, h, 0, w, x, h1, h2 => by
    simp only [List.getElem?_cons_succ, List.getElem?_cons_zero, Option.some.injEq] at h1 h2
    subst h1 h2
    exact ⟨h.1, h.2.1, h.2.2.1⟩
  | g :: t, f, h, i + 1, w, x, h1, h2 => chain_get t g h.2.2.2 i w x (by simpa using h1) (by simpa using h2)
theorem chain_end : ∀ (t : List Fr) (f : Fr), chain f t → (f :: t)[t.length]? = some (1, 0)
  | [], f, h => by rw [chain] at h; rw [h]; rfl
  | g :: t, f, h => by
    have := chain_end t g h.2.2.2
    rw [List.length_cons, List.getElem?_cons_succ]
    exact this
theorem poly_frs {p : List Fr} (h : polyF p) : frsF (qsF p) = p := by
  have hl := qsF_length h
  have h3 := poly_len h
  match p, h with
  | f :: t, ⟨hf, hc, ht⟩ =>
    subst hf
    generalize hq : qsF ((0, 1) :: t) = q at *
    rw [List.length_cons] at hl
    -- what the numbers are
    have num : ∀ i, i + 1 < q.length → ∀ x, ((0, 1) :: t)[i + 1]? = some x → qa q ((i + 1 : Nat) : Int) = crossF ((((-1, 0) :: (0, 1) :: t)[i]?).getD (0, 0)) x := by
      intro i hi x hx
      rw [qa_nat hi, ← hq]
      unfold qsF
      obtain ⟨w, hw⟩ : ∃ w, ((0, 1) :: t)[i]? = some w := ⟨_, List.getElem?_eq_getElem (by rw [List.length_cons]; omega)⟩
      have := cs_get ((0, 1) :: t) (-1, 0) i w x hw hx
      rw [List.getD_eq_getElem?_getD, List.getElem?_cons_succ, this]
      rfl
    have val : ∀ i, i + 1 < q.length → ((0, 1) :: t)[i]? = some (en (qa q) 1 i, en (qa q) 0 (i + 1)) := by
      intro i
      induction i using Nat.strongRecOn with
      | ind i ih =>
        intro hi
        match i with
        | 0 => rfl
        | 1 =>
          obtain ⟨x, hx⟩ : ∃ x, ((0, 1) :: t)[1]? = some x := ⟨_, List.getElem?_eq_getElem (by rw [List.length_cons]; omega)⟩
          have hc1 := chain_get t (0, 1) hc 0 (0, 1) x rfl hx
          have hn := num 0 (by omega) x hx
          rw [hx]
          have h1 := hc1.1
          simp only [List.getElem?_cons_zero, Option.getD_some] at hn
          unfold crossF at h1 hn
          simp only at h1 hn
          congr 1
          refine Prod.ext ?_ ?_
          · show x.1 = 1
            omega
          · show x.2 = qa q (0 + ((0 + 1 : Nat) : Int)) * 1 - 0
            rw [show (0 : Int) + ((0 + 1 : Nat) : Int) = ((0 + 1 : Nat) : Int) by omega, hn]
            omega
        | i + 2 =>
          have i0 := ih i (by omega) (by omega)
          have i1 := ih (i + 1) (by omega) (by omega)
          obtain ⟨x, hx⟩ : ∃ x, ((0, 1) :: t)[i + 2]? = some x := ⟨_, List.getElem?_eq_getElem (by rw [List.length_cons]; omega)⟩
          have c0 := chain_get t (0, 1) hc i _ _ i0 i1
          have c1 := chain_get t (0, 1) hc (i + 1) _ _ i1 hx
          have hs := chain_step c0.1 c1.1
          have hn := num (i + 1) (by omega) x hx
          rw [List.getElem?_cons_succ, i0, Option.getD_some] at hn
          rw [← hn] at hs
          rw [hx, hs, en_two (qa q) 1 i, en_two (qa q) 0 (i + 1)]
          simp only
          rw [show (1 : Int) + ((i : Int) + 1) = ((i + 1 + 1 : Nat) : Int) by omega, show (0 : Int) + (((i + 1 : Nat) : Int) + 1) = ((i + 1 + 1 : Nat) : Int) by omega]
    apply List.ext_getElem?
    intro i
    by_cases hi : i + 1 < q.length
    · rw [frsF_get (by omega), val i hi]
    · by_cases hi2 : i = q.length - 1
      · subst hi2
        rw [frsF_last (by omega)]
        have := chain_end t (0, 1) hc
        rw [show q.length - 1 = t.length by omega, this]
      · rw [List.getElem?_eq_none (by rw [frsF_length (by omega)]; omega), List.getElem?_eq_none (by rw [List.length_cons]; omega)]
theorem frs_cross {q : List Int} (h : clo (-1) q) (hl : 3 ≤ q.length) {i k : Nat} (hik : i < k) (hk : k < q.length) {f g : Fr} (hf : (frsF q)[i]? = some f) (hg : (frsF q)[k]? = some g) :
    crossF f g = if k + 1 < q.length then eE q (i + 1) (k + 1) else eE q 0 (i + 1) := by
  rw [frsF_get (by omega)] at hf
  obtain rfl := Option.some.inj hf
  by_cases hc : k + 1 < q.length
  · rw [if_pos hc, eE_en (by omega) (by omega), ← en_pl]
    rw [frsF_get (by omega)] at hg
    obtain rfl := Option.some.inj hg
    unfold crossF
    rw [show i + (k + 1 - (i + 1)) = k by omega, show i + 1 + (k + 1 - (i + 1)) = k + 1 by omega]
  · rw [if_neg hc, eE_en (by omega) (by omega)]
    rw [show k = q.length - 1 by omega, frsF_last (by omega)] at hg
    obtain rfl := Option.some.inj hg
    unfold crossF
    simp
theorem quid_poly {q : List Int} {ds : List Dg} (h : trOf q = some ds) : polyF (frsF q) ∧ qsF (frsF q) = q := by
  obtain ⟨_, _, _, _, h3, _⟩ := quid_triS h
  have hc := quid_clo (l := q) (by rw [h]; rfl)
  have hlen := frsF_length (q := q) (by omega)
  have hget : ∀ i, i < q.length → ∃ f, (frsF q)[i]? = some f ∧ 0 ≤ f.1 ∧ 0 ≤ f.2 := by
    intro i hi
    by_cases c : i < q.length - 1
    · refine ⟨_, frsF_get c, ?_, ?_⟩
      · show 0 ≤ en (qa q) 1 i
        cases i with
        | zero => exact Int.le_refl 0
        | succ i => have := (en_pos h 1 (k := i + 1) (by omega) (by omega)).1; omega
      · show 0 ≤ en (qa q) 0 (i + 1)
        have := (en_pos h 0 (k := i + 1) (by omega) (by omega)).1
        omega
    · refine ⟨_, by rw [show i = q.length - 1 by omega]; exact frsF_last (by omega), by decide, by decide⟩
  have hcr : ∀ i, i + 1 < q.length → ∀ f g, (frsF q)[i]? = some f → (frsF q)[i + 1]? = some g → crossF f g = 1 := by
    intro i hi f g hf hg
    rw [frs_cross hc h3 (by omega) hi hf hg]
    split
    · exact eE_next q (i + 1)
    · rw [show i + 1 = q.length - 1 by omega, eE_en (by omega) (by omega), Nat.sub_zero]
      exact (en_close h3 hc _).2
  have hch : ∀ (t : List Fr) (f : Fr) (i : Nat), f :: t = (frsF q).drop i → i < q.length → chain f t := by
    intro t
    induction t with
    | nil =>
      intro f i he hi
      have hl := congrArg List.length he
      rw [List.length_drop, hlen] at hl
      have hi : i = q.length - 1 := by simp at hl; omega
      have : (frsF q)[i]? = some f := by
        have := List.getElem?_drop (xs := frsF q) (i := i) (j := 0)
        rw [← he] at this
        simpa using this.symm
      rw [hi, frsF_last (by omega)] at this
      exact (Option.some.inj this).symm
    | cons g t ih =>
      intro f i he hi
      have hl := congrArg List.length he
      rw [List.length_drop, hlen] at hl
      simp only [List.length_cons] at hl
      have hf : (frsF q)[i]? = some f := by
        have := List.getElem?_drop (xs := frsF q) (i := i) (j := 0)
        rw [← he] at this
        simpa using this.symm
      have hg : (frsF q)[i + 1]? = some g := by
        have := List.getElem?_drop (xs := frsF q) (i := i) (j := 1)
        rw [← he] at this
        simpa using this.symm
      obtain ⟨g', hg', n1, n2⟩ := hget (i + 1) (by omega)
      obtain rfl := Option.some.inj (hg.symm.trans hg')
      refine ⟨hcr i (by omega) f g hf hg, n1, n2, ih g (i + 1) ?_ (by omega)⟩
      rw [← List.drop_drop, ← he]
      rfl
  have hpoly : polyF (frsF q) := by
    cases hfr : frsF q with
    | nil => rw [hfr] at hlen; simp at hlen; omega
    | cons f t =>
      refine ⟨?_, hch t f 0 (by rw [List.drop_zero, hfr]) (by omega), ?_⟩
      · have := frsF_get (q := q) (i := 0) (by omega)
        rw [hfr] at this
        exact Option.some.inj this
      · rw [hfr, List.length_cons] at hlen; omega
  refine ⟨hpoly, ?_⟩
  -- the numbers are told by the fractions
  have hr := poly_frs hpoly
  have hql := qsF_length hpoly
  rw [hlen] at hql
  have hq2 := poly_quid (q.length - 3) (frsF q) (by omega) (by have := (trOf_bounds (l := q) (by rw [h]; rfl)).1; omega) hpoly
  obtain ⟨es, hes⟩ := Option.isSome_iff_exists.1 hq2
  -- equal entries: equal numbers
  have hen : ∀ i, i < q.length - 1 → en (qa (qsF (frsF q))) 1 i = en (qa q) 1 i ∧ en (qa (qsF (frsF q))) 0 (i + 1) = en (qa q) 0 (i + 1) := by
    intro i hi
    have h1 := frsF_get (q := qsF (frsF q)) (i := i) (by omega)
    rw [hr, frsF_get hi] at h1
    have := Prod.mk.inj (Option.some.inj h1)
    exact ⟨this.1.symm, this.2.symm⟩
  have hnum : ∀ i, 1 ≤ i → i < q.length → (qsF (frsF q)).getD i 0 = q.getD i 0 := by
    intro i h1 hi
    -- the number at i, by the entries about it
    have val : ∀ l : List Int, l.length = q.length → clo (-1) l → (en (qa l) 0 i ≠ 0) → l.getD i 0 * en (qa l) 0 i = (if i + 1 < q.length then en (qa l) 0 (i + 1) else 0) + en (qa l) 0 (i - 1) := by
      intro l hl hcl _
      have e := en_two (qa l) 0 (i - 1)
      rw [show i - 1 + 2 = i + 1 by omega, show i - 1 + 1 = i by omega, show (0 : Int) + (((i - 1 : Nat) : Int) + 1) = ((i : Nat) : Int) by omega, qa_nat (by omega)] at e
      split
      · omega
      · have := (en_close (l := l) (by omega) hcl 0).1
        rw [hl, show q.length = i + 1 by omega] at this
        omega
    have hp1 := en_pos h 0 (k := i) h1 hi
    have e0 : en (qa (qsF (frsF q))) 0 i = en (qa q) 0 i := by
      have := (hen (i - 1) (by omega)).2
      rwa [show i - 1 + 1 = i by omega] at this
    have e1 : en (qa (qsF (frsF q))) 0 (i - 1) = en (qa q) 0 (i - 1) := by
      by_cases c : i = 1
      · subst c; rfl
      · have := (hen (i - 2) (by omega)).2
        rwa [show i - 2 + 1 = i - 1 by omega] at this
    have v1 := val q rfl hc (by omega)
    have v2 := val (qsF (frsF q)) hql (quid_clo hq2) (by omega)
    rw [e0, e1] at v2
    have : (if i + 1 < q.length then en (qa (qsF (frsF q))) 0 (i + 1) else 0) = (if i + 1 < q.length then en (qa q) 0 (i + 1) else 0) := by
      split
      · exact (hen i (by omega)).2
      · rfl
    rw [this, ← v1] at v2
    exact Int.eq_of_mul_eq_mul_right (by omega) v2
  have hsum1 := quid_sum (l := q) (by rw [h]; rfl)
  have hsum2 := quid_sum hq2
  rw [hql] at hsum2
  generalize qsF (frsF q) = p at *
  match p, q, hql with
  | a :: s, b :: t, hlt =>
    have hst : s = t := by
      apply List.ext_getElem
      · simpa using hlt
      · intro i h1 h2
        have := hnum (i + 1) (by omega) (by rw [List.length_cons]; omega)
        rw [List.getD_eq_getElem?_getD, List.getD_eq_getElem?_getD, List.getElem?_cons_succ, List.getElem?_cons_succ, List.getElem?_eq_getElem h1, List.getElem?_eq_getElem h2] at this
        exact this
    subst hst
    rw [List.sum_cons] at hsum1 hsum2
    congr 1
    omega
  | [], b :: t, hlt => simp at hlt
  | a :: s, [], hlt => simp at hlt
  | [], [], _ => rfl



def fracB (f : Int × Int) : Bool := inB 0 1000000 f.1 && (inB 0 1000000 f.2 && decide (Nat.gcd f.1.toNat f.2.toNat = 1))
theorem fracB_iff {f : Int × Int} : fracB f = true ↔ (0 ≤ f.1 ∧ f.1 ≤ 1000000) ∧ (0 ≤ f.2 ∧ f.2 ≤ 1000000) ∧ Nat.gcd f.1.toNat f.2.toNat = 1 := by
  unfold fracB
  simp only [Bool.and_eq_true, inB_iff, decide_eq_true_eq]
def gF (p : List Fr) (i : Nat) : Fr := p.getD i (0, 0)
theorem gF_some {p : List Fr} {i : Nat} (h : i < p.length) : p[i]? = some (gF p i) := by unfold gF; rw [List.getD_eq_getElem?_getD, List.getElem?_eq_getElem h]; rfl
theorem gF_of {p : List Fr} {i : Nat} {f : Fr} (h : p[i]? = some f) : gF p i = f := by unfold gF; rw [List.getD_eq_getElem?_getD, h]; rfl
def polyB (p : List Fr) : Bool := inB 3 12 p.length && (p.all fracB && (decide (gF p 0 = (0, 1)) && (decide (gF p (p.length - 1) = (1, 0)) && (List.range (p.length - 1)).all fun i => decide (crossF (gF p i) (gF p (i + 1)) = 1))))
theorem polyB_iff {p : List Fr} : polyB p = true ↔ (3 ≤ p.length ∧ p.length ≤ 12) ∧ (∀ f ∈ p, fracB f = true) ∧ gF p 0 = (0, 1) ∧ gF p (p.length - 1) = (1, 0) ∧ ∀ i, i + 1 < p.length → crossF (gF p i) (gF p (i + 1)) = 1 := by
  unfold polyB
  simp only [Bool.and_eq_true, inB_iff, decide_eq_true_eq, List.all_eq_true, List.mem_range]
  constructor
  · rintro ⟨h1, h2, h3, h4, h5⟩
    exact ⟨by omega, h2, h3, h4, fun i hi => h5 i (by omega)⟩
  · rintro ⟨h1, h2, h3, h4, h5⟩
    exact ⟨by omega, h2, h3, h4, fun i hi => h5 i (by omega)⟩
theorem gF_mem {p : List Fr} {i : Nat} (h : i < p.length) : gF p i ∈ p := List.mem_of_getElem? (gF_some h)
theorem chain_of : ∀ (t : List Fr) (f : Fr), (∀ g ∈ t, 0 ≤ g.1 ∧ 0 ≤ g.2) → gF (f :: t) t.length = (1, 0) → (∀ i, i < t.length → crossF (gF (f :: t) i) (gF (f :: t) (i + 1)) = 1) → chain f t
  | [], f, _, h, _ => h
  | g :: t, f, hb, h, hc => by
    have h0 := hc 0 (by simp)
    have hg := hb g (by simp)
    exact ⟨h0, hg.1, hg.2, chain_of t g (fun x hx => hb x (List.mem_cons_of_mem _ hx)) h (fun i hi => hc (i + 1) (by rw [List.length_cons]; omega))⟩
theorem polyB_F {p : List Fr} (h : polyB p = true) : polyF p := by
  obtain ⟨h1, h2, h3, h4, h5⟩ := polyB_iff.1 h
  match p, h1, h2, h3, h4, h5 with
  | [], h1, _, _, _, _ => simp at h1
  | f :: t, h1, h2, h3, h4, h5 =>
    rw [List.length_cons] at h1 h5 h4
    refine ⟨h3, chain_of t f (fun g hg => ?_) (by rw [Nat.add_sub_cancel] at h4; exact h4) (fun i hi => h5 i (by omega)), by omega⟩
    have := fracB_iff.1 (h2 g (List.mem_cons_of_mem _ hg))
    exact ⟨this.1.1, this.2.1.1⟩
theorem polyB_tr {p : List Fr} (h : polyB p = true) : ∃ ds, trOf (qsF p) = some ds := by
  have h1 := (polyB_iff.1 h).1
  exact Option.isSome_iff_exists.1 (poly_quid (p.length - 3) p (by omega) (by omega) (polyB_F h))
theorem gcd_cross {a b c d : Int} (ha : 0 ≤ a) (hb : 0 ≤ b) (h : c * b - a * d = 1 ∨ a * d - c * b = 1) : Nat.gcd a.toNat b.toNat = 1 := by
  obtain ⟨k, hk⟩ : ∃ k, k = Nat.gcd a.toNat b.toNat := ⟨_, rfl⟩
  have d1 : (k : Int) ∣ a := by
    have : (k : Int) ∣ ((a.toNat : Nat) : Int) := Int.natCast_dvd_natCast.2 (hk ▸ Nat.gcd_dvd_left _ _)
    rwa [Int.toNat_of_nonneg ha] at this
  have d2 : (k : Int) ∣ b := by
    have : (k : Int) ∣ ((b.toNat : Nat) : Int) := Int.natCast_dvd_natCast.2 (hk ▸ Nat.gcd_dvd_right _ _)
    rwa [Int.toNat_of_nonneg hb] at this
  have d3 : (k : Int) ∣ 1 := by
    rcases h with h | h
    · rw [← h]; exact Int.dvd_sub (Int.dvd_trans d2 (Int.dvd_mul_left _ _)) (Int.dvd_trans d1 (Int.dvd_mul_right _ _))
    · rw [← h]; exact Int.dvd_sub (Int.dvd_trans d1 (Int.dvd_mul_right _ _)) (Int.dvd_trans d2 (Int.dvd_mul_left _ _))
  rw [← hk]
  have := Int.le_of_dvd (by decide) d3
  have h0 : k ≠ 0 := by
    intro e
    rw [e] at d3
    have := Int.zero_dvd.1 d3
    omega
  omega
theorem frs_B {q : List Int} {ds : List Dg} (h : trOf q = some ds) : polyB (frsF q) = true := by
  obtain ⟨_, _, _, _, h3, h12⟩ := quid_triS h
  have hc := quid_clo (l := q) (by rw [h]; rfl)
  have hlen := frsF_length (q := q) (by omega)
  obtain ⟨hp, hq⟩ := quid_poly h
  have hval : ∀ i, i < q.length - 1 → gF (frsF q) i = (en (qa q) 1 i, en (qa q) 0 (i + 1)) := fun i hi => gF_of (frsF_get hi)
  have hlast : gF (frsF q) (q.length - 1) = (1, 0) := gF_of (frsF_last (by omega))
  have hcr : ∀ i, i + 1 < q.length → crossF (gF (frsF q) i) (gF (frsF q) (i + 1)) = 1 := by
    intro i hi
    rw [frs_cross hc h3 (i := i) (k := i + 1) (by omega) hi (gF_some (by omega)) (gF_some (by omega))]
    split
    · exact eE_next q (i + 1)
    · rw [show i + 1 = q.length - 1 by omega, eE_en (by omega) (by omega), Nat.sub_zero]
      exact (en_close h3 hc _).2
  refine polyB_iff.2 ⟨by omega, ?_, ?_, by rw [hlen]; exact hlast, fun i hi => hcr i (by omega)⟩
  · intro f hf
    obtain ⟨i, hi, rfl⟩ := List.mem_iff_getElem.1 hf
    have e : (frsF q)[i] = gF (frsF q) i := by
      have := gF_some (p := frsF q) hi
      rw [List.getElem?_eq_getElem hi] at this
      exact Option.some.inj this
    rw [e]
    by_cases c : i < q.length - 1
    · have hc1 := hcr i (by omega)
      have b2 := en_pos h 0 (k := i + 1) (by omega) (by omega)
      have b1 : 0 ≤ en (qa q) 1 i ∧ en (qa q) 1 i ≤ 512 := by
        cases i with
        | zero => exact ⟨Int.le_refl 0, by show (0 : Int) ≤ 512; decide⟩
        | succ i => have := en_pos h 1 (k := i + 1) (by omega) (by omega); omega
      rw [hval i c] at hc1 ⊢
      unfold crossF at hc1
      exact fracB_iff.2 ⟨⟨b1.1, by show en (qa q) 1 i ≤ 1000000; omega⟩, ⟨by show 0 ≤ en (qa q) 0 (i + 1); omega, by show en (qa q) 0 (i + 1) ≤ 1000000; omega⟩, gcd_cross b1.1 (by omega) (.inl hc1)⟩
    · rw [show i = q.length - 1 by omega, hlast]; decide
  · rw [hval 0 (by omega)]; rfl
/-! near pairs -/
def nearB (f g : Fr) : Bool := decide (crossF f g = 1 ∨ crossF f g = -1)
def pairsI (n : Nat) : List (Nat × Nat) := (List.range n).flatMap fun i => ((List.range n).filter (fun k => decide (i < k))).map fun k => (i, k)
def toD (n : Nat) (x : Nat × Nat) : Dg := ((min ((x.1 + 1) % n) ((x.2 + 1) % n) : Nat), (max ((x.1 + 1) % n) ((x.2 + 1) % n) : Nat))
def nearI (p : List Fr) : List Dg := ((pairsI p.length).filter (fun x => inDg p.length (toD p.length x) && nearB (gF p x.1) (gF p x.2))).map (toD p.length)
def nearS (p : List Fr) : List Dg := (dgL p.length).filter fun d => nearB (gF p ((d.1.toNat + p.length - 1) % p.length)) (gF p (d.2.toNat - 1))
theorem toD_in {n i k : Nat} (hik : i < k) (hk : k < n) : toD n (i, k) = if k + 1 < n then (((i + 1 : Nat) : Int), ((k + 1 : Nat) : Int)) else (0, ((i + 1 : Nat) : Int)) := by
  unfold toD
  dsimp only
  rw [Nat.mod_eq_of_lt (show i + 1 < n by omega)]
  split
  · rw [Nat.mod_eq_of_lt (show k + 1 < n by omega), Nat.min_eq_left (by omega), Nat.max_eq_right (by omega)]
  · rw [show k + 1 = n by omega, Nat.mod_self, Nat.min_eq_right (by omega), Nat.max_eq_left (by omega)]; rfl
theorem near_en {q : List Int} {ds : List Dg} (h : trOf q = some ds) {i k : Nat} (hik : i < k) (hk : k < q.length) (hd : inDg q.length (toD q.length (i, k)) = true) :
    nearB (gF (frsF q) i) (gF (frsF q) k) = decide (en (qa q) (toD q.length (i, k)).1 ((toD q.length (i, k)).2 - (toD q.length (i, k)).1).toNat = 1) := by
  obtain ⟨_, _, _, _, h3, h12⟩ := quid_triS h
  have hc := quid_clo (l := q) (by rw [h]; rfl)
  have hlen := frsF_length (q := q) (by omega)
  have hcr := frs_cross hc h3 hik hk (gF_some (by omega)) (gF_some (by omega))
  unfold nearB
  rw [hcr, toD_in hik hk]
  split
  · rw [eE_en (by omega) (by omega)]
    have := en_pos h ((i + 1 : Nat) : Int) (k := k + 1 - (i + 1)) (by omega) (by omega)
    dsimp only
    rw [show (((k + 1 : Nat) : Int) - ((i + 1 : Nat) : Int)).toNat = k + 1 - (i + 1) by omega]
    congr 1
    exact propext ⟨fun hh => by omega, fun hh => .inl hh⟩
  · rw [eE_en (by omega) (by omega), show ((0 : Nat) : Int) = 0 from rfl]
    have := en_pos h 0 (k := i + 1 - 0) (by omega) (by omega)
    dsimp only
    rw [show (((i + 1 : Nat) : Int) - 0).toNat = i + 1 - 0 by omega]
    congr 1
    exact propext ⟨fun hh => by omega, fun hh => .inl hh⟩
theorem pairs_mem {n i k : Nat} : (i, k) ∈ pairsI n ↔ i < k ∧ k < n := by
  unfold pairsI
  simp only [List.mem_flatMap, List.mem_range, List.mem_map, List.mem_filter, decide_eq_true_eq, Prod.mk.injEq]
  constructor
  · rintro ⟨a, h1, b, ⟨h2, h3⟩, rfl, rfl⟩; exact ⟨h3, h2⟩
  · rintro ⟨h1, h2⟩; exact ⟨i, by omega, k, ⟨h2, h1⟩, rfl, rfl⟩
theorem near_I {q : List Int} {ds : List Dg} (h : trOf q = some ds) : sortD (nearI (frsF q)) = ds ∧ (nearI (frsF q)).length ≤ 12 := by
  obtain ⟨es, _, hes, _, h3, h12⟩ := quid_triS h
  have hlen := frsF_length (q := q) (by omega)
  obtain ⟨ht, _⟩ := trOf_tri h
  obtain ⟨g1, g2, g3, g4, g5⟩ := tri_rng ht
  have hnd : ∀ n, n ≤ 12 → ((pairsI n).map (toD n)).Nodup := by decide +kernel
  have hnI : (nearI (frsF q)).Nodup := by
    unfold nearI
    rw [hlen]
    exact (hnd q.length h12).sublist (List.Sublist.map _ List.filter_sublist)
  have hmem : ∀ d, d ∈ nearI (frsF q) ↔ d ∈ ds := by
    intro d
    conv => rhs; rw [← ones_list h, List.mem_filter, decide_eq_true_eq, mem_dgL_iff]
    unfold nearI
    rw [hlen, List.mem_map]
    constructor
    · rintro ⟨⟨i, k⟩, hx, rfl⟩
      rw [List.mem_filter, Bool.and_eq_true, pairs_mem] at hx
      obtain ⟨⟨a1, a2⟩, a3, a4⟩ := hx
      dsimp only at a4
      rw [near_en h a1 a2 a3, decide_eq_true_eq] at a4
      exact ⟨a3, a4⟩
    · rintro ⟨a3, a4⟩
      have hi := inDg_iff.1 a3
      obtain ⟨i, k, a1, a2, e⟩ : ∃ i k : Nat, i < k ∧ k < q.length ∧ toD q.length (i, k) = d := by
        by_cases c : d.1 = 0
        · refine ⟨d.2.toNat - 1, q.length - 1, by omega, by omega, ?_⟩
          rw [toD_in (by omega) (by omega), if_neg (by omega)]
          exact Prod.ext c.symm (by show ((d.2.toNat - 1 + 1 : Nat) : Int) = d.2; omega)
        · refine ⟨d.1.toNat - 1, d.2.toNat - 1, by omega, by omega, ?_⟩
          rw [toD_in (by omega) (by omega), if_pos (by omega)]
          exact Prod.ext (by show ((d.1.toNat - 1 + 1 : Nat) : Int) = d.1; omega) (by show ((d.2.toNat - 1 + 1 : Nat) : Int) = d.2; omega)
      refine ⟨(i, k), ?_, e⟩
      subst e
      rw [List.mem_filter, Bool.and_eq_true, pairs_mem]
      exact ⟨⟨a1, a2⟩, a3, by dsimp only; rw [near_en h a1 a2 a3]; exact decide_eq_true a4⟩
  have hp : (nearI (frsF q)).Perm ds := (List.perm_ext_iff_of_nodup hnI g2).2 hmem
  have hs2 : SortedD ds := by rw [hes]; exact sortD_sorted es
  exact ⟨sorted_unique (sortD_sorted _) hs2 ((sortD_perm _).trans hp), by rw [hp.length_eq]; omega⟩
theorem near_S {q : List Int} {ds : List Dg} (h : trOf q = some ds) : nearS (frsF q) = ds := by
  obtain ⟨es, _, hes, _, h3, h12⟩ := quid_triS h
  have hlen := frsF_length (q := q) (by omega)
  have hc := quid_clo (l := q) (by rw [h]; rfl)
  rw [← ones_list h]
  unfold nearS
  rw [hlen]
  apply List.filter_congr
  intro d hd
  have hin := mem_dgL_iff.1 hd
  have hi := inDg_iff.1 hin
  by_cases c : d.1 = 0
  · have e : toD q.length (d.2.toNat - 1, q.length - 1) = d := by
      rw [toD_in (by omega) (by omega), if_neg (by omega)]
      exact Prod.ext c.symm (by show ((d.2.toNat - 1 + 1 : Nat) : Int) = d.2; omega)
    have hn := near_en h (i := d.2.toNat - 1) (k := q.length - 1) (by omega) (by omega) (by rw [e]; exact hin)
    rw [e] at hn
    rw [← hn, show (d.1.toNat + q.length - 1) % q.length = q.length - 1 by rw [c, show (0 : Int).toNat + q.length - 1 = q.length - 1 by omega, Nat.mod_eq_of_lt (by omega)]]
    unfold nearB crossF
    congr 1
    exact propext ⟨fun hh => by omega, fun hh => by omega⟩
  · have e : toD q.length (d.1.toNat - 1, d.2.toNat - 1) = d := by
      rw [toD_in (by omega) (by omega), if_pos (by omega)]
      exact Prod.ext (by show ((d.1.toNat - 1 + 1 : Nat) : Int) = d.1; omega) (by show ((d.2.toNat - 1 + 1 : Nat) : Int) = d.2; omega)
    have hn := near_en h (i := d.1.toNat - 1) (k := d.2.toNat - 1) (by omega) (by omega) (by rw [e]; exact hin)
    rw [e] at hn
    rw [← hn, show (d.1.toNat + q.length - 1) % q.length = d.1.toNat - 1 by rw [show d.1.toNat + q.length - 1 = d.1.toNat - 1 + q.length by omega, Nat.add_mod_right, Nat.mod_eq_of_lt (by omega)]]
theorem flat_if {A B : Type} (c : A → Bool) (f : A → B) : ∀ l : List A, (l.filter c).map f = l.flatMap fun x => if c x = true then [f x] else []
  | [] => rfl
  | a :: t => by
    rw [List.flatMap_cons, ← flat_if c f t]
    cases h : c a <;> simp [h]
def iN (p : List Fr) (i k : Nat) : List Dg := if (inDg p.length (toD p.length (i, k)) && nearB (gF p i) (gF p k)) = true then [toD p.length (i, k)] else []
def sN (p : List Fr) (a b : Nat) : List Dg := if (decide (b - a ≤ p.length - 2) && nearB (gF p ((a + p.length - 1) % p.length)) (gF p (b - 1))) = true then [((a : Int), (b : Int))] else []
theorem pairs_range {n : Nat} (h : n ≤ 12) : pairsI n = (List.range n).flatMap fun i => (List.range' (i + 1) (n - (i + 1))).map fun k => (i, k) := by
  have : ∀ n, n ≤ 12 → pairsI n = (List.range n).flatMap fun i => (List.range' (i + 1) (n - (i + 1))).map fun k => (i, k) := by decide +kernel
  exact this n h
theorem nearI_flat {p : List Fr} (h : p.length ≤ 12) : nearI p = (List.range p.length).flatMap fun i => (List.range' (i + 1) (p.length - (i + 1))).flatMap (iN p i) := by
  unfold nearI
  rw [flat_if, pairs_range h, List.flatMap_assoc]
  congr 1
  funext i
  rw [List.flatMap_map]
  rfl
theorem nearS_flat {p : List Fr} (h : p.length ≤ 12) : nearS p = (List.range p.length).flatMap fun a => (List.range' (a + 2) (p.length - (a + 2))).flatMap (sN p a) := by
  have hd : ∀ n, n ≤ 12 → dgL n = (List.range n).flatMap fun (a : Nat) => (List.range' (a + 2) (n - (a + 2))).flatMap fun (b : Nat) => if b - a ≤ n - 2 then [((a : Int), (b : Int))] else [] := by decide +kernel
  unfold nearS
  rw [hd p.length h, List.filter_flatMap]
  congr 1
  funext a
  rw [List.filter_flatMap]
  congr 1
  funext b
  unfold sN
  by_cases c : b - a ≤ p.length - 2
  · rw [if_pos c, decide_eq_true c, Bool.true_and]
    simp only [List.filter_cons, List.filter_nil, Int.toNat_natCast]
  · rw [if_neg c, decide_eq_false c]; rfl
theorem app_loop {A B X : Type} {step : A → Option (A ⊕ B)} (emb : Nat → List X → A) (f : Nat → List X) (fin : List X → B) (n D L k0 : Nat) (hD : ∀ j, (f j).length ≤ D)
    (hend : ∀ o j, n ≤ j → step (emb j o) = some (.inr (fin o))) (hstep : ∀ j o, k0 ≤ j → j < n → o.length ≤ L + D * j → step (emb j o) = some (.inl (emb (j + 1) (o ++ f j)))) :
    ∀ (m k : Nat) (o : List X), k0 ≤ k → m = n - k → o.length ≤ L + D * k → loopO step (emb k o) = some (fin (o ++ (List.range' k m).flatMap f))
  | 0, k, o, h0, hm, ho => by
    rw [List.range'_zero, List.flatMap_nil, List.append_nil]
    exact loopO_done (hend o k (by omega))
  | m + 1, k, o, h0, hm, ho => by
    have hl : (o ++ f k).length ≤ L + D * (k + 1) := by
      rw [List.length_append, Nat.mul_add, Nat.mul_one]
      have := hD k
      omega
    rw [loopO_next (hstep k o h0 (by omega) ho), app_loop emb f fin n D L k0 hD hend hstep m (k + 1) (o ++ f k) (by omega) (by omega) hl, List.range'_succ, List.flatMap_cons, List.append_assoc]
theorem all_loop {A B : Type} {step : A → Option (A ⊕ (Bool ⊕ B))} (emb : Nat → A) (c : Nat → Bool) (e : B) (n : Nat) (hend : step (emb n) = some (.inr (.inr e)))
    (hstep : ∀ j, j < n → step (emb j) = if c j = true then some (.inl (emb (j + 1))) else some (.inr (.inl false))) :
    ∀ (m k : Nat), k + m = n → loopO step (emb k) = some (if ((List.range' k m).all c) = true then .inr e else .inl false)
  | 0, k, hm => by
    rw [show k = n by omega]
    exact loopO_done hend
  | m + 1, k, hm => by
    have hs := hstep k (by omega)
    rw [List.range'_succ, List.all_cons]
    by_cases hc : c k = true
    · rw [if_pos hc] at hs
      rw [loopO_next hs, all_loop emb c e n hend hstep m (k + 1) (by omega), hc, Bool.true_and]
    · rw [if_neg hc] at hs
      rw [loopO_done hs, if_neg (by simp [hc])]
def crossW (f g : Fr) : Int := w64 (w64 (g.1 * f.2) - w64 (f.1 * g.2))
theorem crossW_eq {f g : Fr} (hf : fracB f = true) (hg : fracB g = true) : crossW f g = crossF f g ∧ -1000000000000 ≤ crossF f g ∧ crossF f g ≤ 1000000000000 := by
  obtain ⟨a1, a2, _⟩ := fracB_iff.1 hf
  obtain ⟨b1, b2, _⟩ := fracB_iff.1 hg
  have m1 := mul_le (a := g.1) (b := f.2) (A := 1000000) (B := 1000000) (by omega) (by omega) (by omega) (by omega)
  have m2 := mul_le (a := f.1) (b := g.2) (A := 1000000) (B := 1000000) (by omega) (by omega) (by omega) (by omega)
  have m0 : 0 ≤ g.1 * f.2 := Int.mul_nonneg b1.1 a2.1
  have m3 : 0 ≤ f.1 * g.2 := Int.mul_nonneg a1.1 b2.1
  unfold crossW crossF
  rw [w64_id (z := g.1 * f.2) (by omega) (by omega), w64_id (z := f.1 * g.2) (by omega) (by omega), w64_id (by omega) (by omega)]
  exact ⟨rfl, by omega, by omega⟩
theorem frEq (f : Fr) (a b : Int) : (f.1 == a && (f.2 == b && true)) = decide (f = (a, b)) := by
  obtain ⟨x, y⟩ := f
  rw [Bool.eq_iff_iff]
  simp [Prod.mk.injEq]
theorem iN_len (p : List Fr) (i k : Nat) : (iN p i k).length ≤ 1 := by unfold iN; split <;> simp
theorem sN_len (p : List Fr) (i k : Nat) : (sN p i k).length ≤ 1 := by unfold sN; split <;> simp
theorem flat_len {A X : Type} (f : A → List X) (D : Nat) (h : ∀ a, (f a).length ≤ D) : ∀ l : List A, (l.flatMap f).length ≤ D * l.length
  | [] => by simp
  | a :: t => by
    rw [List.flatMap_cons, List.length_append, List.length_cons, Nat.mul_add, Nat.mul_one]
    have := flat_len f D h t
    have := h a
    omega


def F60_sh : FSh := ⟨[(.one (.sl (.int .i64) false false))], []⟩

def F60_L4_sh : LSh := ⟨(fun ex => match ex with | .norm => [(3, none), (4, none), (5, none), (6, none), (7, none)] | .exit i => if i = 0 then [(4, none)] else [] | .ret => [(2, none)]), [(3, (.one (.si .i64))), (4, (.one (.rw 0 0))), (5, (.one (.rw 1 0))), (6, (.one (.rw 2 0))), (7, (.one (.si .i64)))], [(.row 0 (.pair (.int .i64) (.int .i64))), (.row 0 (.int .i64)), (.row 0 (.int .i64))], [⟨(.exit 0), [(4, (.one (.rw 0 0)))], [(.row 0 (.pair (.int .i64) (.int .i64)))]⟩], [], []⟩
noncomputable def F60_L4_step : ((Int × Unit × Unit × Unit × Int) × (List ((Int × Int)) × List (Int) × List (Int))) → T (((Int × Unit × Unit × Unit × Int) × (List ((Int × Int)) × List (Int) × List (Int))) ⊕ (Unit × List ((Int × Int)))) := fun ((n, (), (), (), i), (out, zero, first)) =>
 (.test (decide (i < n))
 (.test (decide ((0 ≤ (w64 (i - 1))) ∧ ((w64 (i - 1)) < ((List.length first) : Int))))
 (.sub (first[(0 + (Int.toNat (w64 (i - 1))))]?) fun z0 =>
 (.test (decide ((0 ≤ i) ∧ (i < ((List.length zero) : Int))))
 (.sub (zero[(0 + (Int.toNat i))]?) fun z1 =>
 (.test (decide (1 ≤ 1))
 (.test (decide ((0 + (List.length out)) ≤ (List.length out)))
 (.test (decide ((2 * (((List.length out) + 1) * 17)) ≤ 140737488355328))
 (.test (decide ((0 = 0) ∧ (((List.length out) + 1) = (List.length ((win out 0 (List.length out)) ++ [(z0, z1)])))))
 (.test (decide ((0 = 0) ∧ ((List.length zero) = (List.length zero))))
 (.test (decide ((0 = 0) ∧ ((List.length first) = (List.length first))))
 (.ret (Sum.inl ((n, ((), ((), ((), (w64 (i + 1)))))), (((win out 0 (List.length out)) ++ [(z0, z1)]), (zero, first)))))
 .fail)
 .fail)
 .fail)
 .fail)
 .fail)
 .fail))
 .fail))
 .fail)
 (.test (decide ((0 = 0) ∧ ((List.length out) = (List.length out))))
 (.ret (Sum.inr ((), out)))
 .fail))
noncomputable def F60_L4 (v : ((Int × Unit × Unit × Unit × Int) × (List ((Int × Int)) × List (Int) × List (Int)))) : Option (Unit × List ((Int × Int))) := loopO (fun v => (F60_L4_step v).run) v

def F60_fo : List FO := [⟨[(.one (.rw 0 0))], [(.row 0 (.pair (.int .i64) (.int .i64)))]⟩]
noncomputable def F60_t : List (Int) → T (Unit × List ((Int × Int))) := fun quiddity =>
 (.sub (F70 (quiddity, (0 : Int))) fun z0 =>
 (.sub (F70 (quiddity, (1 : Int))) fun z1 =>
 (.test (decide ((0 = 0) ∧ (0 = 0)))
 (.test (decide ((0 = 0) ∧ ((List.length z0.2) = (List.length z0.2))))
 (.test (decide ((0 = 0) ∧ ((List.length z1.2) = (List.length z1.2))))
 (.sub (F60_L4 ((((List.length quiddity) : Int), ((), ((), ((), (1 : Int))))), (([] : List (Int × Int)), (z0.2, z1.2)))) fun z2 =>
 (.test true
 (.test (decide ((0 + (List.length z2.2)) ≤ (List.length z2.2)))
 (.test (decide ((2 * (((List.length z2.2) + 1) * 17)) ≤ 140737488355328))
 (.test (decide ((0 = 0) ∧ (((List.length z2.2) + 1) = (List.length ((win z2.2 0 (List.length z2.2)) ++ [((1 : Int), (0 : Int))])))))
 (.ret ((), ((win z2.2 0 (List.length z2.2)) ++ [((1 : Int), (0 : Int))])))
 .fail)
 .fail)
 .fail)
 .fail))
 .fail)
 .fail)
 .fail)))
noncomputable def F60 (v : List (Int)) : Option (Unit × List ((Int × Int))) := (F60_t v).run
noncomputable def F60_E : TEnv := (E0.add1 n_F70 F70_sh F70_fo F70)
theorem F60_Eok : (F60_E).OK := (E0ok.add1 F70_ok)
noncomputable def F60_told : Nat → Option SealT := fun id => if id = 4 then some (LSh.told F60_L4_sh 0 (F60_L4_step)) else none
theorem F60_L4_ok : ToldOK Tryz.prog 0 (loopAt (bodyOf fn_F60) [0]) (LSh.told F60_L4_sh 0 (F60_L4_step)) :=
  loop_ok (E := F60_E) (F60_Eok) (told := F60_told) (l := F60_L4_sh) (step := F60_L4_step) (loopsOK_of (ls := []) (by kernel_rfl) trivial) (by kernel_rfl) (fun v => by kernel_rfl)
theorem F60_ok : FOK Tryz.prog n_F60 F60_sh F60_fo F60 :=
  fn_ok (E := F60_E) (F60_Eok) (told := F60_told) (fl := []) (c := bodyOf fn_F60) (s := F60_sh) (l := F60_fo) (tree := F60_t) fnat_F60 (by kernel_rfl) (by kernel_rfl) (by kernel_rfl) (loopsOK_of (ls := [loopAt (bodyOf fn_F60) [0]]) (by kernel_rfl) ⟨.inr ⟨_, by kernel_rfl, F60_L4_ok⟩, trivial⟩) (fun v => by kernel_rfl)

theorem F60_eq {q : List Int} {ds : List Dg} (h : trOf q = some ds) : F60 q = some ((), frsF q) := by
  have hb := (trOf_bounds (l := q) (by rw [h]; rfl)).1
  have hL := app_loop (step := fun v => (F60_L4_step v).run) (fun k o => (((q.length : Int), ((), ((), ((), (k : Int))))), (o, (ensL q 0 (q.length + 1), ensL q 1 (q.length + 1))))) (fun k => [(en (qa q) 1 (k - 1), en (qa q) 0 k)]) (fun o => ((), o)) q.length 1 0 1 (fun j => by simp)
    (fun o j hj => by rw [F60_L4_step, T.run_test, if_neg (by simp; omega), T.run_test, if_pos (by simp), T.run_ret])
    (fun k o k1 hk ho => by
      have v1 : w64 ((k : Int) - 1) = ((k - 1 : Nat) : Int) := by rw [w64_id (by omega) (by omega)]; omega
      have v2 : w64 ((k : Int) + 1) = ((k + 1 : Nat) : Int) := by rw [w64_id (by omega) (by omega)]; omega
      have e1 := ensL_get (q := q) (i := 1) (k := q.length + 1) (t := k - 1) (by omega)
      have e2 := ensL_get (q := q) (i := 0) (k := q.length + 1) (t := k) (by omega)
      have l1 := ensL_length q 1 (q.length + 1)
      have l2 := ensL_length q 0 (q.length + 1)
      rw [F60_L4_step, T.run_test, if_pos (decide_eq_true (by omega))]
      simp only [v1, v2, Int.toNat_natCast, Nat.zero_add, l1, l2, e1, e2]
      rw [T.run_test, if_pos (decide_eq_true (by omega)), T.run_sub, Option.bind_some, T.run_test, if_pos (decide_eq_true (by omega)), T.run_sub, Option.bind_some, T.run_test, if_pos (by simp), T.run_test, if_pos (by simp), T.run_test, if_pos (decide_eq_true (by omega)), win_all, T.run_test, if_pos (by simp), T.run_test, if_pos (by simp), T.run_test, if_pos (by simp), T.run_ret])
    (q.length - 1) 1 [] (Nat.le_refl 1) rfl (by simp)
  have hL' : F60_L4 (((q.length : Int), ((), ((), ((), (1 : Int))))), ([], (ensL q 0 (q.length + 1), ensL q 1 (q.length + 1)))) = some ((), (List.range (q.length - 1)).map fun (i : Nat) => (en (qa q) 1 i, en (qa q) 0 (i + 1))) := by
    refine hL.trans ?_
    rw [List.nil_append]
    congr 2
    rw [List.range_eq_range', show List.range' 1 (q.length - 1) = (List.range' 0 (q.length - 1)).map (1 + ·) by rw [List.map_add_range'], List.flatMap_map]
    generalize List.range' 0 (q.length - 1) = R
    induction R with
    | nil => rfl
    | cons a t ih =>
      rw [List.flatMap_cons, List.map_cons, ih, show 1 + a - 1 = a by omega, Nat.add_comm 1 a]; rfl
  rw [F60, F60_t, T.run_sub, F70_eq h 0 (by omega), Option.bind_some, T.run_sub, F70_eq h 1 (by omega), Option.bind_some, T.run_test, if_pos (by simp), T.run_test, if_pos (by simp), T.run_test, if_pos (by simp), T.run_sub, hL', Option.bind_some, T.run_test, if_pos rfl, T.run_test, if_pos (by simp), T.run_test, if_pos (by simp; omega), win_all, T.run_test, if_pos (by simp), T.run_ret]
  rfl


def F47_sh : FSh := ⟨[(.one (.sl (.int .i64) false false))], []⟩

def F47_fo : List FO := [⟨[(.one (.rw 0 0)), (.one .sb)], [(.row 0 (.pair (.int .i64) (.int .i64)))]⟩]
noncomputable def F47_t : List (Int) → T ((Unit × Bool) × List ((Int × Int))) := fun quiddity =>
 (.sub (F52 quiddity) fun z0 =>
 (.test (! z0)
 (.test true
 (.ret (((), false), ([] : List (Int × Int))))
 .fail)
 (.sub (F60 quiddity) fun z1 =>
 (.test (decide ((0 = 0) ∧ ((List.length z1.2) = (List.length z1.2))))
 (.ret (((), true), z1.2))
 .fail))))
noncomputable def F47 (v : List (Int)) : Option ((Unit × Bool) × List ((Int × Int))) := (F47_t v).run
noncomputable def F47_E : TEnv := ((E0.add1 n_F52 F52_sh F52_fo F52).add1 n_F60 F60_sh F60_fo F60)
theorem F47_Eok : (F47_E).OK := ((E0ok.add1 F52_ok).add1 F60_ok)
noncomputable def F47_told : Nat → Option SealT := fun id => none
theorem F47_ok : FOK Tryz.prog n_F47 F47_sh F47_fo F47 :=
  fn_ok (E := F47_E) (F47_Eok) (told := F47_told) (fl := []) (c := bodyOf fn_F47) (s := F47_sh) (l := F47_fo) (tree := F47_t) fnat_F47 (by kernel_rfl) (by kernel_rfl) (by kernel_rfl) (loopsOK_of (ls := []) (by kernel_rfl) trivial) (fun v => by kernel_rfl)

theorem F47_eq (q : List Int) (hl : q.length < 4611686018427387904) : F47 q = some (if (trOf q).isSome = true then (((), true), frsF q) else (((), false), [])) := by
  rw [F47, F47_t, T.run_sub, F52_eq q hl, Option.bind_some, T.run_test]
  cases h : trOf q with
  | none => rw [if_pos (by rfl), T.run_test, if_pos rfl, T.run_ret]; rfl
  | some ds => rw [if_neg (by simp), T.run_sub, F60_eq h, Option.bind_some, T.run_test, if_pos (by simp), T.run_ret]; rfl


def F106_sh : FSh := ⟨[(.one (.si .i64)), (.one (.si .i64)), (.one (.si .i64))], []⟩

def F106_fo : List FO := [⟨[(.one .sb)], []⟩]
noncomputable def F106_t : (Int × Int × Int) → T Bool := fun (n, lo, hi) =>
 (.test (decide (n ≥ lo))
 (.ret (decide (n ≤ hi)))
 (.ret false))
noncomputable def F106 (v : (Int × Int × Int)) : Option Bool := (F106_t v).run
noncomputable def F106_E : TEnv := E0
theorem F106_Eok : (F106_E).OK := E0ok
noncomputable def F106_told : Nat → Option SealT := fun id => none
theorem F106_ok : FOK Tryz.prog n_F106 F106_sh F106_fo F106 :=
  fn_ok (E := F106_E) (F106_Eok) (told := F106_told) (fl := []) (c := bodyOf fn_F106) (s := F106_sh) (l := F106_fo) (tree := F106_t) fnat_F106 (by kernel_rfl) (by kernel_rfl) (by kernel_rfl) (loopsOK_of (ls := []) (by kernel_rfl) trivial) (fun v => by kernel_rfl)

theorem F106_eq (n low high : Int) : F106 (n, low, high) = some (inB low high n) := by
  simp only [F106, F106_t, T.run, ge_iff_le, decide_eq_true_eq, inB]
  by_cases h : low ≤ n <;> simp [h]


def F107_sh : FSh := ⟨[(.one (.si .i64))], []⟩

def F107_fo : List FO := [⟨[(.one .sb)], []⟩]
noncomputable def F107_t : Int → T Bool := fun n =>
 (.sub (F106 (n, ((3 : Int), (12 : Int)))) fun z0 =>
 (.ret z0))
noncomputable def F107 (v : Int) : Option Bool := (F107_t v).run
noncomputable def F107_E : TEnv := (E0.add1 n_F106 F106_sh F106_fo F106)
theorem F107_Eok : (F107_E).OK := (E0ok.add1 F106_ok)
noncomputable def F107_told : Nat → Option SealT := fun id => none
theorem F107_ok : FOK Tryz.prog n_F107 F107_sh F107_fo F107 :=
  fn_ok (E := F107_E) (F107_Eok) (told := F107_told) (fl := []) (c := bodyOf fn_F107) (s := F107_sh) (l := F107_fo) (tree := F107_t) fnat_F107 (by kernel_rfl) (by kernel_rfl) (by kernel_rfl) (loopsOK_of (ls := []) (by kernel_rfl) trivial) (fun v => by kernel_rfl)

def F90_sh : FSh := ⟨[(.one (.sl (.int .i64) false false)), (.one (.si .i64)), (.one (.si .i64))], []⟩

def F90_L2_sh : LSh := ⟨(fun ex => match ex with | .norm => [(1, none), (2, none), (9, none), (10, none), (11, none)] | .exit i => if i = 0 then [] else [] | .ret => [(6, none)]), [(1, (.one (.si .i64))), (2, (.one (.si .i64))), (9, (.one (.sl (.int .i64) false false))), (10, (.one (.si .i64))), (11, (.one (.si .i64)))], [], [⟨.ret, [(6, (.one .sb))], []⟩, ⟨(.exit 0), [], []⟩], [], []⟩
noncomputable def F90_L2_step : (Int × Int × List (Int) × Int × Int) → T ((Int × Int × List (Int) × Int × Int) ⊕ (Bool ⊕ Unit)) := fun (lo, hi, t9, t10, t11) =>
 (.test (decide (t11 < t10))
 (.test (decide ((0 ≤ t11) ∧ (t11 < ((List.length t9) : Int))))
 (.sub (t9[(Int.toNat t11)]?) fun z0 =>
 (.sub (F106 (z0, (lo, hi))) fun z1 =>
 (.test (! z1)
 (.ret (Sum.inr (Sum.inl false)))
 (.ret (Sum.inl (lo, (hi, (t9, (t10, (w64 (t11 + 1)))))))))))
 .fail)
 (.ret (Sum.inr (Sum.inr ()))))
noncomputable def F90_L2 (v : (Int × Int × List (Int) × Int × Int)) : Option (Bool ⊕ Unit) := loopO (fun v => (F90_L2_step v).run) v

def F90_fo : List FO := [⟨[(.one .sb)], []⟩]
noncomputable def F90_t : (List (Int) × Int × Int) → T Bool := fun (l, lo, hi) =>
 (.sub (F90_L2 (lo, (hi, (l, (((List.length l) : Int), (0 : Int)))))) fun z0 =>
 (.test (Sum.isLeft z0)
 (.sub (Sum.getLeft? z0) fun z1 =>
 (.ret z1))
 (.sub (Sum.getRight? z0) fun z2 =>
 (.ret true))))
noncomputable def F90 (v : (List (Int) × Int × Int)) : Option Bool := (F90_t v).run
noncomputable def F90_E : TEnv := (E0.add1 n_F106 F106_sh F106_fo F106)
theorem F90_Eok : (F90_E).OK := (E0ok.add1 F106_ok)
noncomputable def F90_told : Nat → Option SealT := fun id => if id = 2 then some (LSh.told F90_L2_sh 0 (F90_L2_step)) else none
theorem F90_L2_ok : ToldOK Tryz.prog 0 (loopAt (bodyOf fn_F90) [0]) (LSh.told F90_L2_sh 0 (F90_L2_step)) :=
  loop_ok (E := F90_E) (F90_Eok) (told := F90_told) (l := F90_L2_sh) (step := F90_L2_step) (loopsOK_of (ls := []) (by kernel_rfl) trivial) (by kernel_rfl) (fun v => by kernel_rfl)
theorem F90_ok : FOK Tryz.prog n_F90 F90_sh F90_fo F90 :=
  fn_ok (E := F90_E) (F90_Eok) (told := F90_told) (fl := []) (c := bodyOf fn_F90) (s := F90_sh) (l := F90_fo) (tree := F90_t) fnat_F90 (by kernel_rfl) (by kernel_rfl) (by kernel_rfl) (loopsOK_of (ls := [loopAt (bodyOf fn_F90) [0]]) (by kernel_rfl) ⟨.inr ⟨_, by kernel_rfl, F90_L2_ok⟩, trivial⟩) (fun v => by kernel_rfl)

theorem F90_eq (l : List Int) (lo hi : Int) (hl : l.length < 4611686018427387904) : F90 (l, lo, hi) = some (l.all (inB lo hi)) := by
  have h := loop_any (step := fun v => (F90_L2_step v).run) (xs := l) (fun n => !inB lo hi n) (fun k => (lo, hi, l, (l.length : Int), (k : Int))) (.inl false) (.inr ())
    (fun k x hx => by
      have hk := getElem?_lt hx
      simp only [F90_L2_step, T.run, F106_eq, Option.bind_some, Int.toNat_natCast, hx]
      rw [w64_id (by omega) (by omega)]
      cases inB lo hi x <;> simp [hk])
    (by simp [F90_L2_step, T.run])
  simp only [F90, F90_t, T.run, F90_L2]
  simp only [Int.natCast_zero] at h
  rw [h, ← all_any]
  cases hb : l.any (fun n => !inB lo hi n) <;> simp


def F71_sh : FSh := ⟨[(.one (.si .i64)), (.one (.si .i64))], []⟩

def F71_fo : List FO := [⟨[(.one (.si .i64))], []⟩]
noncomputable def F71_t : (Int × Int) → T Int := fun (a, b) =>
 (.test (decide (a < b))
 (.ret a)
 (.ret b))
noncomputable def F71 (v : (Int × Int)) : Option Int := (F71_t v).run
noncomputable def F71_E : TEnv := E0
theorem F71_Eok : (F71_E).OK := E0ok
noncomputable def F71_told : Nat → Option SealT := fun id => none
theorem F71_ok : FOK Tryz.prog n_F71 F71_sh F71_fo F71 :=
  fn_ok (E := F71_E) (F71_Eok) (told := F71_told) (fl := []) (c := bodyOf fn_F71) (s := F71_sh) (l := F71_fo) (tree := F71_t) fnat_F71 (by kernel_rfl) (by kernel_rfl) (by kernel_rfl) (loopsOK_of (ls := []) (by kernel_rfl) trivial) (fun v => by kernel_rfl)


def F82_sh : FSh := ⟨[(.one (.si .i64)), (.one (.si .i64))], []⟩

def F82_fo : List FO := [⟨[(.one (.si .i64))], []⟩]
noncomputable def F82_t : (Int × Int) → T Int := fun (a, b) =>
 (.test (decide (a > b))
 (.ret a)
 (.ret b))
noncomputable def F82 (v : (Int × Int)) : Option Int := (F82_t v).run
noncomputable def F82_E : TEnv := E0
theorem F82_Eok : (F82_E).OK := E0ok
noncomputable def F82_told : Nat → Option SealT := fun id => none
theorem F82_ok : FOK Tryz.prog n_F82 F82_sh F82_fo F82 :=
  fn_ok (E := F82_E) (F82_Eok) (told := F82_told) (fl := []) (c := bodyOf fn_F82) (s := F82_sh) (l := F82_fo) (tree := F82_t) fnat_F82 (by kernel_rfl) (by kernel_rfl) (by kernel_rfl) (loopsOK_of (ls := []) (by kernel_rfl) trivial) (fun v => by kernel_rfl)

def F83_sh : FSh := ⟨[(.ag [(.si .i64), (.si .i64)]), (.ag [(.si .i64), (.si .i64)])], []⟩

def F83_fo : List FO := [⟨[(.one .sb)], []⟩]
noncomputable def F83_t : ((Int × Int) × (Int × Int)) → T Bool := fun ((d_0, d_1), (e_0, e_1)) =>
 (.test (decide (d_0 < e_0))
 (.ret true)
 (.test (d_0 == e_0)
 (.ret (decide (d_1 < e_1)))
 (.ret false)))
noncomputable def F83 (v : ((Int × Int) × (Int × Int))) : Option Bool := (F83_t v).run
noncomputable def F83_E : TEnv := E0
theorem F83_Eok : (F83_E).OK := E0ok
noncomputable def F83_told : Nat → Option SealT := fun id => none
theorem F83_ok : FOK Tryz.prog n_F83 F83_sh F83_fo F83 :=
  fn_ok (E := F83_E) (F83_Eok) (told := F83_told) (fl := []) (c := bodyOf fn_F83) (s := F83_sh) (l := F83_fo) (tree := F83_t) fnat_F83 (by kernel_rfl) (by kernel_rfl) (by kernel_rfl) (loopsOK_of (ls := []) (by kernel_rfl) trivial) (fun v => by kernel_rfl)

theorem F83_eq (d e : Dg) : F83 (d, e) = some (ltD d e) := by
  obtain ⟨a, b⟩ := d
  obtain ⟨c, f⟩ := e
  simp only [F83, F83_t, T.run, ltD]
  by_cases h1 : a < c
  · simp [h1]
  · by_cases h2 : a = c
    · subst h2; simp [h1]
    · simp [h1, h2]


def F68_sh : FSh := ⟨[(.one (.sl (.pair (.int .i64) (.int .i64)) false false))], []⟩

def F68_L6_sh : LSh := ⟨(fun ex => match ex with | .norm => [(3, none), (5, none), (6, none), (8, none), (9, none), (10, none)] | .exit i => if i = 2 then [(3, none), (5, none), (6, none), (8, none), (9, none), (10, none)] else if i = 1 then [(3, none), (8, none), (9, none), (10, none)] else if i = 0 then [(3, none)] else [] | .ret => [(2, none)]), [(3, (.one (.rw 0 0))), (5, (.one (.pf 1 0 0))), (6, (.one (.si .i64))), (8, (.one (.sl (.pair (.int .i64) (.int .i64)) false false))), (9, (.one (.si .i64))), (10, (.one (.si .i64)))], [(.row 0 (.pair (.int .i64) (.int .i64))), (.rcd 0 [(.si .i64), (.si .i64)])], [⟨(.exit 2), [(3, (.one (.rw 0 0))), (5, (.one (.pf 1 0 0))), (6, (.one (.si .i64))), (8, (.one (.sl (.pair (.int .i64) (.int .i64)) false false))), (9, (.one (.si .i64))), (10, (.one (.si .i64)))], [(.row 0 (.pair (.int .i64) (.int .i64))), (.rcd 0 [(.si .i64), (.si .i64)])]⟩], [], []⟩
noncomputable def F68_L6_step : ((Unit × Unit × Int × List ((Int × Int)) × Int × Int) × (List ((Int × Int)) × (Int × Int))) → T (((Unit × Unit × Int × List ((Int × Int)) × Int × Int) × (List ((Int × Int)) × (Int × Int))) ⊕ ((Unit × Unit × Int × List ((Int × Int)) × Int × Int) × (List ((Int × Int)) × (Int × Int)))) := fun (((), (), k, t8, t9, t10), (out, (d_0, d_1))) =>
 (.test (decide (k < ((List.length out) : Int)))
 (.test (decide ((0 ≤ k) ∧ (k < ((List.length out) : Int))))
 (.sub (out[(0 + (Int.toNat k))]?) fun z0 =>
 (.sub (F83 ((z0.1, z0.2), (d_0, d_1))) fun z1 =>
 (.test z1
 (.test (decide ((0 = 0) ∧ ((List.length out) = (List.length out))))
 (.ret (Sum.inl (((), ((), ((w64 (k + 1)), (t8, (t9, t10))))), (out, (d_0, d_1)))))
 .fail)
 (.test (decide ((0 = 0) ∧ ((List.length out) = (List.length out))))
 (.ret (Sum.inr (((), ((), (k, (t8, (t9, t10))))), (out, (d_0, d_1)))))
 .fail))))
 .fail)
 (.test (decide ((0 = 0) ∧ ((List.length out) = (List.length out))))
 (.ret (Sum.inr (((), ((), (k, (t8, (t9, t10))))), (out, (d_0, d_1)))))
 .fail))
noncomputable def F68_L6 (v : ((Unit × Unit × Int × List ((Int × Int)) × Int × Int) × (List ((Int × Int)) × (Int × Int)))) : Option ((Unit × Unit × Int × List ((Int × Int)) × Int × Int) × (List ((Int × Int)) × (Int × Int))) := loopO (fun v => (F68_L6_step v).run) v

def F68_L3_sh : LSh := ⟨(fun ex => match ex with | .norm => [(3, none), (8, none), (9, none), (10, none)] | .exit i => if i = 0 then [(3, none)] else [] | .ret => [(2, none)]), [(3, (.one (.rw 0 0))), (8, (.one (.sl (.pair (.int .i64) (.int .i64)) false false))), (9, (.one (.si .i64))), (10, (.one (.si .i64)))], [(.row 0 (.pair (.int .i64) (.int .i64)))], [⟨(.exit 0), [(3, (.one (.rw 0 0)))], [(.row 0 (.pair (.int .i64) (.int .i64)))]⟩], [], []⟩
noncomputable def F68_L3_step : ((Unit × List ((Int × Int)) × Int × Int) × List ((Int × Int))) → T (((Unit × List ((Int × Int)) × Int × Int) × List ((Int × Int))) ⊕ (Unit × List ((Int × Int)))) := fun (((), t8, t9, t10), out) =>
 (.test (decide (t10 < t9))
 (.test (decide ((0 ≤ t10) ∧ (t10 < ((List.length t8) : Int))))
 (.sub (t8[(Int.toNat t10)]?) fun z0 =>
 (.test (decide ((0 = 0) ∧ ((List.length out) = (List.length out))))
 (.sub (F68_L6 (((), ((), ((0 : Int), (t8, (t9, t10))))), (out, (z0.1, z0.2)))) fun z1 =>
 (.test (decide (0 ≤ z1.1.2.2.1))
 (.test (decide ((0 ≤ (Int.toNat z1.1.2.2.1)) ∧ ((Int.toNat z1.1.2.2.1) ≤ (List.length z1.2.1))))
 (.test (decide ((0 + ((Int.toNat z1.1.2.2.1) - 0)) ≤ (List.length z1.2.1)))
 (.test true
 (.test (decide ((2 * ((0 + (List.length (win z1.2.1 0 ((Int.toNat z1.1.2.2.1) - 0)))) * 17)) ≤ 140737488355328))
 (.test (decide (1 ≤ (List.length (List.set (List.replicate 1 ((0 : Int), (0 : Int))) 0 (z1.2.2.1, z1.2.2.2)))))
 (.test (decide ((0 + (0 + (List.length (win z1.2.1 0 ((Int.toNat z1.1.2.2.1) - 0))))) ≤ (List.length ((win (List.replicate 0 ((0 : Int), (0 : Int))) 0 0) ++ (win z1.2.1 0 ((Int.toNat z1.1.2.2.1) - 0))))))
 (.test (decide ((2 * (((0 + (List.length (win z1.2.1 0 ((Int.toNat z1.1.2.2.1) - 0)))) + (List.length (win (List.set (List.replicate 1 ((0 : Int), (0 : Int))) 0 (z1.2.2.1, z1.2.2.2)) 0 1))) * 17)) ≤ 140737488355328))
 (.test (decide (0 ≤ z1.1.2.2.1))
 (.test (decide (((Int.toNat z1.1.2.2.1) ≤ (List.length z1.2.1)) ∧ ((List.length z1.2.1) ≤ (List.length z1.2.1))))
 (.test (decide (((0 + (Int.toNat z1.1.2.2.1)) + ((List.length z1.2.1) - (Int.toNat z1.1.2.2.1))) ≤ (List.length z1.2.1)))
 (.test (decide ((0 + ((0 + (List.length (win z1.2.1 0 ((Int.toNat z1.1.2.2.1) - 0)))) + (List.length (win (List.set (List.replicate 1 ((0 : Int), (0 : Int))) 0 (z1.2.2.1, z1.2.2.2)) 0 1)))) ≤ (List.length ((win ((win (List.replicate 0 ((0 : Int), (0 : Int))) 0 0) ++ (win z1.2.1 0 ((Int.toNat z1.1.2.2.1) - 0))) 0 (0 + (List.length (win z1.2.1 0 ((Int.toNat z1.1.2.2.1) - 0))))) ++ (win (List.set (List.replicate 1 ((0 : Int), (0 : Int))) 0 (z1.2.2.1, z1.2.2.2)) 0 1)))))
 (.test (decide ((2 * ((((0 + (List.length (win z1.2.1 0 ((Int.toNat z1.1.2.2.1) - 0)))) + (List.length (win (List.set (List.replicate 1 ((0 : Int), (0 : Int))) 0 (z1.2.2.1, z1.2.2.2)) 0 1))) + (List.length (win z1.2.1 (0 + (Int.toNat z1.1.2.2.1)) ((List.length z1.2.1) - (Int.toNat z1.1.2.2.1))))) * 17)) ≤ 140737488355328))
 (.test (decide ((0 = 0) ∧ ((((0 + (List.length (win z1.2.1 0 ((Int.toNat z1.1.2.2.1) - 0)))) + (List.length (win (List.set (List.replicate 1 ((0 : Int), (0 : Int))) 0 (z1.2.2.1, z1.2.2.2)) 0 1))) + (List.length (win z1.2.1 (0 + (Int.toNat z1.1.2.2.1)) ((List.length z1.2.1) - (Int.toNat z1.1.2.2.1))))) = (List.length ((win ((win ((win (List.replicate 0 ((0 : Int), (0 : Int))) 0 0) ++ (win z1.2.1 0 ((Int.toNat z1.1.2.2.1) - 0))) 0 (0 + (List.length (win z1.2.1 0 ((Int.toNat z1.1.2.2.1) - 0))))) ++ (win (List.set (List.replicate 1 ((0 : Int), (0 : Int))) 0 (z1.2.2.1, z1.2.2.2)) 0 1)) 0 ((0 + (List.length (win z1.2.1 0 ((Int.toNat z1.1.2.2.1) - 0)))) + (List.length (win (List.set (List.replicate 1 ((0 : Int), (0 : Int))) 0 (z1.2.2.1, z1.2.2.2)) 0 1)))) ++ (win z1.2.1 (0 + (Int.toNat z1.1.2.2.1)) ((List.length z1.2.1) - (Int.toNat z1.1.2.2.1))))))))
 (.ret (Sum.inl (((), (z1.1.2.2.2.1, (z1.1.2.2.2.2.1, (w64 (z1.1.2.2.2.2.2 + 1))))), ((win ((win ((win (List.replicate 0 ((0 : Int), (0 : Int))) 0 0) ++ (win z1.2.1 0 ((Int.toNat z1.1.2.2.1) - 0))) 0 (0 + (List.length (win z1.2.1 0 ((Int.toNat z1.1.2.2.1) - 0))))) ++ (win (List.set (List.replicate 1 ((0 : Int), (0 : Int))) 0 (z1.2.2.1, z1.2.2.2)) 0 1)) 0 ((0 + (List.length (win z1.2.1 0 ((Int.toNat z1.1.2.2.1) - 0)))) + (List.length (win (List.set (List.replicate 1 ((0 : Int), (0 : Int))) 0 (z1.2.2.1, z1.2.2.2)) 0 1)))) ++ (win z1.2.1 (0 + (Int.toNat z1.1.2.2.1)) ((List.length z1.2.1) - (Int.toNat z1.1.2.2.1)))))))
 .fail)
 .fail)
 .fail)
 .fail)
 .fail)
 .fail)
 .fail)
 .fail)
 .fail)
 .fail)
 .fail)
 .fail)
 .fail)
 .fail))
 .fail))
 .fail)
 (.test (decide ((0 = 0) ∧ ((List.length out) = (List.length out))))
 (.ret (Sum.inr ((), out)))
 .fail))
noncomputable def F68_L3 (v : ((Unit × List ((Int × Int)) × Int × Int) × List ((Int × Int)))) : Option (Unit × List ((Int × Int))) := loopO (fun v => (F68_L3_step v).run) v

def F68_fo : List FO := [⟨[(.one (.rw 0 0))], [(.row 0 (.pair (.int .i64) (.int .i64)))]⟩]
noncomputable def F68_t : List ((Int × Int)) → T (Unit × List ((Int × Int))) := fun ds =>
 (.test true
 (.sub (F68_L3 (((), (ds, (((List.length ds) : Int), (0 : Int)))), ([] : List (Int × Int)))) fun z0 =>
 (.test (decide ((0 = 0) ∧ ((List.length z0.2) = (List.length z0.2))))
 (.ret ((), z0.2))
 .fail))
 .fail)
noncomputable def F68 (v : List ((Int × Int))) : Option (Unit × List ((Int × Int))) := (F68_t v).run
noncomputable def F68_E : TEnv := (E0.add1 n_F83 F83_sh F83_fo F83)
theorem F68_Eok : (F68_E).OK := (E0ok.add1 F83_ok)
noncomputable def F68_told : Nat → Option SealT := fun id => if id = 6 then some (LSh.told F68_L6_sh 0 (F68_L6_step)) else if id = 3 then some (LSh.told F68_L3_sh 0 (F68_L3_step)) else none
theorem F68_L6_ok : ToldOK Tryz.prog 0 (loopAt (bodyOf fn_F68) [0, 0]) (LSh.told F68_L6_sh 0 (F68_L6_step)) :=
  loop_ok (E := F68_E) (F68_Eok) (told := F68_told) (l := F68_L6_sh) (step := F68_L6_step) (loopsOK_of (ls := []) (by kernel_rfl) trivial) (by kernel_rfl) (fun v => by kernel_rfl)
theorem F68_L3_ok : ToldOK Tryz.prog 0 (loopAt (bodyOf fn_F68) [0]) (LSh.told F68_L3_sh 0 (F68_L3_step)) :=
  loop_ok (E := F68_E) (F68_Eok) (told := F68_told) (l := F68_L3_sh) (step := F68_L3_step) (loopsOK_of (ls := [loopAt (bodyOf fn_F68) [0, 0]]) (by kernel_rfl) ⟨.inr ⟨_, by kernel_rfl, F68_L6_ok⟩, trivial⟩) (by kernel_rfl) (fun v => by kernel_rfl)
theorem F68_ok : FOK Tryz.prog n_F68 F68_sh F68_fo F68 :=
  fn_ok (E := F68_E) (F68_Eok) (told := F68_told) (fl := []) (c := bodyOf fn_F68) (s := F68_sh) (l := F68_fo) (tree := F68_t) fnat_F68 (by kernel_rfl) (by kernel_rfl) (by kernel_rfl) (loopsOK_of (ls := [loopAt (bodyOf fn_F68) [0]]) (by kernel_rfl) ⟨.inr ⟨_, by kernel_rfl, F68_L3_ok⟩, trivial⟩) (fun v => by kernel_rfl)

theorem F68_place (d : Dg) (out : List Dg) (t8 : List Dg) (a b : Int) (hl : out.length < 1000000) :
    ∃ k : Nat, k ≤ out.length ∧ out.take k ++ d :: out.drop k = insD d out ∧ F68_L6 (((), ((), ((0 : Int), (t8, (a, b))))), (out, d)) = some (((), ((), ((k : Int), (t8, (a, b))))), (out, d)) := by
  obtain ⟨k, h1, h2, h3, h4, h5⟩ := take_while_idx d out
  refine ⟨k, h1, by unfold insD; rw [h2, h3], ?_⟩
  obtain ⟨d0, d1⟩ := d
  have key : ∀ n j, j + n = k → F68_L6 (((), ((), ((j : Int), (t8, (a, b))))), (out, (d0, d1))) = some (((), ((), ((k : Int), (t8, (a, b))))), (out, (d0, d1))) := by
    intro n
    induction n with
    | zero =>
      intro j hj
      have : j = k := by omega
      subst this
      simp only [F68_L6]
      refine loopO_done ?_
      by_cases hk : j < out.length
      · have c0 : (j : Int) < (out.length : Int) := by omega
        have c1 : (0 : Int) ≤ (j : Int) ∧ (j : Int) < (out.length : Int) := by omega
        simp only [F68_L6_step, T.run, c0, c1, decide_true, if_true, Int.toNat_natCast, Nat.zero_add, gD_some hk, Option.bind_some, F83_eq, h5 hk, and_self]
        simp
      · have c0 : ¬ ((j : Int) < (out.length : Int)) := by omega
        simp only [F68_L6_step, T.run, c0, decide_false]
        simp
    | succ n ih =>
      intro j hj
      have hk : j < out.length := by omega
      have ih := ih (j + 1) (by omega)
      simp only [F68_L6] at ih ⊢
      rw [← ih]
      refine loopO_next ?_
      have c0 : (j : Int) < (out.length : Int) := by omega
      have c1 : (0 : Int) ≤ (j : Int) ∧ (j : Int) < (out.length : Int) := by omega
      have w1 : w64 ((j : Int) + 1) = ((j + 1 : Nat) : Int) := by rw [w64_id (by omega) (by omega)]; omega
      simp only [F68_L6_step, T.run, c0, c1, decide_true, if_true, Int.toNat_natCast, Nat.zero_add, gD_some hk, Option.bind_some, F83_eq, h4 j (by omega), and_self, w1]
  simpa using key k 0 (by omega)
theorem insD_length (d : Dg) (l : List Dg) : (insD d l).length = l.length + 1 := by simpa using (insD_perm d l).length_eq
theorem F68_eq (l : List Dg) (hl : l.length < 100000) : F68 l = some ((), sortD l) := by
  have h := loop_fold (step := fun v => (F68_L3_step v).run) (xs := l) (fun k (s : List Dg) => s.length = k) (fun k s => (((), (l, ((l.length : Int), (k : Int)))), s)) (fun out d => insD d out) (fun s => ((), s))
    (fun k s d hk hd => by
      have hlt := getElem?_lt hd
      have c0 : (k : Int) < (l.length : Int) := by omega
      have c1 : (0 : Int) ≤ (k : Int) ∧ (k : Int) < (l.length : Int) := by omega
      have w1 : w64 ((k : Int) + 1) = ((k + 1 : Nat) : Int) := by rw [w64_id (by omega) (by omega)]; omega
      obtain ⟨m, m1, m2, m3⟩ := F68_place d s l (l.length : Int) (k : Int) (by omega)
      refine ⟨?_, by rw [insD_length, hk]⟩
      have t1 : win s 0 (m - 0) = s.take m := win_take _ _
      have t2 : win (s.take m) 0 m = s.take m := by rw [win_take, List.take_take, Nat.min_self]
      have t3 : win s m (s.length - m) = s.drop m := by unfold win; rw [List.take_of_length_le (by simp)]
      have l1 : (s.take m).length = m := by simp; omega
      have l2 : (s.drop m).length = s.length - m := by simp
      have t4 : win ([] : List Dg) 0 0 = [] := rfl
      have l3 : (s.take m ++ [d]).length = m + 1 := by simp; omega
      have t5 : win (s.take m ++ [d]) 0 (m + 1) = s.take m ++ [d] := by rw [← l3]; exact win_all _
      have e : s.take m ++ [d] ++ s.drop m = insD d s := by rw [← m2]; simp
      simp only [F68_L3_step, T.run, c0, c1, decide_true, if_true, Int.toNat_natCast, Option.bind_some, and_self, hd, m3, win_one, List.replicate_zero, t1, t4, List.nil_append, l1, Nat.zero_add, t2, t3, l2, List.length_cons, List.length_nil, t5, e]
      have n1 : (0 : Int) ≤ (m : Int) := by omega
      have n2 : m - 0 ≤ s.length := by omega
      have n3 : m ≤ s.length := m1
      have n4 : 2 * ((m + 1 + (s.length - m)) * 17) ≤ 140737488355328 := by omega
      have n5 : 2 * (m * 17) ≤ 140737488355328 := by omega
      have n6 : 2 * ((m + 1) * 17) ≤ 140737488355328 := by omega
      have n7 : m + (s.length - m) ≤ s.length := by omega
      have n8 : m + 1 + (s.length - m) = s.length + 1 := by omega
      simp [n1, n2, n3, n4, n5, n6, n7, n8, w1, insD_length, l1]
      omega)
    (fun s hs => by simp [F68_L3_step, T.run])
    [] rfl
  simp only [Int.natCast_zero] at h
  simp only [F68, F68_t, T.run, F68_L3, h.1, Option.bind_some]
  simp [sortD]


end Go.Proofs.W
