/- Plain mathematics: puzzles, continuants, matrices. -/
import Derived.Test.YtppalpflejcjeaaMx1
namespace Go.Proofs.W
open Go Go.Gm
set_option linter.unusedVariables false

/-! ### puzzles -/
def isPz (l : List Int) : Bool := inB 3 9 l.length && l.all (inB 0 (l.length - 2))
def gaps (l : List Int) : Int := (l.countP (· == 0) : Nat)
theorem gaps_fold (l : List Int) (c : Int) : l.foldl (fun c x => if x == 0 then c + 1 else c) c = c + gaps l := by
  induction l generalizing c with
  | nil => simp [gaps]
  | cons x t ih =>
    simp only [List.foldl_cons, ih, gaps, List.countP_cons]
    cases x == 0 <;> simp <;> omega

/-! ### continuants -/
/-- Two continuants, one behind the other. -/
def cf (sign : Int) (p : Int × Int) (a : Int) : Int × Int := (p.2, a * p.2 + sign * p.1)
def cont2 (sign : Int) (l : List Int) : Int × Int := l.foldl (cf sign) (0, 1)
def cont (sign : Int) (l : List Int) : Int := (cont2 sign l).2
def pw (k : Nat) : Int := 31 ^ k
theorem pw_succ (k : Nat) : pw (k + 1) = 31 * pw k := by unfold pw; rw [Int.pow_succ]; omega
theorem pw_pos (k : Nat) : 1 ≤ pw k := by
  induction k with
  | zero => simp [pw]
  | succ k ih => rw [pw_succ]; omega
theorem pw_le : ∀ {k : Nat}, k ≤ 10 → pw k ≤ 819628286980801 := by
  intro k hk
  have : ∀ j, j ≤ 10 → pw j ≤ 819628286980801 := by decide
  exact this k hk
def isTerms (l : List Int) : Bool := decide (l.length ≤ 10) && l.all (inB (-30) 30)
theorem isTerms_iff {l : List Int} : isTerms l = true ↔ l.length ≤ 10 ∧ ∀ x ∈ l, -30 ≤ x ∧ x ≤ 30 := by
  simp [isTerms, inB]
/-- How great two continuants get. -/
theorem isTerms_snoc {l m : List Int} (h : isTerms (l ++ m) = true) : isTerms l = true := by
  rw [isTerms_iff] at h ⊢
  rw [List.length_append] at h
  exact ⟨by omega, fun x hx => h.2 x (List.mem_append_left _ hx)⟩
def cfB (k : Nat) (p : Int × Int) : Prop := -pw k ≤ p.1 ∧ p.1 ≤ pw k ∧ -pw k ≤ p.2 ∧ p.2 ≤ pw k
theorem cfB_step {sign : Int} (hs : sign = 1 ∨ sign = -1) {k : Nat} {p : Int × Int} {a : Int} (h : cfB k p) (ha : -30 ≤ a ∧ a ≤ 30) : cfB (k + 1) (cf sign p a) ∧ -(30 * pw k) ≤ a * p.2 ∧ a * p.2 ≤ 30 * pw k := by
  obtain ⟨h1, h2, h3, h4⟩ := h
  have hp := pw_pos k
  have hm := mul_le ha.1 ha.2 h3 h4
  unfold cfB cf
  rw [pw_succ]
  rcases hs with rfl | rfl <;> simp only [] <;> omega

theorem cont2_snoc (sign : Int) (l : List Int) (a : Int) : cont2 sign (l ++ [a]) = cf sign (cont2 sign l) a := by simp [cont2]
theorem cont2_fst (sign : Int) (l : List Int) : (cont2 sign l).1 = if l = [] then 0 else cont sign l.dropLast := by
  rcases List.eq_nil_or_concat l with rfl | ⟨t, a, rfl⟩
  · simp [cont2]
  · rw [List.concat_eq_append, cont2_snoc]
    simp [cf, cont]

/-! ### matrices -/
abbrev M4 := Int × Int × Int × Int
def mul4 (m k : M4) : M4 := (m.1 * k.1 + m.2.1 * k.2.2.1, m.1 * k.2.1 + m.2.1 * k.2.2.2, m.2.2.1 * k.1 + m.2.2.2 * k.2.2.1, m.2.2.1 * k.2.1 + m.2.2.2 * k.2.2.2)
def one4 : M4 := (1, 0, 0, 1)
/-- The matrix of terms: by continuants. -/
def mOf (l : List Int) : M4 :=
  match l with
  | [] => one4
  | _ :: t => (cont (-1) l, -(cont2 (-1) l).1, cont (-1) t, -(cont2 (-1) t).1)
theorem mOf_snoc (l : List Int) (a : Int) : mOf (l ++ [a]) = mul4 (mOf l) (a, -1, 1, 0) := by
  cases l with
  | nil => simp [mOf, mul4, one4, cont, cont2, cf]
  | cons b t =>
    simp only [List.cons_append, mOf, cont]
    rw [show b :: (t ++ [a]) = (b :: t) ++ [a] from rfl, cont2_snoc, cont2_snoc]
    simp only [cf, mul4, Prod.mk.injEq]
    refine ⟨?_, ?_, ?_, ?_⟩ <;> simp [Int.mul_comm]
theorem cont2_B {sign : Int} (hs : sign = 1 ∨ sign = -1) (l : List Int) (h : ∀ x ∈ l, -30 ≤ x ∧ x ≤ 30) : cfB l.length (cont2 sign l) := by
  have key : ∀ n (l : List Int), l.length = n → (∀ x ∈ l, -30 ≤ x ∧ x ≤ 30) → cfB n (cont2 sign l) := by
    intro n
    induction n with
    | zero =>
      intro l hl _
      have : l = [] := List.eq_nil_of_length_eq_zero hl
      subst this
      simp [cont2, cfB, pw]
    | succ n ih =>
      intro l hl hb
      rcases List.eq_nil_or_concat l with rfl | ⟨t, a, rfl⟩
      · simp at hl
      · rw [List.concat_eq_append] at hl hb ⊢
        rw [cont2_snoc]
        exact (cfB_step hs (ih t (by simpa using hl) (fun x hx => hb x (by simp [hx]))) (hb a (by simp))).1
  exact key _ l rfl h
/-- All four numbers between two bounds. -/
def in4 (k : Int) (m : M4) : Prop := -k ≤ m.1 ∧ m.1 ≤ k ∧ -k ≤ m.2.1 ∧ m.2.1 ≤ k ∧ -k ≤ m.2.2.1 ∧ m.2.2.1 ≤ k ∧ -k ≤ m.2.2.2 ∧ m.2.2.2 ≤ k
theorem mOf_B (l : List Int) (h : ∀ x ∈ l, -30 ≤ x ∧ x ≤ 30) : in4 (pw l.length) (mOf l) := by
  cases l with
  | nil => simp [mOf, one4, pw, in4]
  | cons b t =>
    have h1 := cont2_B (sign := -1) (.inr rfl) (b :: t) h
    have h2 := cont2_B (sign := -1) (.inr rfl) t (fun x hx => h x (List.mem_cons_of_mem _ hx))
    have hp := pw_succ t.length
    have hp2 := pw_pos t.length
    simp only [List.length_cons] at h1 ⊢
    unfold cfB at h1 h2
    unfold in4
    simp only [mOf, cont]
    omega
/-- Four numbers that are none too great, with determinant 1. -/
def good4 (m : M4) : Bool := inB (-1000000000) 1000000000 m.1 && (inB (-1000000000) 1000000000 m.2.1 && (inB (-1000000000) 1000000000 m.2.2.1 && inB (-1000000000) 1000000000 m.2.2.2)) && decide (m.1 * m.2.2.2 - m.2.1 * m.2.2.1 = 1)
theorem det_w {a b c d : Int} (ha : -1000000000 ≤ a ∧ a ≤ 1000000000) (hb : -1000000000 ≤ b ∧ b ≤ 1000000000) (hc : -1000000000 ≤ c ∧ c ≤ 1000000000) (hd : -1000000000 ≤ d ∧ d ≤ 1000000000) : w64 (w64 (a * d) - w64 (b * c)) = a * d - b * c := by
  have h1 := mul_le ha.1 ha.2 hd.1 hd.2
  have h2 := mul_le hb.1 hb.2 hc.1 hc.2
  rw [w64_id (z := a * d) (by omega) (by omega), w64_id (z := b * c) (by omega) (by omega), w64_id (by omega) (by omega)]
theorem good4_iff {a b c d : Int} : good4 (a, b, c, d) = true ↔ (-1000000000 ≤ a ∧ a ≤ 1000000000) ∧ (-1000000000 ≤ b ∧ b ≤ 1000000000) ∧ (-1000000000 ≤ c ∧ c ≤ 1000000000) ∧ (-1000000000 ≤ d ∧ d ≤ 1000000000) ∧ a * d - b * c = 1 := by
  simp [good4, inB, and_assoc]

/-! ### words -/
def nn4 (m : M4) : Prop := (0 ≤ m.1 ∧ m.1 ≤ 1000000000) ∧ (0 ≤ m.2.1 ∧ m.2.1 ≤ 1000000000) ∧ (0 ≤ m.2.2.1 ∧ m.2.2.1 ≤ 1000000000) ∧ (0 ≤ m.2.2.2 ∧ m.2.2.2 ≤ 1000000000) ∧ m.1 * m.2.2.2 - m.2.1 * m.2.2.1 = 1
theorem one_of_mul {a d : Int} (ha : 0 ≤ a) (hd : 0 ≤ d) (h : a * d = 1) : a = 1 ∧ d = 1 := by
  have h1 := Int.natAbs_mul a d
  rw [h] at h1
  have h2 : a.natAbs * d.natAbs = 1 := h1.symm
  have h3 := Nat.eq_one_of_mul_eq_one_right h2
  have h4 := Nat.eq_one_of_mul_eq_one_left h2
  omega
theorem nn4_row {a b c d : Int} (h : nn4 (a, b, c, d)) (h1 : (a, b, c, d) ≠ (1, 0, 0, 1)) :
    (c ≤ a ∧ d ≤ b ∧ ¬ (a ≤ c ∧ b ≤ d) ∧ nn4 (a - c, b - d, c, d)) ∨ (a ≤ c ∧ b ≤ d ∧ ¬ (c ≤ a ∧ d ≤ b) ∧ nn4 (a, b, c - a, d - b)) := by
  obtain ⟨g1, g2, g3, g4, g5⟩ := h
  simp only at g1 g2 g3 g4 g5
  have m1 : (a - c) * d - (b - d) * c = 1 := by rw [Int.sub_mul, Int.sub_mul, Int.mul_comm d c]; omega
  have m2 : a * (d - b) - b * (c - a) = 1 := by rw [Int.mul_sub, Int.mul_sub, Int.mul_comm b a]; omega
  have noEq : ¬ (a = c ∧ b = d) := by
    rintro ⟨rfl, rfl⟩
    rw [Int.mul_comm b a] at g5
    omega
  by_cases hac : c ≤ a
  · by_cases hbd : d ≤ b
    · left
      exact ⟨hac, hbd, by omega, ⟨by simp only []; omega, by simp only []; omega, g3, g4, m1⟩⟩
    · by_cases hac2 : a = c
      · right
        exact ⟨by omega, by omega, by omega, ⟨g1, g2, by simp only []; omega, by simp only []; omega, m2⟩⟩
      · exfalso
        obtain ⟨p, rfl⟩ : ∃ p, a = c + 1 + p := ⟨a - c - 1, by omega⟩
        obtain ⟨q, rfl⟩ : ∃ q, d = b + 1 + q := ⟨d - b - 1, by omega⟩
        have t1 : 0 ≤ c * q := Int.mul_nonneg (by omega) (by omega)
        have t2 : 0 ≤ p * b := Int.mul_nonneg (by omega) (by omega)
        have t3 : 0 ≤ p * q := Int.mul_nonneg (by omega) (by omega)
        simp only [Int.mul_add, Int.add_mul, Int.mul_one, Int.one_mul] at g5
        rw [Int.mul_comm b c] at g5
        have : b = 0 ∧ c = 0 ∧ p = 0 ∧ q = 0 := by omega
        obtain ⟨rfl, rfl, rfl, rfl⟩ := this
        exact h1 rfl
  · by_cases hbd : b ≤ d
    · right
      exact ⟨by omega, hbd, by omega, ⟨g1, g2, by simp only []; omega, by simp only []; omega, m2⟩⟩
    · exfalso
      obtain ⟨p, rfl⟩ : ∃ p, c = a + 1 + p := ⟨c - a - 1, by omega⟩
      obtain ⟨q, rfl⟩ : ∃ q, b = d + 1 + q := ⟨b - d - 1, by omega⟩
      have t1 : 0 ≤ a * q := Int.mul_nonneg (by omega) (by omega)
      have t2 : 0 ≤ p * d := Int.mul_nonneg (by omega) (by omega)
      have t3 : 0 ≤ p * q := Int.mul_nonneg (by omega) (by omega)
      simp only [Int.mul_add, Int.add_mul, Int.mul_one, Int.one_mul] at g5
      rw [Int.mul_comm d a, Int.mul_comm d p, Int.mul_comm q a, Int.mul_comm q p] at g5
      omega
/-- The word of a matrix, of so many letters at most. -/
def wordF : Nat → M4 → List UInt8 → Option (List UInt8)
  | 0, m, out => if m = (1, 0, 0, 1) then some out else none
  | n + 1, m, out => if m = (1, 0, 0, 1) then some out
    else if m.2.2.1 ≤ m.1 ∧ m.2.2.2 ≤ m.2.1 then wordF n (m.1 - m.2.2.1, m.2.1 - m.2.2.2, m.2.2.1, m.2.2.2) (out ++ [114])
    else wordF n (m.1, m.2.1, m.2.2.1 - m.1, m.2.2.2 - m.2.1) (out ++ [108])
def toI (l : List UInt8) : List Int := l.map fun b => (b.toNat : Int)
theorem toI_back (l : List UInt8) : (toI l).map (fun z => UInt8.ofNat z.toNat) = l := by
  unfold toI
  rw [List.map_map]
  conv => rhs; rw [← List.map_id l]
  congr 1
  funext b
  simp
end Go.Proofs.W
