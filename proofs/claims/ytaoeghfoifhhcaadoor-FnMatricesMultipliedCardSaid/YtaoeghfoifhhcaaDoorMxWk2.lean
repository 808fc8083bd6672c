/- Functions of the program, walked, and what they compute. -/
import Derived.Test.YtaoeghfoifhhcaaDoorMxWk1
set_option linter.unusedVariables false
set_option linter.unusedSimpArgs false
set_option maxRecDepth 100000
set_option maxHeartbeats 4000000
namespace Go.Proofs.W
open Go Go.Gm Go.Proofs
open Go.RowKit Go.Shelf
def i_times_sh : FSh := ⟨[(.ag [(.si .i64), (.si .i64), (.si .i64), (.si .i64)]), (.ag [(.si .i64), (.si .i64), (.si .i64), (.si .i64)])], []⟩

def i_times_fo : List FO := [⟨[(.ag [(.si .i64), (.si .i64), (.si .i64), (.si .i64)])], []⟩]
noncomputable def i_times_t : ((Int × Int × Int × Int) × (Int × Int × Int × Int)) → T (Int × Int × Int × Int) := fun ((m_0, m_1, m_2, m_3), (k_0, k_1, k_2, k_3)) =>
  (.ret ((w64 ((w64 (m_0 * k_0)) + (w64 (m_1 * k_2)))), ((w64 ((w64 (m_0 * k_1)) + (w64 (m_1 * k_3)))), ((w64 ((w64 (m_2 * k_0)) + (w64 (m_3 * k_2)))), (w64 ((w64 (m_2 * k_1)) + (w64 (m_3 * k_3))))))))
noncomputable def i_times (v : ((Int × Int × Int × Int) × (Int × Int × Int × Int))) : Option (Int × Int × Int × Int) := (i_times_t v).run
noncomputable def i_times_E : TEnv := E0
theorem i_times_Eok : (i_times_E).OK := E0ok
noncomputable def i_times_told : Nat → Option SealT := fun id => none
theorem i_times_ok : FOK Tryd.prog n_i_times i_times_sh i_times_fo i_times :=
  fn_ok (E := i_times_E) (i_times_Eok) (told := i_times_told) (fl := []) (c := bodyOf fn_i_times) (s := i_times_sh) (l := i_times_fo) (tree := i_times_t) fnat_i_times (by kernel_rfl) (by kernel_rfl) (by kernel_rfl) (loopsOK_of (ls := []) (by kernel_rfl) trivial) (fun v => by kernel_rfl)

theorem i_times_eq (m k : M4) {A B : Int} (h : in4 A m) (h2 : in4 B k) (hAB : 2 * (A * B) ≤ 9223372036854775807) : i_times (m, k) = some (mul4 m k) := by
  obtain ⟨m0, m1, m2, m3⟩ := m
  obtain ⟨k0, k1, k2, k3⟩ := k
  simp only [in4] at h h2
  have a1 := mul_le (a := m0) (b := k0) (A := A) (B := B) (by omega) (by omega) (by omega) (by omega)
  have a2 := mul_le (a := m1) (b := k2) (A := A) (B := B) (by omega) (by omega) (by omega) (by omega)
  have a3 := mul_le (a := m0) (b := k1) (A := A) (B := B) (by omega) (by omega) (by omega) (by omega)
  have a4 := mul_le (a := m1) (b := k3) (A := A) (B := B) (by omega) (by omega) (by omega) (by omega)
  have a5 := mul_le (a := m2) (b := k0) (A := A) (B := B) (by omega) (by omega) (by omega) (by omega)
  have a6 := mul_le (a := m3) (b := k2) (A := A) (B := B) (by omega) (by omega) (by omega) (by omega)
  have a7 := mul_le (a := m2) (b := k1) (A := A) (B := B) (by omega) (by omega) (by omega) (by omega)
  have a8 := mul_le (a := m3) (b := k3) (A := A) (B := B) (by omega) (by omega) (by omega) (by omega)
  simp only [i_times, i_times_t, T.run]
  rw [w64_id (z := m0 * k0) (by omega) (by omega), w64_id (z := m1 * k2) (by omega) (by omega), w64_id (z := m0 * k1) (by omega) (by omega), w64_id (z := m1 * k3) (by omega) (by omega),
    w64_id (z := m2 * k0) (by omega) (by omega), w64_id (z := m3 * k2) (by omega) (by omega), w64_id (z := m2 * k1) (by omega) (by omega), w64_id (z := m3 * k3) (by omega) (by omega),
    w64_id (by omega) (by omega), w64_id (by omega) (by omega), w64_id (by omega) (by omega), w64_id (by omega) (by omega)]
  rfl


def i_checked_sh : FSh := ⟨[(.ag [(.si .i64), (.si .i64), (.si .i64), (.si .i64)])], []⟩

def i_checked_fo : List FO := [⟨[(.ag [(.si .i64), (.si .i64), (.si .i64), (.si .i64)]), (.one .sb)], []⟩]
noncomputable def i_checked_t : (Int × Int × Int × Int) → T ((Int × Int × Int × Int) × Bool) := fun (m_0, m_1, m_2, m_3) =>
  (.sub (i_IsMatrix (m_0, (m_1, (m_2, m_3)))) fun z0 =>
  (.test (! z0)
  (.ret (((0 : Int), ((0 : Int), ((0 : Int), (0 : Int)))), false))
  (.ret ((m_0, (m_1, (m_2, m_3))), true))))
noncomputable def i_checked (v : (Int × Int × Int × Int)) : Option ((Int × Int × Int × Int) × Bool) := (i_checked_t v).run
noncomputable def i_checked_E : TEnv := (E0.add1 n_i_IsMatrix i_IsMatrix_sh i_IsMatrix_fo i_IsMatrix)
theorem i_checked_Eok : (i_checked_E).OK := (E0ok.add1 i_IsMatrix_ok)
noncomputable def i_checked_told : Nat → Option SealT := fun id => none
theorem i_checked_ok : FOK Tryd.prog n_i_checked i_checked_sh i_checked_fo i_checked :=
  fn_ok (E := i_checked_E) (i_checked_Eok) (told := i_checked_told) (fl := []) (c := bodyOf fn_i_checked) (s := i_checked_sh) (l := i_checked_fo) (tree := i_checked_t) fnat_i_checked (by kernel_rfl) (by kernel_rfl) (by kernel_rfl) (loopsOK_of (ls := []) (by kernel_rfl) trivial) (fun v => by kernel_rfl)

theorem i_checked_eq (m : M4) : i_checked m = some (if good4 m then (m, true) else ((0, 0, 0, 0), false)) := by
  obtain ⟨a, b, c, d⟩ := m
  simp only [i_checked, i_checked_t, T.run, i_IsMatrix_eq, Option.bind_some]
  cases good4 (a, b, c, d) <;> simp


def i_TimesMatrix_sh : FSh := ⟨[(.ag [(.si .i64), (.si .i64), (.si .i64), (.si .i64)]), (.ag [(.si .i64), (.si .i64), (.si .i64), (.si .i64)])], []⟩

def i_TimesMatrix_fo : List FO := [⟨[(.ag [(.si .i64), (.si .i64), (.si .i64), (.si .i64)]), (.one .sb)], []⟩]
noncomputable def i_TimesMatrix_t : ((Int × Int × Int × Int) × (Int × Int × Int × Int)) → T ((Int × Int × Int × Int) × Bool) := fun ((m_0, m_1, m_2, m_3), (k_0, k_1, k_2, k_3)) =>
  (.sub (i_IsMatrix (m_0, (m_1, (m_2, m_3)))) fun z0 =>
  (.test (! z0)
  (.ret (((0 : Int), ((0 : Int), ((0 : Int), (0 : Int)))), false))
  (.sub (i_IsMatrix (k_0, (k_1, (k_2, k_3)))) fun z1 =>
   (.test (! z1)
   (.ret (((0 : Int), ((0 : Int), ((0 : Int), (0 : Int)))), false))
   (.sub (i_times ((m_0, (m_1, (m_2, m_3))), (k_0, (k_1, (k_2, k_3))))) fun z2 =>
    (.sub (i_checked (z2.1, (z2.2.1, (z2.2.2.1, z2.2.2.2)))) fun z3 =>
    (.ret ((z3.1.1, (z3.1.2.1, (z3.1.2.2.1, z3.1.2.2.2))), z3.2))))))))
noncomputable def i_TimesMatrix (v : ((Int × Int × Int × Int) × (Int × Int × Int × Int))) : Option ((Int × Int × Int × Int) × Bool) := (i_TimesMatrix_t v).run
noncomputable def i_TimesMatrix_E : TEnv := (((E0.add1 n_i_IsMatrix i_IsMatrix_sh i_IsMatrix_fo i_IsMatrix).add1 n_i_times i_times_sh i_times_fo i_times).add1 n_i_checked i_checked_sh i_checked_fo i_checked)
theorem i_TimesMatrix_Eok : (i_TimesMatrix_E).OK := (((E0ok.add1 i_IsMatrix_ok).add1 i_times_ok).add1 i_checked_ok)
noncomputable def i_TimesMatrix_told : Nat → Option SealT := fun id => none
theorem i_TimesMatrix_ok : FOK Tryd.prog n_i_TimesMatrix i_TimesMatrix_sh i_TimesMatrix_fo i_TimesMatrix :=
  fn_ok (E := i_TimesMatrix_E) (i_TimesMatrix_Eok) (told := i_TimesMatrix_told) (fl := []) (c := bodyOf fn_i_TimesMatrix) (s := i_TimesMatrix_sh) (l := i_TimesMatrix_fo) (tree := i_TimesMatrix_t) fnat_i_TimesMatrix (by kernel_rfl) (by kernel_rfl) (by kernel_rfl) (loopsOK_of (ls := []) (by kernel_rfl) trivial) (fun v => by kernel_rfl)

theorem i_TimesMatrix_eq (m k : M4) : i_TimesMatrix (m, k) = some (if good4 m && good4 k && good4 (mul4 m k) then (mul4 m k, true) else ((0, 0, 0, 0), false)) := by
  obtain ⟨m0, m1, m2, m3⟩ := m
  obtain ⟨k0, k1, k2, k3⟩ := k
  have e1 := i_IsMatrix_eq (m0, m1, m2, m3)
  have e2 := i_IsMatrix_eq (k0, k1, k2, k3)
  rw [i_TimesMatrix, i_TimesMatrix_t, T.run_sub, e1, Option.bind_some, T.run_test]
  cases h1 : good4 (m0, m1, m2, m3) with
  | false => rfl
  | true =>
    rw [if_neg (by simp), T.run_sub, e2, Option.bind_some, T.run_test]
    cases h2 : good4 (k0, k1, k2, k3) with
    | false => rfl
    | true =>
      have ht := i_times_eq (m0, m1, m2, m3) (k0, k1, k2, k3) (good4_in h1) (good4_in h2) (by omega)
      rw [if_neg (by simp), T.run_sub, ht, Option.bind_some, T.run_sub]
      generalize mul4 (m0, m1, m2, m3) (k0, k1, k2, k3) = W
      have hc := i_checked_eq W
      obtain ⟨a, b, c, d⟩ := W
      rw [hc, Option.bind_some, T.run_ret]
      cases good4 (a, b, c, d) <;> rfl


def s_TimesMatrix_sh : FSh := ⟨[(.ag [(.si .i64), (.si .i64), (.si .i64), (.si .i64)]), (.ag [(.si .i64), (.si .i64), (.si .i64), (.si .i64)])], []⟩

def s_TimesMatrix_fo : List FO := [⟨[(.ag [(.si .i64), (.si .i64), (.si .i64), (.si .i64)]), (.one .sb)], []⟩]
noncomputable def s_TimesMatrix_t : ((Int × Int × Int × Int) × (Int × Int × Int × Int)) → T ((Int × Int × Int × Int) × Bool) := fun ((m_0, m_1, m_2, m_3), (k_0, k_1, k_2, k_3)) =>
  (.sub (s_mxGood (m_0, (m_1, (m_2, m_3)))) fun z0 =>
  (.test (! z0)
  (.ret (((0 : Int), ((0 : Int), ((0 : Int), (0 : Int)))), false))
  (.sub (s_mxGood (k_0, (k_1, (k_2, k_3)))) fun z1 =>
   (.test (! z1)
   (.ret (((0 : Int), ((0 : Int), ((0 : Int), (0 : Int)))), false))
   (.sub (s_mxTimes ((m_0, (m_1, (m_2, m_3))), (k_0, (k_1, (k_2, k_3))))) fun z2 =>
    (.sub (s_mxIf (z2.1, (z2.2.1, (z2.2.2.1, z2.2.2.2)))) fun z3 =>
    (.ret ((z3.1.1, (z3.1.2.1, (z3.1.2.2.1, z3.1.2.2.2))), z3.2))))))))
noncomputable def s_TimesMatrix (v : ((Int × Int × Int × Int) × (Int × Int × Int × Int))) : Option ((Int × Int × Int × Int) × Bool) := (s_TimesMatrix_t v).run
noncomputable def s_TimesMatrix_E : TEnv := (((E0.add1 n_s_mxGood s_mxGood_sh s_mxGood_fo s_mxGood).add1 n_s_mxTimes s_mxTimes_sh s_mxTimes_fo s_mxTimes).add1 n_s_mxIf s_mxIf_sh s_mxIf_fo s_mxIf)
theorem s_TimesMatrix_Eok : (s_TimesMatrix_E).OK := (((E0ok.add1 s_mxGood_ok).add1 s_mxTimes_ok).add1 s_mxIf_ok)
noncomputable def s_TimesMatrix_told : Nat → Option SealT := fun id => none
theorem s_TimesMatrix_ok : FOK Tryd.prog n_s_TimesMatrix s_TimesMatrix_sh s_TimesMatrix_fo s_TimesMatrix :=
  fn_ok (E := s_TimesMatrix_E) (s_TimesMatrix_Eok) (told := s_TimesMatrix_told) (fl := []) (c := bodyOf fn_s_TimesMatrix) (s := s_TimesMatrix_sh) (l := s_TimesMatrix_fo) (tree := s_TimesMatrix_t) fnat_s_TimesMatrix (by kernel_rfl) (by kernel_rfl) (by kernel_rfl) (loopsOK_of (ls := []) (by kernel_rfl) trivial) (fun v => by kernel_rfl)

theorem s_TimesMatrix_eq (m k : M4) : s_TimesMatrix (m, k) = some (if good4 m && good4 k && good4 (mul4 m k) then (mul4 m k, true) else ((0, 0, 0, 0), false)) := by
  obtain ⟨m0, m1, m2, m3⟩ := m
  obtain ⟨k0, k1, k2, k3⟩ := k
  simp only [s_TimesMatrix, s_TimesMatrix_t, T.run, s_mxGood_eq, Option.bind_some]
  cases h1 : good4 (m0, m1, m2, m3) with
  | false => simp
  | true =>
    cases h2 : good4 (k0, k1, k2, k3) with
    | false => simp
    | true =>
      rw [s_mxTimes_eq _ _ (good4_in h1) (good4_in h2)]
      simp only [Option.bind_some, s_mxIf_eq]
      cases good4 (mul4 (m0, m1, m2, m3) (k0, k1, k2, k3)) <;> simp


def i_inverse_sh : FSh := ⟨[(.ag [(.si .i64), (.si .i64), (.si .i64), (.si .i64)])], []⟩

def i_inverse_fo : List FO := [⟨[(.ag [(.si .i64), (.si .i64), (.si .i64), (.si .i64)])], []⟩]
noncomputable def i_inverse_t : (Int × Int × Int × Int) → T (Int × Int × Int × Int) := fun (m_0, m_1, m_2, m_3) =>
  (.ret (m_3, ((w64 (0 - m_1)), ((w64 (0 - m_2)), m_0))))
noncomputable def i_inverse (v : (Int × Int × Int × Int)) : Option (Int × Int × Int × Int) := (i_inverse_t v).run
noncomputable def i_inverse_E : TEnv := E0
theorem i_inverse_Eok : (i_inverse_E).OK := E0ok
noncomputable def i_inverse_told : Nat → Option SealT := fun id => none
theorem i_inverse_ok : FOK Tryd.prog n_i_inverse i_inverse_sh i_inverse_fo i_inverse :=
  fn_ok (E := i_inverse_E) (i_inverse_Eok) (told := i_inverse_told) (fl := []) (c := bodyOf fn_i_inverse) (s := i_inverse_sh) (l := i_inverse_fo) (tree := i_inverse_t) fnat_i_inverse (by kernel_rfl) (by kernel_rfl) (by kernel_rfl) (loopsOK_of (ls := []) (by kernel_rfl) trivial) (fun v => by kernel_rfl)


theorem mul4_as (a b c : M4) : mul4 (mul4 a b) c = mul4 a (mul4 b c) := by
  obtain ⟨a1, a2, a3, a4⟩ := a
  obtain ⟨b1, b2, b3, b4⟩ := b
  obtain ⟨c1, c2, c3, c4⟩ := c
  simp only [mul4, Prod.mk.injEq]
  refine ⟨?_, ?_, ?_, ?_⟩ <;> grind
theorem mul4_1 (a : M4) : mul4 one4 a = a := by
  obtain ⟨a1, a2, a3, a4⟩ := a
  simp [mul4, one4]
theorem wordG_mul : ∀ (w : List UInt8) (m : M4), wordG m w = mul4 m (wordG one4 w)
  | [], m => by
    obtain ⟨a1, a2, a3, a4⟩ := m
    simp [wordG, mul4, one4]
  | c :: w, m => by
    show wordG (mul4 m (wL c)) w = mul4 m (wordG (mul4 one4 (wL c)) w)
    rw [wordG_mul w, wordG_mul w (mul4 one4 (wL c)), mul4_1, mul4_as]
theorem wordG_cons (c : UInt8) (w : List UInt8) : wordG one4 (c :: w) = mul4 (wL c) (wordG one4 w) := by
  show wordG (mul4 one4 (wL c)) w = _
  rw [wordG_mul, mul4_1]
theorem wordG_append (u w : List UInt8) : wordG one4 (u ++ w) = mul4 (wordG one4 u) (wordG one4 w) := by
  unfold wordG
  rw [List.foldl_append]
  exact wordG_mul w _
/-- Numbers that are not less than 0, and the determinant one. -/
def wn (m : M4) : Prop := 0 ≤ m.1 ∧ 0 ≤ m.2.1 ∧ 0 ≤ m.2.2.1 ∧ 0 ≤ m.2.2.2 ∧ m.1 * m.2.2.2 - m.2.1 * m.2.2.1 = 1
theorem wordG_wn : ∀ w : List UInt8, wn (wordG one4 w)
  | [] => by simp [wordG, one4, wn]
  | c :: w => by
    have h := wordG_wn w
    rw [wordG_cons]
    generalize wordG one4 w = m at *
    obtain ⟨a, b, d, e⟩ := m
    unfold wL
    simp only [wn] at h
    split
    · refine ⟨?_, ?_, ?_, ?_, ?_⟩ <;> simp only [mul4] <;> first | omega | grind
    · refine ⟨?_, ?_, ?_, ?_, ?_⟩ <;> simp only [mul4] <;> first | omega | grind
theorem wn_diag {m : M4} (h : wn m) : 1 ≤ m.1 ∧ 1 ≤ m.2.2.2 := by
  obtain ⟨a, b, c, d⟩ := m
  simp only [wn] at h ⊢
  obtain ⟨h1, h2, h3, h4, h5⟩ := h
  have h6 : 0 ≤ b * c := Int.mul_nonneg h2 h3
  constructor
  · rcases Int.lt_or_le 0 a with h | h
    · omega
    · have : a = 0 := by omega
      subst this; rw [Int.zero_mul] at h5; omega
  · rcases Int.lt_or_le 0 d with h | h
    · omega
    · have : d = 0 := by omega
      subst this; rw [Int.mul_zero] at h5; omega
theorem wn_le {a b : M4} (ha : wn a) (hb : wn b) : (a.1 ≤ (mul4 a b).1 ∧ a.2.1 ≤ (mul4 a b).2.1 ∧ a.2.2.1 ≤ (mul4 a b).2.2.1 ∧ a.2.2.2 ≤ (mul4 a b).2.2.2) ∧
    (b.1 ≤ (mul4 a b).1 ∧ b.2.1 ≤ (mul4 a b).2.1 ∧ b.2.2.1 ≤ (mul4 a b).2.2.1 ∧ b.2.2.2 ≤ (mul4 a b).2.2.2) := by
  have da := wn_diag ha
  have db := wn_diag hb
  obtain ⟨a1, a2, a3, a4⟩ := a
  obtain ⟨b1, b2, b3, b4⟩ := b
  simp only [wn] at ha hb
  simp only [mul4] at da db ⊢
  obtain ⟨h1, h2, h3, h4, _⟩ := ha
  obtain ⟨g1, g2, g3, g4, _⟩ := hb
  have k : ∀ x y : Int, 0 ≤ x → 1 ≤ y → x ≤ x * y := fun x y hx hy => by
    have := Int.mul_le_mul_of_nonneg_left hy hx
    rwa [Int.mul_one] at this
  have k' : ∀ x y : Int, 0 ≤ x → 1 ≤ y → x ≤ y * x := fun x y hx hy => by rw [Int.mul_comm]; exact k x y hx hy
  have p := fun (x y : Int) (hx : 0 ≤ x) (hy : 0 ≤ y) => Int.mul_nonneg hx hy
  have e1 := k a1 b1 h1 db.1; have e2 := k a2 b4 h2 db.2; have e3 := k a3 b1 h3 db.1; have e4 := k a4 b4 h4 db.2
  have f1 := k' b1 a1 g1 da.1; have f2 := k' b2 a1 g2 da.1; have f3 := k' b3 a4 g3 da.2; have f4 := k' b4 a4 g4 da.2
  have p1 := p a2 b3 h2 g3; have p2 := p a1 b2 h1 g2; have p3 := p a4 b3 h4 g3; have p4 := p a3 b2 h3 g2
  have p5 := p a2 b4 h2 g4; have p6 := p a3 b1 h3 g1
  refine ⟨⟨?_, ?_, ?_, ?_⟩, ?_, ?_, ?_, ?_⟩ <;> omega
theorem wn_good {a m : M4} (ha : wn a) (hm : good4 m = true) (h : a.1 ≤ m.1 ∧ a.2.1 ≤ m.2.1 ∧ a.2.2.1 ≤ m.2.2.1 ∧ a.2.2.2 ≤ m.2.2.2) : good4 a = true := by
  obtain ⟨a1, a2, a3, a4⟩ := a
  obtain ⟨m1, m2, m3, m4⟩ := m
  rw [good4_iff] at hm ⊢
  simp only [wn] at ha
  simp only at h
  omega
/-- The word of a word's matrix. -/
theorem wordF_word : ∀ (w : List UInt8) (n : Nat) (out : List UInt8), w.length ≤ n → isW w = true → wordF n (wordG one4 w) out = some (out ++ w)
  | [], n, out, _, _ => by cases n <;> simp [wordF, wordG, one4]
  | c :: w, 0, out, h, _ => by simp at h
  | c :: w, n + 1, out, h, hw => by
    have hw' : (c.toNat == 108 || c.toNat == 114) = true ∧ isW w = true := by
      unfold isW at hw
      rw [List.all_cons, Bool.and_eq_true] at hw
      exact hw
    have ih := fun out => wordF_word w n out (by simp only [List.length_cons] at h; omega) hw'.2
    have hn := wordG_wn w
    rw [wordG_cons]
    generalize wordG one4 w = m at *
    obtain ⟨a, b, d, e⟩ := m
    have hd := wn_diag hn
    simp only [wn] at hn
    simp only at hd
    rcases Bool.or_eq_true _ _ |>.mp hw'.1 with hc | hc
    · have hc := beq_iff_eq.1 hc
      have e1 : mul4 (wL c) (a, b, d, e) = (a, b, a + d, b + e) := by unfold wL; rw [if_pos hc]; simp [mul4]
      have hc8 : c = 108 := UInt8.toNat_inj.1 hc
      rw [e1, wordF, if_neg (by simp only [Prod.mk.injEq]; omega), if_neg (by simp only; omega), show a + d - a = d by omega, show b + e - b = e by omega, ih, hc8]
      simp
    · have hc := beq_iff_eq.1 hc
      have e1 : mul4 (wL c) (a, b, d, e) = (a + d, b + e, d, e) := by unfold wL; rw [if_neg (by omega)]; simp [mul4]
      have hc8 : c = 114 := UInt8.toNat_inj.1 hc
      rw [e1, wordF, if_neg (by simp only [Prod.mk.injEq]; omega), if_pos (by simp only; omega), show a + d - d = a by omega, show b + e - e = b by omega, ih, hc8]
      simp
theorem wordF_back : ∀ (n : Nat) (m : M4) (out o : List UInt8), wordF n m out = some o → ∃ w, o = out ++ w ∧ w.length ≤ n ∧ isW w = true ∧ m = wordG one4 w
  | 0, (a, b, c, d), out, o, h => by
    simp only [wordF] at h
    split at h
    · rename_i e
      refine ⟨[], by simpa using (Option.some.inj h).symm, by simp, rfl, e⟩
    · cases h
  | n + 1, (a, b, c, d), out, o, h => by
    simp only [wordF] at h
    split at h
    · rename_i e
      refine ⟨[], by simpa using (Option.some.inj h).symm, by simp, rfl, e⟩
    · split at h
      · obtain ⟨w, h1, h2, h3, h4⟩ := wordF_back n _ _ _ h
        refine ⟨114 :: w, by rw [h1]; simp, by simp; omega, ?_, ?_⟩
        · unfold isW at h3 ⊢; rw [List.all_cons, h3]; rfl
        · rw [wordG_cons, ← h4]
          have : wL 114 = (1, 1, 0, 1) := rfl
          rw [this]
          simp only [mul4, Prod.mk.injEq]
          refine ⟨?_, ?_, ?_, ?_⟩ <;> omega
      · obtain ⟨w, h1, h2, h3, h4⟩ := wordF_back n _ _ _ h
        refine ⟨108 :: w, by rw [h1]; simp, by simp; omega, ?_, ?_⟩
        · unfold isW at h3 ⊢; rw [List.all_cons, h3]; rfl
        · rw [wordG_cons, ← h4]
          have : wL 108 = (1, 0, 1, 1) := rfl
          rw [this]
          simp only [mul4, Prod.mk.injEq]
          refine ⟨?_, ?_, ?_, ?_⟩ <;> omega
/-- A fraction in its lowest terms. -/
def fracB (f : Int × Int) : Bool := inB 0 1000000 f.1 && (inB 0 1000000 f.2 && decide (Nat.gcd f.1.toNat f.2.toNat = 1))
def nrm (x y : Int) : Int × Int := if y < 0 ∨ y = 0 ∧ x < 0 then (-x, -y) else (x, y)
def lim (p : Int × Int) : Int × Int × Bool := if (-1000000000000000 ≤ p.1 ∧ p.1 ≤ 1000000000000000) ∧ p.2 ≤ 1000000000000000 then (p.1, p.2, true) else (0, 0, false)
def mvR (m : M4) (f : Int × Int) : Int × Int × Bool := if good4 m && fracB f then lim (nrm (m.1 * f.1 + m.2.1 * f.2) (m.2.2.1 * f.1 + m.2.2.2 * f.2)) else (0, 0, false)
def invM (m : M4) : M4 := (m.2.2.2, -m.2.1, -m.2.2.1, m.1)
theorem good4_inv {m : M4} (h : good4 m = true) : good4 (invM m) = true := by
  obtain ⟨a, b, c, d⟩ := m
  show good4 (d, -b, -c, a) = true
  rw [good4_iff] at h ⊢
  have : d * a - -b * -c = a * d - b * c := by grind
  omega
theorem fracB_iff {f : Int × Int} : fracB f = true ↔ (0 ≤ f.1 ∧ f.1 ≤ 1000000) ∧ (0 ≤ f.2 ∧ f.2 ≤ 1000000) ∧ Nat.gcd f.1.toNat f.2.toNat = 1 := by
  unfold fracB
  simp only [Bool.and_eq_true, inB_iff, decide_eq_true_eq]
theorem gcd_moved {a b c d p q x y : Int} (hdet : a * d - b * c = 1) (hp : 0 ≤ p) (hq : 0 ≤ q) (hg : Nat.gcd p.toNat q.toNat = 1) (hx : x = a * p + b * q) (hy : y = c * p + d * q) : Nat.gcd x.natAbs y.natAbs = 1 := by
  have e1 : p = d * x - b * y := by rw [hx, hy]; grind
  have e2 : q = a * y - c * x := by rw [hx, hy]; grind
  have h1 : ((Nat.gcd x.natAbs y.natAbs : Nat) : Int) ∣ x := Int.ofNat_dvd_left.2 (Nat.gcd_dvd_left _ _)
  have h2 : ((Nat.gcd x.natAbs y.natAbs : Nat) : Int) ∣ y := Int.ofNat_dvd_left.2 (Nat.gcd_dvd_right _ _)
  have h3 : ((Nat.gcd x.natAbs y.natAbs : Nat) : Int) ∣ p := by rw [e1]; exact Int.dvd_sub (Int.dvd_mul_of_dvd_right h1) (Int.dvd_mul_of_dvd_right h2)
  have h4 : ((Nat.gcd x.natAbs y.natAbs : Nat) : Int) ∣ q := by rw [e2]; exact Int.dvd_sub (Int.dvd_mul_of_dvd_right h2) (Int.dvd_mul_of_dvd_right h1)
  have h5 : Nat.gcd x.natAbs y.natAbs ∣ p.toNat := by have := Int.ofNat_dvd_left.1 h3; rwa [show p.natAbs = p.toNat by omega] at this
  have h6 : Nat.gcd x.natAbs y.natAbs ∣ q.toNat := by have := Int.ofNat_dvd_left.1 h4; rwa [show q.natAbs = q.toNat by omega] at this
  have := Nat.dvd_gcd h5 h6
  rw [hg] at this
  exact Nat.dvd_one.1 this
/-- A moved fraction is told, and moved back by the inverse. -/
theorem mv_back {m : M4} {f : Int × Int} {x y : Int} (h : mvR m f = (x, y, true)) : 0 ≤ y ∧ (y = 0 → x = 1) ∧ good4 m = true ∧ (0 ≤ x → x ≤ 1000000 → y ≤ 1000000 → fracB (x, y) = true ∧ mvR (invM m) (x, y) = (f.1, f.2, true)) := by
  obtain ⟨a, b, c, d⟩ := m
  obtain ⟨p, q⟩ := f
  unfold mvR at h
  split at h
  · rename_i hc
    rw [Bool.and_eq_true] at hc
    obtain ⟨hg, hf⟩ := hc
    have hg' := good4_inv hg
    have hdet := (good4_iff.1 hg).2.2.2.2
    have hF := fracB_iff.1 hf
    simp only at hF h
    obtain ⟨⟨p0, p1⟩, ⟨q0, q1⟩, hgc⟩ := hF
    unfold lim at h
    split at h
    · rename_i hl
      simp only [Prod.mk.injEq, and_true] at h
      obtain ⟨hx, hy⟩ := h
      have hgm := gcd_moved hdet p0 q0 hgc (x := a * p + b * q) (y := c * p + d * q) rfl rfl
      generalize hX : a * p + b * q = X at *
      generalize hY : c * p + d * q = Y at *
      have eP : d * X - b * Y = p := by rw [← hX, ← hY]; grind
      have eQ : a * Y - c * X = q := by rw [← hX, ← hY]; grind
      have hq0 : q = 0 → p = 1 := fun e => by subst e; simp at hgc; omega
      unfold nrm at hx hy
      by_cases hs : Y < 0 ∨ Y = 0 ∧ X < 0
      · rw [if_pos hs] at hx hy
        simp only at hx hy
        have hxy : Nat.gcd x.natAbs y.natAbs = 1 := by rw [← hx, ← hy, Int.natAbs_neg, Int.natAbs_neg]; exact hgm
        have hy0 : y = 0 → x = 1 := fun e => by rw [e] at hxy; simp at hxy; omega
        refine ⟨by omega, hy0, hg, fun x0 x1 y1 => ?_⟩
        have hfr : fracB (x, y) = true := by
          rw [fracB_iff]
          refine ⟨⟨x0, x1⟩, ⟨by omega, y1⟩, ?_⟩
          simp only
          rw [show x.toNat = x.natAbs by omega, show y.toNat = y.natAbs by omega]
          exact hxy
        refine ⟨hfr, ?_⟩
        unfold mvR
        rw [hg', hfr]
        simp only [Bool.and_self, if_true, invM]
        have i1 : d * x + -b * y = -p := by rw [← hx, ← hy, ← eP]; grind
        have i2 : -c * x + a * y = -q := by rw [← hx, ← hy, ← eQ]; grind
        rw [i1, i2]
        unfold nrm
        by_cases hq : q = 0
        · have := hq0 hq
          subst hq this
          rw [if_pos (by omega)]; rfl
        · rw [if_pos (by omega)]
          simp only [Int.neg_neg]
          unfold lim
          rw [if_pos (by simp only; omega)]
      · rw [if_neg hs] at hx hy
        simp only at hx hy
        have hxy : Nat.gcd x.natAbs y.natAbs = 1 := by rw [← hx, ← hy]; exact hgm
        have hy0 : y = 0 → x = 1 := fun e => by rw [e] at hxy; simp at hxy; omega
        refine ⟨by omega, hy0, hg, fun x0 x1 y1 => ?_⟩
        have hfr : fracB (x, y) = true := by
          rw [fracB_iff]
          refine ⟨⟨x0, x1⟩, ⟨by omega, y1⟩, ?_⟩
          simp only
          rw [show x.toNat = x.natAbs by omega, show y.toNat = y.natAbs by omega]
          exact hxy
        refine ⟨hfr, ?_⟩
        unfold mvR
        rw [hg', hfr]
        simp only [Bool.and_self, if_true, invM]
        have i1 : d * x + -b * y = p := by rw [← hx, ← hy, ← eP]; grind
        have i2 : -c * x + a * y = q := by rw [← hx, ← hy, ← eQ]; grind
        rw [i1, i2]
        unfold nrm
        rw [if_neg (by omega)]
        unfold lim
        rw [if_pos (by simp only; omega)]
    · simp only [Prod.mk.injEq] at h; exact absurd h.2.2 (by simp)
  · simp only [Prod.mk.injEq] at h; exact absurd h.2.2 (by simp)


def i_InverseMatrix_sh : FSh := ⟨[(.ag [(.si .i64), (.si .i64), (.si .i64), (.si .i64)])], []⟩

def i_InverseMatrix_fo : List FO := [⟨[(.ag [(.si .i64), (.si .i64), (.si .i64), (.si .i64)]), (.one .sb)], []⟩]
noncomputable def i_InverseMatrix_t : (Int × Int × Int × Int) → T ((Int × Int × Int × Int) × Bool) := fun (m_0, m_1, m_2, m_3) =>
  (.sub (i_IsMatrix (m_0, (m_1, (m_2, m_3)))) fun z0 =>
  (.test (! z0)
  (.ret (((0 : Int), ((0 : Int), ((0 : Int), (0 : Int)))), false))
  (.sub (i_inverse (m_0, (m_1, (m_2, m_3)))) fun z1 =>
   (.ret ((z1.1, (z1.2.1, (z1.2.2.1, z1.2.2.2))), true)))))
noncomputable def i_InverseMatrix (v : (Int × Int × Int × Int)) : Option ((Int × Int × Int × Int) × Bool) := (i_InverseMatrix_t v).run
noncomputable def i_InverseMatrix_E : TEnv := ((E0.add1 n_i_IsMatrix i_IsMatrix_sh i_IsMatrix_fo i_IsMatrix).add1 n_i_inverse i_inverse_sh i_inverse_fo i_inverse)
theorem i_InverseMatrix_Eok : (i_InverseMatrix_E).OK := ((E0ok.add1 i_IsMatrix_ok).add1 i_inverse_ok)
noncomputable def i_InverseMatrix_told : Nat → Option SealT := fun id => none
theorem i_InverseMatrix_ok : FOK Tryd.prog n_i_InverseMatrix i_InverseMatrix_sh i_InverseMatrix_fo i_InverseMatrix :=
  fn_ok (E := i_InverseMatrix_E) (i_InverseMatrix_Eok) (told := i_InverseMatrix_told) (fl := []) (c := bodyOf fn_i_InverseMatrix) (s := i_InverseMatrix_sh) (l := i_InverseMatrix_fo) (tree := i_InverseMatrix_t) fnat_i_InverseMatrix (by kernel_rfl) (by kernel_rfl) (by kernel_rfl) (loopsOK_of (ls := []) (by kernel_rfl) trivial) (fun v => by kernel_rfl)

theorem i_InverseMatrix_eq (m : M4) : i_InverseMatrix m = some (if good4 m then (invM m, true) else ((0, 0, 0, 0), false)) := by
  obtain ⟨a, b, c, d⟩ := m
  have e1 := i_IsMatrix_eq (a, b, c, d)
  rw [i_InverseMatrix, i_InverseMatrix_t, T.run_sub, e1, Option.bind_some, T.run_test]
  cases h1 : good4 (a, b, c, d) with
  | false => rfl
  | true =>
    have hi : i_inverse (a, b, c, d) = some (invM (a, b, c, d)) := by
      rw [good4_iff] at h1
      rw [i_inverse, i_inverse_t, T.run_ret, w64_id (z := 0 - b) (by omega) (by omega), w64_id (z := 0 - c) (by omega) (by omega), Int.zero_sub, Int.zero_sub]
      rfl
    rw [if_neg (by simp), T.run_sub, hi, Option.bind_some, T.run_ret]
    rfl


def i_TraceOf_sh : FSh := ⟨[(.ag [(.si .i64), (.si .i64), (.si .i64), (.si .i64)])], []⟩

def i_TraceOf_fo : List FO := [⟨[(.one (.si .i64)), (.one .sb)], []⟩]
noncomputable def i_TraceOf_t : (Int × Int × Int × Int) → T (Int × Bool) := fun (m_0, m_1, m_2, m_3) =>
  (.sub (i_IsMatrix (m_0, (m_1, (m_2, m_3)))) fun z0 =>
  (.test (! z0)
  (.ret ((0 : Int), false))
  (.ret ((w64 (m_0 + m_3)), true))))
noncomputable def i_TraceOf (v : (Int × Int × Int × Int)) : Option (Int × Bool) := (i_TraceOf_t v).run
noncomputable def i_TraceOf_E : TEnv := (E0.add1 n_i_IsMatrix i_IsMatrix_sh i_IsMatrix_fo i_IsMatrix)
theorem i_TraceOf_Eok : (i_TraceOf_E).OK := (E0ok.add1 i_IsMatrix_ok)
noncomputable def i_TraceOf_told : Nat → Option SealT := fun id => none
theorem i_TraceOf_ok : FOK Tryd.prog n_i_TraceOf i_TraceOf_sh i_TraceOf_fo i_TraceOf :=
  fn_ok (E := i_TraceOf_E) (i_TraceOf_Eok) (told := i_TraceOf_told) (fl := []) (c := bodyOf fn_i_TraceOf) (s := i_TraceOf_sh) (l := i_TraceOf_fo) (tree := i_TraceOf_t) fnat_i_TraceOf (by kernel_rfl) (by kernel_rfl) (by kernel_rfl) (loopsOK_of (ls := []) (by kernel_rfl) trivial) (fun v => by kernel_rfl)

theorem i_TraceOf_eq (m : M4) : i_TraceOf m = some (if good4 m then (m.1 + m.2.2.2, true) else (0, false)) := by
  obtain ⟨a, b, c, d⟩ := m
  simp only [i_TraceOf, i_TraceOf_t, T.run, i_IsMatrix_eq, Option.bind_some]
  cases h1 : good4 (a, b, c, d) with
  | false => simp
  | true =>
    rw [good4_iff] at h1
    rw [w64_id (z := a + d) (by omega) (by omega)]
    simp


def s_DrawPowerMatrix_sh : FSh := ⟨[(.one (.sl (.int .u8) false true))], []⟩

def s_DrawPowerMatrix_fo : List FO := [⟨[(.ag [(.si .i64), (.si .i64), (.si .i64), (.si .i64)]), (.one (.si .i64))], []⟩]
noncomputable def s_DrawPowerMatrix_t : List (Int) → T ((Int × Int × Int × Int) × Int) := fun code =>
  (.sub (s_l1Cur_matrix ((), (code, ((0 : Int), (0 : Int))))) fun z0 =>
  (.test true
  (.sub (s_l1Cur_among (((), (win (List.set (List.set (List.set (List.set (List.set (List.set (List.set (List.set (List.set (List.set (List.set (List.replicate 11 (0 : Int)) 0 (0 : Int)) 1 (1 : Int)) 2 (2 : Int)) 3 (3 : Int)) 4 (-1)) 5 (-2)) 6 (6 : Int)) 7 (20 : Int)) 8 (-20)) 9 (21 : Int)) 10 (-21)) 0 11)), (z0.2.1, (z0.2.2.1, z0.2.2.2)))) fun z1 =>
   (.ret ((z0.1.1, (z0.1.2.1, (z0.1.2.2.1, z0.1.2.2.2))), z1.1)))
  .fail))
noncomputable def s_DrawPowerMatrix (v : List (Int)) : Option ((Int × Int × Int × Int) × Int) := (s_DrawPowerMatrix_t v).run
noncomputable def s_DrawPowerMatrix_E : TEnv := ((E0.add1 n_s_l1Cur_matrix s_l1Cur_matrix_sh s_l1Cur_matrix_fo s_l1Cur_matrix).add1 n_s_l1Cur_among s_l1Cur_among_sh s_l1Cur_among_fo s_l1Cur_among)
theorem s_DrawPowerMatrix_Eok : (s_DrawPowerMatrix_E).OK := ((E0ok.add1 s_l1Cur_matrix_ok).add1 s_l1Cur_among_ok)
noncomputable def s_DrawPowerMatrix_told : Nat → Option SealT := fun id => none
theorem s_DrawPowerMatrix_ok : FOK Tryd.prog n_s_DrawPowerMatrix s_DrawPowerMatrix_sh s_DrawPowerMatrix_fo s_DrawPowerMatrix :=
  fn_ok (E := s_DrawPowerMatrix_E) (s_DrawPowerMatrix_Eok) (told := s_DrawPowerMatrix_told) (fl := []) (c := bodyOf fn_s_DrawPowerMatrix) (s := s_DrawPowerMatrix_sh) (l := s_DrawPowerMatrix_fo) (tree := s_DrawPowerMatrix_t) fnat_s_DrawPowerMatrix (by kernel_rfl) (by kernel_rfl) (by kernel_rfl) (loopsOK_of (ls := []) (by kernel_rfl) trivial) (fun v => by kernel_rfl)

def i_size_sh : FSh := ⟨[(.one (.si .i64))], []⟩

def i_size_fo : List FO := [⟨[(.one (.si .i64))], []⟩]
noncomputable def i_size_t : Int → T Int := fun n =>
  (.ret (if ((w64 (0 - n)) > n) then (w64 (0 - n)) else n))
noncomputable def i_size (v : Int) : Option Int := (i_size_t v).run
noncomputable def i_size_E : TEnv := E0
theorem i_size_Eok : (i_size_E).OK := E0ok
noncomputable def i_size_told : Nat → Option SealT := fun id => none
theorem i_size_ok : FOK Tryd.prog n_i_size i_size_sh i_size_fo i_size :=
  fn_ok (E := i_size_E) (i_size_Eok) (told := i_size_told) (fl := []) (c := bodyOf fn_i_size) (s := i_size_sh) (l := i_size_fo) (tree := i_size_t) fnat_i_size (by kernel_rfl) (by kernel_rfl) (by kernel_rfl) (loopsOK_of (ls := []) (by kernel_rfl) trivial) (fun v => by kernel_rfl)

theorem i_size_eq (n : Int) (h : -9000000000000000000 ≤ n ∧ n ≤ 9000000000000000000) : i_size n = some (if 0 - n > n then 0 - n else n) := by
  simp only [i_size, i_size_t, T.run]
  rw [w64_id (by omega) (by omega)]


def i_power_sh : FSh := ⟨[(.ag [(.si .i64), (.si .i64), (.si .i64), (.si .i64)]), (.one (.si .i64))], []⟩

def i_power_L3_sh : LSh := ⟨(fun ex => match ex with | .norm => [(2, none), (4, none), (6, none), (7, none), (8, none), (14, none), (15, none)] | .exit i => if i = 0 then [(2, none), (4, none), (6, none), (7, none)] else [] | .ret => [(4, none), (5, none)]), [(2, (.one (.pf 0 0 0))), (4, (.one (.pf 1 0 0))), (6, (.one (.si .i64))), (7, (.one (.si .i64))), (8, (.one (.si .i64))), (14, (.one (.si .i64))), (15, (.one (.si .i64)))], [(.rcd 0 [(.si .i64), (.si .i64), (.si .i64), (.si .i64)]), (.rcd 0 [(.si .i64), (.si .i64), (.si .i64), (.si .i64)])], [⟨.ret, [(4, (.one (.pf 0 0 0))), (5, (.one .sb))], [(.rcd 0 [(.si .i64), (.si .i64), (.si .i64), (.si .i64)])]⟩, ⟨(.exit 0), [(2, (.one (.pf 0 0 0))), (4, (.one (.pf 1 0 0))), (6, (.one (.si .i64))), (7, (.one (.si .i64)))], [(.rcd 0 [(.si .i64), (.si .i64), (.si .i64), (.si .i64)]), (.rcd 0 [(.si .i64), (.si .i64), (.si .i64), (.si .i64)])]⟩], [], []⟩
noncomputable def i_power_L3_step : ((Unit × Unit × Int × Int × Int × Int × Int) × ((Int × Int × Int × Int) × (Int × Int × Int × Int))) → T (((Unit × Unit × Int × Int × Int × Int × Int) × ((Int × Int × Int × Int) × (Int × Int × Int × Int))) ⊕ (((Unit × Bool) × (Int × Int × Int × Int)) ⊕ ((Unit × Unit × Int × Int) × ((Int × Int × Int × Int) × (Int × Int × Int × Int))))) := fun (((), (), before, last, trace, t14, t15), ((m_0, m_1, m_2, m_3), (t4_0, t4_1, t4_2, t4_3))) =>
  (.test (decide (t15 < t14))
  (.sub (i_size (w64 ((w64 (trace * last)) - before))) fun z0 =>
   (.test (decide (z0 > 2000000000))
   (.ret (Sum.inr (Sum.inl (((), false), ((0 : Int), ((0 : Int), ((0 : Int), (0 : Int))))))))
   (.ret (Sum.inl (((), ((), (last, ((w64 ((w64 (trace * last)) - before)), (trace, (t14, (w64 (t15 + 1)))))))), ((m_0, (m_1, (m_2, m_3))), (t4_0, (t4_1, (t4_2, t4_3)))))))))
  (.ret (Sum.inr (Sum.inr (((), ((), (before, last))), ((m_0, (m_1, (m_2, m_3))), (t4_0, (t4_1, (t4_2, t4_3)))))))))
noncomputable def i_power_L3 (v : ((Unit × Unit × Int × Int × Int × Int × Int) × ((Int × Int × Int × Int) × (Int × Int × Int × Int)))) : Option (((Unit × Bool) × (Int × Int × Int × Int)) ⊕ ((Unit × Unit × Int × Int) × ((Int × Int × Int × Int) × (Int × Int × Int × Int)))) := loopO (fun v => (i_power_L3_step v).run) v

def i_power_fo : List FO := [⟨[(.ag [(.si .i64), (.si .i64), (.si .i64), (.si .i64)]), (.one .sb)], []⟩]
noncomputable def i_power_t : ((Int × Int × Int × Int) × Int) → T ((Int × Int × Int × Int) × Bool) := fun ((m_0, m_1, m_2, m_3), k) =>
  (.sub (i_power_L3 (((), ((), ((-1), ((0 : Int), ((w64 (m_0 + m_3)), (k, (0 : Int))))))), ((m_0, (m_1, (m_2, m_3))), ((0 : Int), ((0 : Int), ((0 : Int), (0 : Int))))))) fun z0 =>
  (.test (Sum.isLeft z0)
  (.sub (Sum.getLeft? z0) fun z1 =>
   (.ret ((z1.2.1, (z1.2.2.1, (z1.2.2.2.1, z1.2.2.2.2))), z1.1.2)))
  (.sub (Sum.getRight? z0) fun z2 =>
   (.sub (i_checked ((w64 ((w64 (z2.1.2.2.2 * z2.2.1.1)) - z2.1.2.2.1)), ((w64 (z2.1.2.2.2 * z2.2.1.2.1)), ((w64 (z2.1.2.2.2 * z2.2.1.2.2.1)), (w64 ((w64 (z2.1.2.2.2 * z2.2.1.2.2.2)) - z2.1.2.2.1)))))) fun z3 =>
   (.ret ((z3.1.1, (z3.1.2.1, (z3.1.2.2.1, z3.1.2.2.2))), z3.2))))))
noncomputable def i_power (v : ((Int × Int × Int × Int) × Int)) : Option ((Int × Int × Int × Int) × Bool) := (i_power_t v).run
noncomputable def i_power_E : TEnv := ((E0.add1 n_i_size i_size_sh i_size_fo i_size).add1 n_i_checked i_checked_sh i_checked_fo i_checked)
theorem i_power_Eok : (i_power_E).OK := ((E0ok.add1 i_size_ok).add1 i_checked_ok)
noncomputable def i_power_told : Nat → Option SealT := fun id => if id = 3 then some (LSh.told i_power_L3_sh 0 (i_power_L3_step)) else none
theorem i_power_L3_ok : ToldOK Tryd.prog 0 (loopAt (bodyOf fn_i_power) [0]) (LSh.told i_power_L3_sh 0 (i_power_L3_step)) :=
  loop_ok (E := i_power_E) (i_power_Eok) (told := i_power_told) (l := i_power_L3_sh) (step := i_power_L3_step) (loopsOK_of (ls := []) (by kernel_rfl) trivial) (by kernel_rfl) (fun v => by kernel_rfl)
theorem i_power_ok : FOK Tryd.prog n_i_power i_power_sh i_power_fo i_power :=
  fn_ok (E := i_power_E) (i_power_Eok) (told := i_power_told) (fl := []) (c := bodyOf fn_i_power) (s := i_power_sh) (l := i_power_fo) (tree := i_power_t) fnat_i_power (by kernel_rfl) (by kernel_rfl) (by kernel_rfl) (loopsOK_of (ls := [loopAt (bodyOf fn_i_power) [0]]) (by kernel_rfl) ⟨.inr ⟨_, by kernel_rfl, i_power_L3_ok⟩, trivial⟩) (fun v => by kernel_rfl)

def uk (t : Int) : Nat → Int × Int
  | 0 => (-1, 0)
  | n + 1 => ((uk t n).2, t * (uk t n).2 - (uk t n).1)
def pOf (m : M4) (p : Int × Int) : M4 := (p.2 * m.1 - p.1, p.2 * m.2.1, p.2 * m.2.2.1, p.2 * m.2.2.2 - p.1)
def uB (t : Int) : Nat → Bool
  | 0 => true
  | n + 1 => uB t n && inB (-2000000000) 2000000000 (uk t (n + 1)).2
theorem uB_mono {t : Int} {i k : Nat} (h : i ≤ k) (hf : uB t k = true) : uB t i = true := by
  induction k with
  | zero => obtain rfl : i = 0 := by omega
            rfl
  | succ k ih =>
    simp only [uB, Bool.and_eq_true] at hf
    by_cases h1 : i = k + 1
    · subst h1; simp only [uB, Bool.and_eq_true]; exact hf
    · exact ih (by omega) hf.1
theorem uB_le {t : Int} {i : Nat} (hf : uB t i = true) : (-2000000000 ≤ (uk t i).1 ∧ (uk t i).1 ≤ 2000000000) ∧ (-2000000000 ≤ (uk t i).2 ∧ (uk t i).2 ≤ 2000000000) := by
  cases i with
  | zero => simp [uk]
  | succ i =>
    refine ⟨?_, ?_⟩
    · have := uB_mono (Nat.le_succ i) hf
      cases i with
      | zero => simp [uk]
      | succ i => simp only [uB, Bool.and_eq_true, inB_iff] at this; exact this.2
    · simp only [uB, Bool.and_eq_true, inB_iff] at hf; exact hf.2
theorem sz_test (z : Int) : decide ((if 0 - z > z then 0 - z else z) > 2000000000) = !inB (-2000000000) 2000000000 z := by
  by_cases hz : -2000000000 ≤ z ∧ z ≤ 2000000000
  · rw [inB_iff.2 hz]
    have : ¬ ((if 0 - z > z then 0 - z else z) > 2000000000) := by split <;> omega
    rw [decide_eq_false this]; rfl
  · have h2 : inB (-2000000000) 2000000000 z = false := by rw [Bool.eq_false_iff]; intro h; exact hz (inB_iff.1 h)
    have : ((if 0 - z > z then 0 - z else z) > 2000000000) := by split <;> omega
    rw [h2, decide_eq_true this]; rfl
theorem i_power_L3_eq (a b c d : Int) (k : Nat) (hk : k < 100) (t : Int) (ht : -2000000000 ≤ t ∧ t ≤ 2000000000) : ∀ (n i : Nat), i + n = k → uB t i = true →
    i_power_L3 (((), ((), ((uk t i).1, ((uk t i).2, (t, ((k : Int), (i : Int))))))), ((a, (b, (c, d))), (0, (0, (0, 0))))) =
    some (if uB t k then .inr (((), ((), ((uk t k).1, (uk t k).2))), ((a, (b, (c, d))), (0, (0, (0, 0))))) else .inl (((), false), (0, (0, (0, 0))))) := by
  intro n
  induction n with
  | zero =>
    intro i hi hu
    obtain rfl : i = k := by omega
    rw [if_pos hu]
    simp only [i_power_L3]
    exact loopO_done (by simp [i_power_L3_step, T.run])
  | succ n ih =>
    intro i hi hu
    have hb := uB_le hu
    have hm := mul_le (A := 2000000000) (B := 2000000000) ht.1 ht.2 hb.2.1 hb.2.2
    have hst : (i_power_L3_step (((), ((), ((uk t i).1, ((uk t i).2, (t, ((k : Int), (i : Int))))))), ((a, (b, (c, d))), (0, (0, (0, 0)))))).run =
        some (if inB (-2000000000) 2000000000 (uk t (i + 1)).2 then .inl (((), ((), ((uk t (i+1)).1, ((uk t (i+1)).2, (t, ((k : Int), ((i + 1 : Nat) : Int))))))), ((a, (b, (c, d))), (0, (0, (0, 0))))) else .inr (.inl (((), false), (0, (0, (0, 0)))))) := by
      simp only [i_power_L3_step, T.run]
      rw [w64_id (z := t * (uk t i).2) (by omega) (by omega), w64_id (z := t * (uk t i).2 - (uk t i).1) (by omega) (by omega), w64_id (z := (i : Int) + 1) (by omega) (by omega), i_size_eq _ (by omega)]
      have h1 : ((i : Int) < (k : Int)) := by omega
      have e : (uk t (i + 1)).2 = t * (uk t i).2 - (uk t i).1 := rfl
      have e1 : (uk t (i + 1)).1 = (uk t i).2 := rfl
      rw [e, e1]
      simp only [h1, decide_true, if_true, Option.bind_some]
      rw [sz_test]
      cases inB (-2000000000) 2000000000 (t * (uk t i).2 - (uk t i).1) <;> rfl
    simp only [i_power_L3] at ih ⊢
    cases hi1 : inB (-2000000000) 2000000000 (uk t (i + 1)).2 with
    | true =>
      rw [hi1, if_pos rfl] at hst
      rw [loopO_next hst]
      exact ih (i + 1) (by omega) (by simp [uB, hu, hi1])
    | false =>
      rw [hi1] at hst
      have hk1 : uB t k = false := by
        rw [Bool.eq_false_iff]; intro h
        have := uB_mono (show i + 1 ≤ k by omega) h
        simp [uB, hi1] at this
      rw [hk1]
      exact loopO_done hst
theorem i_power_eq (m : M4) (hm : in4 1000000000 m) (k : Nat) (hk : k < 100) : i_power (m, (k : Int)) =
    some (if uB (m.1 + m.2.2.2) k && good4 (pOf m (uk (m.1 + m.2.2.2) k)) then (pOf m (uk (m.1 + m.2.2.2) k), true) else ((0, 0, 0, 0), false)) := by
  obtain ⟨a, b, c, d⟩ := m
  simp only [in4] at hm
  simp only [i_power, i_power_t, T.run]
  rw [w64_id (z := a + d) (by omega) (by omega)]
  have h := i_power_L3_eq a b c d k hk (a + d) (by omega) k 0 (by omega) rfl
  simp only [show uk (a + d) 0 = (-1, 0) from rfl, show ((0 : Nat) : Int) = 0 from rfl] at h
  rw [h]
  cases hu : uB (a + d) k with
  | false => simp
  | true =>
    have hb := uB_le hu
    simp only [if_true, Option.bind_some, Sum.isLeft, Bool.false_eq_true, if_false, Sum.getRight?]
    have h1 := mul_le (A := 2000000000) (B := 1000000000) hb.2.1 hb.2.2 hm.1 hm.2.1
    have h2 := mul_le (A := 2000000000) (B := 1000000000) hb.2.1 hb.2.2 hm.2.2.1 hm.2.2.2.1
    have h3 := mul_le (A := 2000000000) (B := 1000000000) hb.2.1 hb.2.2 hm.2.2.2.2.1 hm.2.2.2.2.2.1
    have h4 := mul_le (A := 2000000000) (B := 1000000000) hb.2.1 hb.2.2 hm.2.2.2.2.2.2.1 hm.2.2.2.2.2.2.2
    have e : pOf (a, b, c, d) (uk (a + d) k) = ((uk (a + d) k).2 * a - (uk (a + d) k).1, (uk (a + d) k).2 * b, (uk (a + d) k).2 * c, (uk (a + d) k).2 * d - (uk (a + d) k).1) := rfl
    rw [e]
    rw [w64_id (z := (uk (a + d) k).2 * a) (by omega) (by omega), w64_id (z := (uk (a + d) k).2 * a - (uk (a + d) k).1) (by omega) (by omega), w64_id (z := (uk (a + d) k).2 * b) (by omega) (by omega), w64_id (z := (uk (a + d) k).2 * c) (by omega) (by omega), w64_id (z := (uk (a + d) k).2 * d) (by omega) (by omega), w64_id (z := (uk (a + d) k).2 * d - (uk (a + d) k).1) (by omega) (by omega)]
    simp only [i_checked_eq, Option.bind_some, Bool.true_and]
theorem eq4 (m k : M4) : ((m.1 == k.1) && ((m.2.1 == k.2.1) && ((m.2.2.1 == k.2.2.1) && ((m.2.2.2 == k.2.2.2) && true)))) = decide (m = k) := by
  obtain ⟨a, b, c, d⟩ := m
  obtain ⟨e, f, g, h⟩ := k
  rw [Bool.eq_iff_iff]
  simp



theorem abs_step {t x y : Int} (ht : 2 ≤ t.natAbs) (h : y.natAbs ≤ x.natAbs) : x.natAbs ≤ (t * x - y).natAbs := by
  have h1 : (t * x).natAbs = t.natAbs * x.natAbs := Int.natAbs_mul t x
  have h2 : 2 * x.natAbs ≤ t.natAbs * x.natAbs := Nat.mul_le_mul_right _ ht
  generalize t * x = z at *
  generalize t.natAbs * x.natAbs = w at *
  omega
theorem seq_mono {t : Int} (ht : 2 ≤ t.natAbs) (f : Nat → Int) (hf : ∀ j, f (j + 2) = t * f (j + 1) - f j) (h : (f 1).natAbs ≤ (f 2).natAbs) : ∀ i j, 1 ≤ i → i ≤ j → (f i).natAbs ≤ (f j).natAbs := by
  have step : ∀ j, (f (j + 1)).natAbs ≤ (f (j + 2)).natAbs := by
    intro j
    induction j with
    | zero => exact h
    | succ j ih => rw [hf (j + 1)]; exact abs_step ht ih
  intro i j hi hij
  obtain ⟨n, rfl⟩ : ∃ n, j = i + n := ⟨j - i, by omega⟩
  induction n with
  | zero => exact Nat.le_refl _
  | succ n ih =>
    refine Nat.le_trans (ih (by omega)) ?_
    obtain ⟨i', rfl⟩ : ∃ i', i = i' + 1 := ⟨i - 1, by omega⟩
    have := step (i' + n)
    rwa [show i' + n + 1 = i' + 1 + n by omega, show i' + n + 2 = i' + 1 + (n + 1) by omega] at this
theorem uk_fst (t : Int) (n : Nat) : (uk t (n + 1)).1 = (uk t n).2 := rfl
theorem uk_snd (t : Int) (n : Nat) : (uk t (n + 1)).2 = t * (uk t n).2 - (uk t n).1 := rfl
theorem uk_det (t : Int) : ∀ n, (uk t n).2 * (uk t n).2 - t * (uk t n).2 * (uk t n).1 + (uk t n).1 * (uk t n).1 = 1
  | 0 => by simp [uk]
  | n + 1 => by
    have ih := uk_det t n
    rw [uk_fst, uk_snd]
    generalize (uk t n).1 = v at *
    generalize (uk t n).2 = u at *
    grind
theorem pOf_det (m : M4) (hd : m.1 * m.2.2.2 - m.2.1 * m.2.2.1 = 1) (n : Nat) : (pOf m (uk (m.1 + m.2.2.2) n)).1 * (pOf m (uk (m.1 + m.2.2.2) n)).2.2.2 - (pOf m (uk (m.1 + m.2.2.2) n)).2.1 * (pOf m (uk (m.1 + m.2.2.2) n)).2.2.1 = 1 := by
  obtain ⟨a, b, c, d⟩ := m
  have h := uk_det (a + d) n
  simp only at hd h
  simp only [pOf]
  generalize (uk (a + d) n).1 = v at *
  generalize (uk (a + d) n).2 = u at *
  grind
theorem uB_iff (t : Int) (k : Nat) : uB t k = true ↔ ∀ j, j ≤ k → -2000000000 ≤ (uk t j).2 ∧ (uk t j).2 ≤ 2000000000 := by
  induction k with
  | zero =>
    constructor
    · intro _ j hj
      obtain rfl : j = 0 := by omega
      simp [uk]
    · intro _; rfl
  | succ k ih =>
    simp only [uB, Bool.and_eq_true, inB_iff, ih]
    constructor
    · rintro ⟨h1, h2⟩ j hj
      by_cases e : j = k + 1
      · subst e; exact h2
      · exact h1 j (by omega)
    · intro h
      exact ⟨fun j hj => h j (by omega), h (k + 1) (Nat.le_refl _)⟩
/-- All powers up to some are matrices. -/
def upG (m : M4) (k : Nat) : Prop := ∀ j, j ≤ k → good4 (pOf m (uk (m.1 + m.2.2.2) j)) = true
theorem small_t : ∀ j, j ≤ 20 → (uk 2 j).2 ≤ 2000000000 ∧ -2000000000 ≤ (uk 2 j).2 ∧ (uk (-2) j).2 ≤ 2000000000 ∧ -2000000000 ≤ (uk (-2) j).2 := by decide
theorem per_0 : ∀ j, j ≤ 20 → uk 0 j ∈ ([(-1, 0), (0, 1), (1, 0), (0, -1)] : List (Int × Int)) := by decide
theorem per_1 : ∀ j, j ≤ 20 → uk 1 j ∈ ([(-1, 0), (0, 1), (1, 1), (1, 0), (0, -1), (-1, -1)] : List (Int × Int)) := by decide
theorem per_m : ∀ j, j ≤ 20 → uk (-1) j ∈ ([(-1, 0), (0, 1), (1, -1)] : List (Int × Int)) := by decide
theorem abs_mul_le {x y u : Int} (h : x.natAbs ≤ y.natAbs) (hy : -1000000000 ≤ y * u ∧ y * u ≤ 1000000000) : -1000000000 ≤ x * u ∧ x * u ≤ 1000000000 := by
  have h1 : (x * u).natAbs = x.natAbs * u.natAbs := Int.natAbs_mul x u
  have h2 : (y * u).natAbs = y.natAbs * u.natAbs := Int.natAbs_mul y u
  have h3 : x.natAbs * u.natAbs ≤ y.natAbs * u.natAbs := Nat.mul_le_mul_right _ h
  generalize x * u = z at *
  generalize y * u = w at *
  omega
theorem upG_iff {m : M4} (hg : good4 m = true) {k : Nat} (hk : k ≤ 20) : upG m k ↔ (uB (m.1 + m.2.2.2) k = true ∧ good4 (pOf m (uk (m.1 + m.2.2.2) k)) = true) := by
  have hdet := fun hd n => pOf_det m hd n
  obtain ⟨a, b, c, d⟩ := m
  have hg' := good4_iff.1 hg
  obtain ⟨ha, hb, hc, hd, hdt⟩ := hg'
  have hdet := hdet hdt
  simp only at hdet
  unfold upG
  simp only
  constructor
  · intro h
    refine ⟨(uB_iff _ _).2 fun j hj => ?_, h k (Nat.le_refl _)⟩
    have hj' := h j hj
    simp only [pOf] at hj'
    rw [good4_iff] at hj'
    obtain ⟨_, h2, h3, _, _⟩ := hj'
    have key : ∀ u x : Int, x ≠ 0 → (-1000000000 ≤ u * x ∧ u * x ≤ 1000000000) → -2000000000 ≤ u ∧ u ≤ 2000000000 := by
      intro u x hx hu
      have h1 : (u * x).natAbs = u.natAbs * x.natAbs := Int.natAbs_mul u x
      have h2 : u.natAbs * 1 ≤ u.natAbs * x.natAbs := Nat.mul_le_mul_left _ (by omega)
      generalize u * x = z at *
      omega
    by_cases hb0 : b = 0
    · by_cases hc0 : c = 0
      · subst hb0 hc0
        have had : a * d = 1 := by omega
        have : (a = 1 ∧ d = 1) ∨ (a = -1 ∧ d = -1) := by
          have h1 : a.natAbs * d.natAbs = 1 := by rw [← Int.natAbs_mul, had]; rfl
          have h2 := Nat.eq_one_of_mul_eq_one_right h1
          have h3 := Nat.eq_one_of_mul_eq_one_left h1
          have : a = 1 ∨ a = -1 := by omega
          have : d = 1 ∨ d = -1 := by omega
          rcases ‹a = 1 ∨ a = -1› with rfl | rfl <;> rcases ‹d = 1 ∨ d = -1› with rfl | rfl <;> simp at had ⊢
        have hs := small_t j (by omega)
        rcases this with ⟨rfl, rfl⟩ | ⟨rfl, rfl⟩
        · rw [show (1 : Int) + 1 = 2 from rfl]; omega
        · rw [show (-1 : Int) + -1 = -2 from rfl]; omega
      · exact key _ c hc0 h3
    · exact key _ b hb0 h2
  · rintro ⟨hu, hgk⟩ j hj
    by_cases hj0 : j = 0
    · subst hj0; simp [uk, pOf, good4, inB]
    have hgood : ∀ p : Int × Int, uk (a + d) j = p → (-1000000000 ≤ p.2 * a - p.1 ∧ p.2 * a - p.1 ≤ 1000000000) → (-1000000000 ≤ p.2 * b ∧ p.2 * b ≤ 1000000000) → (-1000000000 ≤ p.2 * c ∧ p.2 * c ≤ 1000000000) → (-1000000000 ≤ p.2 * d - p.1 ∧ p.2 * d - p.1 ≤ 1000000000) → good4 (pOf (a, b, c, d) (uk (a + d) j)) = true := by
      intro p hp h1 h2 h3 h4
      have hdj := hdet j
      rw [hp] at hdj ⊢
      simp only [pOf] at hdj ⊢
      rw [good4_iff]
      exact ⟨h1, h2, h3, h4, hdj⟩
    by_cases ht : 2 ≤ (a + d).natAbs
    · have m1 := seq_mono ht (fun n => (uk (a + d) n).2) (fun n => rfl) (by simp [uk]; omega) j k (by omega) hj
      have hA : ∀ (x : Int), (uk (a + d) 1).2 * x - (uk (a + d) 1).1 = x := fun x => by simp [uk]
      have mx : ∀ x : Int, ((uk (a + d) j).2 * x - (uk (a + d) j).1).natAbs ≤ ((uk (a + d) k).2 * x - (uk (a + d) k).1).natAbs := by
        intro x
        refine seq_mono ht (fun n => (uk (a + d) n).2 * x - (uk (a + d) n).1) (fun n => ?_) ?_ j k (by omega) hj
        · simp only [uk]
          generalize (uk (a + d) n).1 = v
          generalize (uk (a + d) n).2 = u
          grind
        · have e1 : (uk (a + d) 1).2 * x - (uk (a + d) 1).1 = x := hA x
          have e2 : (uk (a + d) 2).2 * x - (uk (a + d) 2).1 = (a + d) * x - 1 := by simp [uk]
          simp only [e1, e2]
          by_cases hx : x = 0
          · subst hx; simp
          · exact abs_step ht (by omega)
      simp only [pOf] at hgk
      rw [good4_iff] at hgk
      obtain ⟨g1, g2, g3, g4, _⟩ := hgk
      have ma := mx a
      have md := mx d
      exact hgood _ rfl (by omega) (abs_mul_le m1 g2) (abs_mul_le m1 g3) (by omega)
    · have : a + d = 0 ∨ a + d = 1 ∨ a + d = -1 := by omega
      rcases this with e | e | e
      · have hp := per_0 j (by omega)
        simp only [List.mem_cons, List.not_mem_nil, or_false] at hp
        rcases hp with hp | hp | hp | hp <;> exact hgood _ ((congrArg (fun z => uk z j) e).trans hp) (by simp only; omega) (by simp only; omega) (by simp only; omega) (by simp only; omega)
      · have hp := per_1 j (by omega)
        simp only [List.mem_cons, List.not_mem_nil, or_false] at hp
        rcases hp with hp | hp | hp | hp | hp | hp <;> exact hgood _ ((congrArg (fun z => uk z j) e).trans hp) (by simp only; omega) (by simp only; omega) (by simp only; omega) (by simp only; omega)
      · have hp := per_m j (by omega)
        simp only [List.mem_cons, List.not_mem_nil, or_false] at hp
        rcases hp with hp | hp | hp <;> exact hgood _ ((congrArg (fun z => uk z j) e).trans hp) (by simp only; omega) (by simp only; omega) (by simp only; omega) (by simp only; omega)


def s_mxInverse_sh : FSh := ⟨[(.ag [(.si .i64), (.si .i64), (.si .i64), (.si .i64)])], []⟩

def s_mxInverse_fo : List FO := [⟨[(.ag [(.si .i64), (.si .i64), (.si .i64), (.si .i64)])], []⟩]
noncomputable def s_mxInverse_t : (Int × Int × Int × Int) → T (Int × Int × Int × Int) := fun (m_0, m_1, m_2, m_3) =>
  (.ret (m_3, ((w64 (0 - m_1)), ((w64 (0 - m_2)), m_0))))
noncomputable def s_mxInverse (v : (Int × Int × Int × Int)) : Option (Int × Int × Int × Int) := (s_mxInverse_t v).run
noncomputable def s_mxInverse_E : TEnv := E0
theorem s_mxInverse_Eok : (s_mxInverse_E).OK := E0ok
noncomputable def s_mxInverse_told : Nat → Option SealT := fun id => none
theorem s_mxInverse_ok : FOK Tryd.prog n_s_mxInverse s_mxInverse_sh s_mxInverse_fo s_mxInverse :=
  fn_ok (E := s_mxInverse_E) (s_mxInverse_Eok) (told := s_mxInverse_told) (fl := []) (c := bodyOf fn_s_mxInverse) (s := s_mxInverse_sh) (l := s_mxInverse_fo) (tree := s_mxInverse_t) fnat_s_mxInverse (by kernel_rfl) (by kernel_rfl) (by kernel_rfl) (loopsOK_of (ls := []) (by kernel_rfl) trivial) (fun v => by kernel_rfl)


theorem i_inverse_good {m : M4} (h : good4 m = true) : i_inverse m = some (invM m) := by
  obtain ⟨a, b, c, d⟩ := m
  rw [good4_iff] at h
  rw [i_inverse, i_inverse_t, T.run_ret, w64_id (z := 0 - b) (by omega) (by omega), w64_id (z := 0 - c) (by omega) (by omega), Int.zero_sub, Int.zero_sub]
  rfl
theorem s_mxInverse_good {m : M4} (h : good4 m = true) : s_mxInverse m = some (invM m) := by
  obtain ⟨a, b, c, d⟩ := m
  rw [good4_iff] at h
  rw [s_mxInverse, s_mxInverse_t, T.run_ret, w64_id (z := 0 - b) (by omega) (by omega), w64_id (z := 0 - c) (by omega) (by omega), Int.zero_sub, Int.zero_sub]
  rfl
def negM (m : M4) : M4 := (-m.1, -m.2.1, -m.2.2.1, -m.2.2.2)
def fsg (t : Int) : Int := if -2 < t ∧ t < 2 then -1 else if t = 2 ∨ t = -2 then 0 else 1
def zM : M4 × Bool := ((0, 0, 0, 0), false)
def powK (q : M4) (k : Nat) : M4 × Bool := if uB (q.1 + q.2.2.2) k && good4 (pOf q (uk (q.1 + q.2.2.2) k)) then (pOf q (uk (q.1 + q.2.2.2) k), true) else zM
def powR (m : M4) (n : Int) : M4 × Bool := if good4 m && inB (-20) 20 n then powK (if n < 0 then invM m else m) n.natAbs else zM
def powS (m : M4) (K : Nat) : Nat → M4 × Bool
  | 0 => (pOf m (uk (m.1 + m.2.2.2) K), true)
  | n + 1 => if good4 (pOf m (uk (m.1 + m.2.2.2) (K - n))) then powS m K n else zM
theorem powS_yes (m : M4) (K : Nat) : ∀ n, n ≤ K → (∀ j, K - n < j → j ≤ K → good4 (pOf m (uk (m.1 + m.2.2.2) j)) = true) → powS m K n = (pOf m (uk (m.1 + m.2.2.2) K), true)
  | 0, _, _ => rfl
  | n + 1, hn, h => by
    rw [powS, h (K - n) (by omega) (by omega), if_pos rfl]
    exact powS_yes m K n (by omega) fun j h1 h2 => h j (by omega) h2
theorem powS_no (m : M4) (K : Nat) : ∀ n, n ≤ K → (¬ ∀ j, K - n < j → j ≤ K → good4 (pOf m (uk (m.1 + m.2.2.2) j)) = true) → powS m K n = zM
  | 0, _, h => absurd (fun j h1 h2 => by omega) h
  | n + 1, hn, h => by
    rw [powS]
    cases hg : good4 (pOf m (uk (m.1 + m.2.2.2) (K - n))) with
    | false => rfl
    | true =>
      rw [if_pos rfl]
      refine powS_no m K n (by omega) fun f => h fun j h1 h2 => ?_
      by_cases e : j = K - n
      · rw [e]; exact hg
      · exact f j (by omega) h2
theorem pOf_zero (m : M4) : pOf m (uk (m.1 + m.2.2.2) 0) = one4 := by
  obtain ⟨a, b, c, d⟩ := m
  simp [pOf, uk, one4]
theorem powS_all {m : M4} (hg : good4 m = true) {K : Nat} (hK : K ≤ 20) : powS m K K = powK m K := by
  have hu := upG_iff hg hK
  have h0 : good4 (pOf m (uk (m.1 + m.2.2.2) 0)) = true := by rw [pOf_zero]; rfl
  unfold powK
  by_cases h : upG m K
  · have h2 := hu.1 h
    rw [h2.1, h2.2, powS_yes m K K (by omega) fun j _ h1 => h j h1]
    rfl
  · rw [powS_no m K K (by omega) fun f => h fun j hj => by
      by_cases e : j = 0
      · rw [e]; exact h0
      · exact f j (by omega) hj]
    rw [if_neg]
    intro f
    rw [Bool.and_eq_true] at f
    exact h (hu.2 f)


def i_PowerMatrix_sh : FSh := ⟨[(.ag [(.si .i64), (.si .i64), (.si .i64), (.si .i64)]), (.one (.si .i64))], []⟩

def i_PowerMatrix_fo : List FO := [⟨[(.ag [(.si .i64), (.si .i64), (.si .i64), (.si .i64)]), (.one .sb)], []⟩]
noncomputable def i_PowerMatrix_t : ((Int × Int × Int × Int) × Int) → T ((Int × Int × Int × Int) × Bool) := fun ((m_0, m_1, m_2, m_3), k) =>
  (.sub (i_IsMatrix (m_0, (m_1, (m_2, m_3)))) fun z0 =>
  (.test (! z0)
  (.ret (((0 : Int), ((0 : Int), ((0 : Int), (0 : Int)))), false))
  (.sub (i_within (k, ((-20), (20 : Int)))) fun z1 =>
   (.test (! z1)
   (.ret (((0 : Int), ((0 : Int), ((0 : Int), (0 : Int)))), false))
   (.test (decide (k < 0))
    (.sub (i_inverse (m_0, (m_1, (m_2, m_3)))) fun z2 =>
     (.sub (i_power ((z2.1, (z2.2.1, (z2.2.2.1, z2.2.2.2))), (w64 (0 - k)))) fun z3 =>
     (.ret ((z3.1.1, (z3.1.2.1, (z3.1.2.2.1, z3.1.2.2.2))), z3.2))))
    (.sub (i_power ((m_0, (m_1, (m_2, m_3))), k)) fun z4 =>
     (.ret ((z4.1.1, (z4.1.2.1, (z4.1.2.2.1, z4.1.2.2.2))), z4.2))))))))
noncomputable def i_PowerMatrix (v : ((Int × Int × Int × Int) × Int)) : Option ((Int × Int × Int × Int) × Bool) := (i_PowerMatrix_t v).run
noncomputable def i_PowerMatrix_E : TEnv := ((((E0.add1 n_i_IsMatrix i_IsMatrix_sh i_IsMatrix_fo i_IsMatrix).add1 n_i_within i_within_sh i_within_fo i_within).add1 n_i_inverse i_inverse_sh i_inverse_fo i_inverse).add1 n_i_power i_power_sh i_power_fo i_power)
theorem i_PowerMatrix_Eok : (i_PowerMatrix_E).OK := ((((E0ok.add1 i_IsMatrix_ok).add1 i_within_ok).add1 i_inverse_ok).add1 i_power_ok)
noncomputable def i_PowerMatrix_told : Nat → Option SealT := fun id => none
theorem i_PowerMatrix_ok : FOK Tryd.prog n_i_PowerMatrix i_PowerMatrix_sh i_PowerMatrix_fo i_PowerMatrix :=
  fn_ok (E := i_PowerMatrix_E) (i_PowerMatrix_Eok) (told := i_PowerMatrix_told) (fl := []) (c := bodyOf fn_i_PowerMatrix) (s := i_PowerMatrix_sh) (l := i_PowerMatrix_fo) (tree := i_PowerMatrix_t) fnat_i_PowerMatrix (by kernel_rfl) (by kernel_rfl) (by kernel_rfl) (loopsOK_of (ls := []) (by kernel_rfl) trivial) (fun v => by kernel_rfl)

theorem i_PowerMatrix_eq (m : M4) (n : Int) : i_PowerMatrix (m, n) = some (powR m n) := by
  obtain ⟨a, b, c, d⟩ := m
  simp only [i_PowerMatrix, i_PowerMatrix_t, T.run, i_IsMatrix_eq, i_within_eq, Option.bind_some, powR]
  cases h1 : good4 (a, b, c, d) with
  | false => simp [zM]
  | true =>
    cases h2 : inB (-20) 20 n with
    | false => simp [zM]
    | true =>
      rw [inB_iff] at h2
      simp only [Bool.not_true, Bool.false_eq_true, if_false, Bool.and_true, if_true, decide_eq_true_eq]
      by_cases hn : n < 0
      · rw [if_pos hn, if_pos hn, i_inverse_good h1]
        have e : w64 (0 - n) = ((n.natAbs : Nat) : Int) := by rw [w64_id (by omega) (by omega)]; omega
        rw [Option.bind_some, e]
        have := i_power_eq (invM (a, b, c, d)) (good4_in (good4_inv h1)) n.natAbs (by omega)
        rw [this]
        rfl
      · rw [if_neg hn, if_neg hn]
        have e : n = ((n.natAbs : Nat) : Int) := by omega
        have := i_power_eq (a, b, c, d) (good4_in h1) n.natAbs (by omega)
        rw [← e] at this
        rw [this]
        rfl


def s_OrderOf_sh : FSh := ⟨[(.ag [(.si .i64), (.si .i64), (.si .i64), (.si .i64)])], []⟩

def s_OrderOf_L5_sh : LSh := ⟨(fun ex => match ex with | .norm => [(1, none), (4, none), (5, none)] | .exit i => if i = 0 then [] else [] | .ret => [(2, none), (3, none)]), [(1, (.one (.pf 0 0 0))), (4, (.one (.pf 1 0 0))), (5, (.one (.si .i64)))], [(.rcd 0 [(.si .i64), (.si .i64), (.si .i64), (.si .i64)]), (.rcd 0 [(.si .i64), (.si .i64), (.si .i64), (.si .i64)])], [⟨.ret, [(2, (.one (.si .i64))), (3, (.one .sb))], []⟩, ⟨(.exit 0), [], []⟩], [], []⟩
noncomputable def s_OrderOf_L5_step : ((Unit × Unit × Int) × ((Int × Int × Int × Int) × (Int × Int × Int × Int))) → T (((Unit × Unit × Int) × ((Int × Int × Int × Int) × (Int × Int × Int × Int))) ⊕ ((Int × Bool) ⊕ Unit)) := fun (((), (), k), ((m_0, m_1, m_2, m_3), (out_0, out_1, out_2, out_3))) =>
  (.test (decide (k ≤ 6))
  (.sub (s_mxTimes ((out_0, (out_1, (out_2, out_3))), (m_0, (m_1, (m_2, m_3))))) fun z0 =>
   (.sub (s_mxIf (z0.1, (z0.2.1, (z0.2.2.1, z0.2.2.2)))) fun z1 =>
   (.test (! z1.2)
   (.ret (Sum.inr (Sum.inl ((0 : Int), false))))
   (.sub (s_mxOne ()) fun z2 =>
    (.test ((z1.1.1 == z2.1) && ((z1.1.2.1 == z2.2.1) && ((z1.1.2.2.1 == z2.2.2.1) && ((z1.1.2.2.2 == z2.2.2.2) && true))))
    (.ret (Sum.inr (Sum.inl (k, true))))
    (.ret (Sum.inl (((), ((), (w64 (k + 1)))), ((m_0, (m_1, (m_2, m_3))), (z1.1.1, (z1.1.2.1, (z1.1.2.2.1, z1.1.2.2.2))))))))))))
  (.ret (Sum.inr (Sum.inr ()))))
noncomputable def s_OrderOf_L5 (v : ((Unit × Unit × Int) × ((Int × Int × Int × Int) × (Int × Int × Int × Int)))) : Option ((Int × Bool) ⊕ Unit) := loopO (fun v => (s_OrderOf_L5_step v).run) v

def s_OrderOf_fo : List FO := [⟨[(.one (.si .i64)), (.one .sb)], []⟩]
noncomputable def s_OrderOf_t : (Int × Int × Int × Int) → T (Int × Bool) := fun (m_0, m_1, m_2, m_3) =>
  (.sub (s_mxGood (m_0, (m_1, (m_2, m_3)))) fun z0 =>
  (.test (! z0)
  (.ret ((0 : Int), false))
  (.sub (s_mxOne ()) fun z1 =>
   (.sub (s_OrderOf_L5 (((), ((), (1 : Int))), ((m_0, (m_1, (m_2, m_3))), (z1.1, (z1.2.1, (z1.2.2.1, z1.2.2.2)))))) fun z2 =>
   (.test (Sum.isLeft z2)
   (.sub (Sum.getLeft? z2) fun z3 =>
    (.ret (z3.1, z3.2)))
   (.sub (Sum.getRight? z2) fun z4 =>
    (.ret ((0 : Int), false))))))))
noncomputable def s_OrderOf (v : (Int × Int × Int × Int)) : Option (Int × Bool) := (s_OrderOf_t v).run
noncomputable def s_OrderOf_E : TEnv := ((((E0.add1 n_s_mxGood s_mxGood_sh s_mxGood_fo s_mxGood).add1 n_s_mxOne s_mxOne_sh s_mxOne_fo s_mxOne).add1 n_s_mxTimes s_mxTimes_sh s_mxTimes_fo s_mxTimes).add1 n_s_mxIf s_mxIf_sh s_mxIf_fo s_mxIf)
theorem s_OrderOf_Eok : (s_OrderOf_E).OK := ((((E0ok.add1 s_mxGood_ok).add1 s_mxOne_ok).add1 s_mxTimes_ok).add1 s_mxIf_ok)
noncomputable def s_OrderOf_told : Nat → Option SealT := fun id => if id = 5 then some (LSh.told s_OrderOf_L5_sh 0 (s_OrderOf_L5_step)) else none
theorem s_OrderOf_L5_ok : ToldOK Tryd.prog 0 (loopAt (bodyOf fn_s_OrderOf) [0]) (LSh.told s_OrderOf_L5_sh 0 (s_OrderOf_L5_step)) :=
  loop_ok (E := s_OrderOf_E) (s_OrderOf_Eok) (told := s_OrderOf_told) (l := s_OrderOf_L5_sh) (step := s_OrderOf_L5_step) (loopsOK_of (ls := []) (by kernel_rfl) trivial) (by kernel_rfl) (fun v => by kernel_rfl)
theorem s_OrderOf_ok : FOK Tryd.prog n_s_OrderOf s_OrderOf_sh s_OrderOf_fo s_OrderOf :=
  fn_ok (E := s_OrderOf_E) (s_OrderOf_Eok) (told := s_OrderOf_told) (fl := []) (c := bodyOf fn_s_OrderOf) (s := s_OrderOf_sh) (l := s_OrderOf_fo) (tree := s_OrderOf_t) fnat_s_OrderOf (by kernel_rfl) (by kernel_rfl) (by kernel_rfl) (loopsOK_of (ls := [loopAt (bodyOf fn_s_OrderOf) [0]]) (by kernel_rfl) ⟨.inr ⟨_, by kernel_rfl, s_OrderOf_L5_ok⟩, trivial⟩) (fun v => by kernel_rfl)

def ordS (m : M4) : Nat → Int × Bool
  | 0 => (0, false)
  | n + 1 => if good4 (pOf m (uk (m.1 + m.2.2.2) (6 - n))) then (if pOf m (uk (m.1 + m.2.2.2) (6 - n)) = one4 then (((6 - n : Nat) : Int), true) else ordS m n) else (0, false)
theorem pOf_next (m : M4) (hd : m.1 * m.2.2.2 - m.2.1 * m.2.2.1 = 1) (k : Nat) : mul4 (pOf m (uk (m.1 + m.2.2.2) k)) m = pOf m (uk (m.1 + m.2.2.2) (k + 1)) := by
  obtain ⟨a, b, c, d⟩ := m
  simp only at hd
  have e : (uk (a + d) (k + 1)).2 = (a + d) * (uk (a + d) k).2 - (uk (a + d) k).1 := rfl
  have e1 : (uk (a + d) (k + 1)).1 = (uk (a + d) k).2 := rfl
  simp only [mul4, pOf, e, e1]
  generalize (uk (a + d) k).2 = q
  generalize (uk (a + d) k).1 = p
  have h1 : q * (a * d) - q * (b * c) = q := by rw [← Int.mul_sub, hd, Int.mul_one]
  simp only [Prod.mk.injEq, Int.sub_mul, Int.add_mul, Int.mul_sub, Int.mul_add]
  have x1 : q * a * a = a * q * a := by rw [Int.mul_comm q a]
  have x2 : d * q * a = q * (a * d) := by rw [Int.mul_comm d q, Int.mul_assoc, Int.mul_comm d a]
  have x3 : q * b * c = q * (b * c) := Int.mul_assoc ..
  have x4 : q * a * b = a * q * b := by rw [Int.mul_comm q a]
  have x5 : q * b * d = d * q * b := by rw [Int.mul_assoc, Int.mul_comm b d, ← Int.mul_assoc, Int.mul_comm q d]
  have x6 : q * c * a = a * q * c := by rw [Int.mul_assoc, Int.mul_comm c a, ← Int.mul_assoc, Int.mul_comm q a]
  have x7 : q * d * c = d * q * c := by rw [Int.mul_comm q d]
  have x8 : q * d * d = d * q * d := by rw [Int.mul_comm q d]
  have x9 : a * q * d = q * (a * d) := by rw [Int.mul_comm a q, Int.mul_assoc]
  have x10 : q * c * b = q * (b * c) := by rw [Int.mul_assoc, Int.mul_comm c b]
  refine ⟨?_, ?_, ?_, ?_⟩ <;> omega
theorem s_OrderOf_L5_ord (m : M4) (hm : good4 m = true) : ∀ n, n ≤ 6 → good4 (pOf m (uk (m.1 + m.2.2.2) (6 - n))) = true →
    ∃ o, s_OrderOf_L5 (((), ((), (((7 - n : Nat)) : Int))), (m, pOf m (uk (m.1 + m.2.2.2) (6 - n)))) = some o ∧ (match o with | .inl p => p | .inr _ => (0, false)) = ordS m n := by
  have hd : m.1 * m.2.2.2 - m.2.1 * m.2.2.1 = 1 := (good4_iff.1 hm).2.2.2.2
  intro n
  induction n with
  | zero =>
    intro _ _
    refine ⟨.inr (), ?_, rfl⟩
    exact loopO_done (by simp [s_OrderOf_L5_step, T.run])
  | succ n ih =>
    intro hn hg
    have hk : 7 - (n + 1) = 6 - n := by omega
    have hk1 : 6 - (n + 1) + 1 = 6 - n := by omega
    rw [hk]
    have hp := pOf_next m hd (6 - (n + 1))
    rw [hk1] at hp
    have hst : (s_OrderOf_L5_step (((), ((), (((6 - n : Nat)) : Int))), (m, pOf m (uk (m.1 + m.2.2.2) (6 - (n + 1)))))).run = some (if good4 (pOf m (uk (m.1 + m.2.2.2) (6 - n))) then (if pOf m (uk (m.1 + m.2.2.2) (6 - n)) = one4 then .inr (.inl (((6 - n : Nat) : Int), true)) else .inl (((), ((), (((7 - n : Nat)) : Int))), (m, pOf m (uk (m.1 + m.2.2.2) (6 - n))))) else .inr (.inl (0, false))) := by
      simp only [s_OrderOf_L5_step, T.run]
      have h6 : (((6 - n : Nat)) : Int) ≤ 6 := by omega
      have e7 : w64 ((((6 - n : Nat)) : Int) + 1) = (((7 - n : Nat)) : Int) := by rw [w64_id (by omega) (by omega)]; omega
      rw [e7]
      simp only [h6, decide_true, if_true]
      rw [s_mxTimes_eq _ _ (good4_in hg) (good4_in hm), hp]
      simp only [Option.bind_some, s_mxIf_eq, s_mxOne_eq]
      cases hg2 : good4 (pOf m (uk (m.1 + m.2.2.2) (6 - n))) with
      | false => simp
      | true =>
        simp only [if_true, eq4, Bool.not_true, Bool.false_eq_true, if_false]
        by_cases h1 : pOf m (uk (m.1 + m.2.2.2) (6 - n)) = one4 <;> simp [h1]
    rw [ordS]
    cases hg2 : good4 (pOf m (uk (m.1 + m.2.2.2) (6 - n))) with
    | false => rw [hg2] at hst; exact ⟨.inl (0, false), loopO_done hst, rfl⟩
    | true =>
      rw [hg2] at hst
      by_cases h1 : pOf m (uk (m.1 + m.2.2.2) (6 - n)) = one4
      · rw [if_pos rfl, if_pos h1] at hst
        rw [if_pos rfl, if_pos h1]
        exact ⟨_, loopO_done hst, rfl⟩
      · rw [if_pos rfl, if_neg h1] at hst
        rw [if_pos rfl, if_neg h1]
        simp only [s_OrderOf_L5] at ih ⊢
        rw [loopO_next hst]
        exact ih (by omega) hg2
theorem s_OrderOf_eq (m : M4) : s_OrderOf m = some (if good4 m then ordS m 6 else (0, false)) := by
  obtain ⟨a, b, c, d⟩ := m
  simp only [s_OrderOf, s_OrderOf_t, T.run, s_mxGood_eq, Option.bind_some]
  cases hg : good4 (a, b, c, d) with
  | false => simp
  | true =>
    have hz : pOf (a, b, c, d) (uk (a + d) 0) = one4 := by simp [pOf, uk, one4]
    have h := s_OrderOf_L5_ord (a, b, c, d) hg 6 (Nat.le_refl 6)
    simp only [Nat.sub_self] at h
    rw [show ((7 - 6 : Nat) : Int) = 1 from rfl, hz] at h
    obtain ⟨o, h1, h2⟩ := h rfl
    simp only [Bool.not_true, Bool.false_eq_true, if_false, s_mxOne_eq, Option.bind_some]
    rw [show ((one4.1, (one4.2.1, (one4.2.2.1, one4.2.2.2))) : M4) = one4 from rfl, h1]
    cases o with
    | inl p => simp only [Option.bind_some, Sum.isLeft, if_true, Sum.getLeft?]; simp only at h2; rw [← h2]
    | inr u => simp only [Option.bind_some, Sum.isLeft, Bool.false_eq_true, if_false, Sum.getRight?]; simp only at h2; rw [← h2]; rfl


def s_PowerMatrix_sh : FSh := ⟨[(.ag [(.si .i64), (.si .i64), (.si .i64), (.si .i64)]), (.one (.si .i64))], []⟩

def s_PowerMatrix_L7_sh : LSh := ⟨(fun ex => match ex with | .norm => [(1, none), (2, none), (4, none), (6, none)] | .exit i => if i = 0 then [(4, none), (6, none)] else [] | .ret => [(4, none), (5, none)]), [(1, (.one (.si .i64))), (2, (.one (.pf 0 0 0))), (4, (.one (.pf 1 0 0))), (6, (.one (.pf 2 0 0)))], [(.rcd 0 [(.si .i64), (.si .i64), (.si .i64), (.si .i64)]), (.rcd 0 [(.si .i64), (.si .i64), (.si .i64), (.si .i64)]), (.rcd 0 [(.si .i64), (.si .i64), (.si .i64), (.si .i64)])], [⟨.ret, [(4, (.one (.pf 0 0 0))), (5, (.one .sb))], [(.rcd 0 [(.si .i64), (.si .i64), (.si .i64), (.si .i64)])]⟩, ⟨(.exit 0), [(4, (.one (.pf 0 0 0))), (6, (.one (.pf 1 0 0)))], [(.rcd 0 [(.si .i64), (.si .i64), (.si .i64), (.si .i64)]), (.rcd 0 [(.si .i64), (.si .i64), (.si .i64), (.si .i64)])]⟩], [], []⟩
noncomputable def s_PowerMatrix_L7_step : ((Int × Unit × Unit × Unit) × ((Int × Int × Int × Int) × (Int × Int × Int × Int) × (Int × Int × Int × Int))) → T (((Int × Unit × Unit × Unit) × ((Int × Int × Int × Int) × (Int × Int × Int × Int) × (Int × Int × Int × Int))) ⊕ (((Unit × Bool) × (Int × Int × Int × Int)) ⊕ ((Unit × Unit) × ((Int × Int × Int × Int) × (Int × Int × Int × Int))))) := fun ((k, (), (), ()), ((m_0, m_1, m_2, m_3), (t4_0, t4_1, t4_2, t4_3), (out_0, out_1, out_2, out_3))) =>
  (.test (decide (k > 0))
  (.sub (s_mxTimes ((out_0, (out_1, (out_2, out_3))), (m_0, (m_1, (m_2, m_3))))) fun z0 =>
   (.sub (s_mxIf (z0.1, (z0.2.1, (z0.2.2.1, z0.2.2.2)))) fun z1 =>
   (.test (! z1.2)
   (.ret (Sum.inr (Sum.inl (((), false), ((0 : Int), ((0 : Int), ((0 : Int), (0 : Int))))))))
   (.ret (Sum.inl (((w64 (k - 1)), ((), ((), ()))), ((m_0, (m_1, (m_2, m_3))), ((t4_0, (t4_1, (t4_2, t4_3))), (z1.1.1, (z1.1.2.1, (z1.1.2.2.1, z1.1.2.2.2)))))))))))
  (.ret (Sum.inr (Sum.inr (((), ()), ((t4_0, (t4_1, (t4_2, t4_3))), (out_0, (out_1, (out_2, out_3)))))))))
noncomputable def s_PowerMatrix_L7 (v : ((Int × Unit × Unit × Unit) × ((Int × Int × Int × Int) × (Int × Int × Int × Int) × (Int × Int × Int × Int)))) : Option (((Unit × Bool) × (Int × Int × Int × Int)) ⊕ ((Unit × Unit) × ((Int × Int × Int × Int) × (Int × Int × Int × Int)))) := loopO (fun v => (s_PowerMatrix_L7_step v).run) v

def s_PowerMatrix_fo : List FO := [⟨[(.ag [(.si .i64), (.si .i64), (.si .i64), (.si .i64)]), (.one .sb)], []⟩]
noncomputable def s_PowerMatrix_t : ((Int × Int × Int × Int) × Int) → T ((Int × Int × Int × Int) × Bool) := fun ((m_0, m_1, m_2, m_3), k) =>
  (.sub (s_mxGood (m_0, (m_1, (m_2, m_3)))) fun z0 =>
  (.test (! z0)
  (.ret (((0 : Int), ((0 : Int), ((0 : Int), (0 : Int)))), false))
  (.sub (s_l1In (k, ((-20), (20 : Int)))) fun z1 =>
   (.test (! z1)
   (.ret (((0 : Int), ((0 : Int), ((0 : Int), (0 : Int)))), false))
   (.test (decide (k < 0))
    (.sub (s_mxInverse (m_0, (m_1, (m_2, m_3)))) fun z2 =>
     (.sub (s_mxOne ()) fun z3 =>
     (.sub (s_PowerMatrix_L7 (((w64 (0 - k)), ((), ((), ()))), ((z2.1, (z2.2.1, (z2.2.2.1, z2.2.2.2))), (((0 : Int), ((0 : Int), ((0 : Int), (0 : Int)))), (z3.1, (z3.2.1, (z3.2.2.1, z3.2.2.2))))))) fun z4 =>
     (.test (Sum.isLeft z4)
     (.sub (Sum.getLeft? z4) fun z5 =>
      (.ret ((z5.2.1, (z5.2.2.1, (z5.2.2.2.1, z5.2.2.2.2))), z5.1.2)))
     (.sub (Sum.getRight? z4) fun z6 =>
      (.ret ((z6.2.2.1, (z6.2.2.2.1, (z6.2.2.2.2.1, z6.2.2.2.2.2))), true)))))))
    (.sub (s_mxOne ()) fun z7 =>
     (.sub (s_PowerMatrix_L7 ((k, ((), ((), ()))), ((m_0, (m_1, (m_2, m_3))), (((0 : Int), ((0 : Int), ((0 : Int), (0 : Int)))), (z7.1, (z7.2.1, (z7.2.2.1, z7.2.2.2))))))) fun z8 =>
     (.test (Sum.isLeft z8)
     (.sub (Sum.getLeft? z8) fun z9 =>
      (.ret ((z9.2.1, (z9.2.2.1, (z9.2.2.2.1, z9.2.2.2.2))), z9.1.2)))
     (.sub (Sum.getRight? z8) fun z10 =>
      (.ret ((z10.2.2.1, (z10.2.2.2.1, (z10.2.2.2.2.1, z10.2.2.2.2.2))), true)))))))))))
noncomputable def s_PowerMatrix (v : ((Int × Int × Int × Int) × Int)) : Option ((Int × Int × Int × Int) × Bool) := (s_PowerMatrix_t v).run
noncomputable def s_PowerMatrix_E : TEnv := ((((((E0.add1 n_s_mxGood s_mxGood_sh s_mxGood_fo s_mxGood).add1 n_s_l1In s_l1In_sh s_l1In_fo s_l1In).add1 n_s_mxInverse s_mxInverse_sh s_mxInverse_fo s_mxInverse).add1 n_s_mxOne s_mxOne_sh s_mxOne_fo s_mxOne).add1 n_s_mxTimes s_mxTimes_sh s_mxTimes_fo s_mxTimes).add1 n_s_mxIf s_mxIf_sh s_mxIf_fo s_mxIf)
theorem s_PowerMatrix_Eok : (s_PowerMatrix_E).OK := ((((((E0ok.add1 s_mxGood_ok).add1 s_l1In_ok).add1 s_mxInverse_ok).add1 s_mxOne_ok).add1 s_mxTimes_ok).add1 s_mxIf_ok)
noncomputable def s_PowerMatrix_told : Nat → Option SealT := fun id => if id = 7 then some (LSh.told s_PowerMatrix_L7_sh 0 (s_PowerMatrix_L7_step)) else none
theorem s_PowerMatrix_L7_ok : ToldOK Tryd.prog 0 (loopAt (bodyOf fn_s_PowerMatrix) [0]) (LSh.told s_PowerMatrix_L7_sh 0 (s_PowerMatrix_L7_step)) :=
  loop_ok (E := s_PowerMatrix_E) (s_PowerMatrix_Eok) (told := s_PowerMatrix_told) (l := s_PowerMatrix_L7_sh) (step := s_PowerMatrix_L7_step) (loopsOK_of (ls := []) (by kernel_rfl) trivial) (by kernel_rfl) (fun v => by kernel_rfl)
theorem s_PowerMatrix_ok : FOK Tryd.prog n_s_PowerMatrix s_PowerMatrix_sh s_PowerMatrix_fo s_PowerMatrix :=
  fn_ok (E := s_PowerMatrix_E) (s_PowerMatrix_Eok) (told := s_PowerMatrix_told) (fl := []) (c := bodyOf fn_s_PowerMatrix) (s := s_PowerMatrix_sh) (l := s_PowerMatrix_fo) (tree := s_PowerMatrix_t) fnat_s_PowerMatrix (by kernel_rfl) (by kernel_rfl) (by kernel_rfl) (loopsOK_of (ls := [loopAt (bodyOf fn_s_PowerMatrix) [0]]) (by kernel_rfl) ⟨.inr ⟨_, by kernel_rfl, s_PowerMatrix_L7_ok⟩, trivial⟩) (fun v => by kernel_rfl)

theorem s_PowerMatrix_L7_pow (m : M4) (hm : good4 m = true) (z : M4) (K : Nat) (hK : K ≤ 20) : ∀ n, n ≤ K → good4 (pOf m (uk (m.1 + m.2.2.2) (K - n))) = true →
    ∃ o, s_PowerMatrix_L7 (((n : Int), ((), ((), ()))), (m, (z, pOf m (uk (m.1 + m.2.2.2) (K - n))))) = some o ∧ (match o with | .inl p => (p.2, p.1.2) | .inr q => (q.2.2, true)) = powS m K n := by
  have hd : m.1 * m.2.2.2 - m.2.1 * m.2.2.1 = 1 := (good4_iff.1 hm).2.2.2.2
  intro n
  induction n with
  | zero =>
    intro _ _
    refine ⟨.inr (((), ()), (z, pOf m (uk (m.1 + m.2.2.2) K))), ?_, rfl⟩
    exact loopO_done (by simp [s_PowerMatrix_L7_step, T.run])
  | succ n ih =>
    intro hn hg
    have hk1 : K - (n + 1) + 1 = K - n := by omega
    have hp := pOf_next m hd (K - (n + 1))
    rw [hk1] at hp
    have hst : (s_PowerMatrix_L7_step ((((n + 1 : Nat) : Int), ((), ((), ()))), (m, (z, pOf m (uk (m.1 + m.2.2.2) (K - (n + 1))))))).run = some (if good4 (pOf m (uk (m.1 + m.2.2.2) (K - n))) then .inl (((n : Int), ((), ((), ()))), (m, (z, pOf m (uk (m.1 + m.2.2.2) (K - n))))) else .inr (.inl (((), false), (0, 0, 0, 0)))) := by
      simp only [s_PowerMatrix_L7_step, T.run]
      have h6 : (((n + 1 : Nat)) : Int) > 0 := by omega
      have e7 : w64 ((((n + 1 : Nat)) : Int) - 1) = (n : Int) := by rw [w64_id (by omega) (by omega)]; omega
      rw [e7]
      simp only [h6, decide_true, if_true]
      rw [s_mxTimes_eq _ _ (good4_in hg) (good4_in hm), hp]
      simp only [Option.bind_some, s_mxIf_eq]
      cases hg2 : good4 (pOf m (uk (m.1 + m.2.2.2) (K - n))) <;> simp
    rw [powS]
    cases hg2 : good4 (pOf m (uk (m.1 + m.2.2.2) (K - n))) with
    | false => rw [hg2] at hst; exact ⟨_, loopO_done hst, rfl⟩
    | true =>
      rw [hg2, if_pos rfl] at hst
      rw [if_pos rfl]
      simp only [s_PowerMatrix_L7] at ih ⊢
      rw [loopO_next hst]
      exact ih (by omega) hg2
theorem s_PowerMatrix_L7_all (m : M4) (hm : good4 m = true) (z : M4) (K : Nat) (hK : K ≤ 20) :
    ∃ o, s_PowerMatrix_L7 (((K : Int), ((), ((), ()))), (m, (z, one4))) = some o ∧ (match o with | .inl p => (p.2, p.1.2) | .inr q => (q.2.2, true)) = powK m K := by
  have h0 : good4 (pOf m (uk (m.1 + m.2.2.2) 0)) = true := by rw [pOf_zero]; rfl
  have h := s_PowerMatrix_L7_pow m hm z K hK K (by omega) (by rw [Nat.sub_self]; exact h0)
  rw [Nat.sub_self, pOf_zero, powS_all hm hK] at h
  exact h
theorem s_PowerMatrix_eq (m : M4) (n : Int) : s_PowerMatrix (m, n) = some (powR m n) := by
  obtain ⟨a, b, c, d⟩ := m
  simp only [s_PowerMatrix, s_PowerMatrix_t, T.run, s_mxGood_eq, s_l1In_eq, Option.bind_some, powR, s_mxOne_eq]
  cases h1 : good4 (a, b, c, d) with
  | false => simp [zM]
  | true =>
    cases h2 : inB (-20) 20 n with
    | false => simp [zM]
    | true =>
      rw [inB_iff] at h2
      simp only [Bool.not_true, Bool.false_eq_true, if_false, Bool.and_true, if_true, decide_eq_true_eq]
      by_cases hn : n < 0
      · rw [if_pos hn, if_pos hn, s_mxInverse_good h1]
        have e : w64 (0 - n) = ((n.natAbs : Nat) : Int) := by rw [w64_id (by omega) (by omega)]; omega
        rw [Option.bind_some, e]
        obtain ⟨o, ho, hv⟩ := s_PowerMatrix_L7_all (invM (a, b, c, d)) (good4_inv h1) (0, 0, 0, 0) n.natAbs (by omega)
        rw [← hv]
        have ho' : s_PowerMatrix_L7 ((((n.natAbs : Nat) : Int), ((), ((), ()))), (((invM (a, b, c, d)).1, ((invM (a, b, c, d)).2.1, ((invM (a, b, c, d)).2.2.1, (invM (a, b, c, d)).2.2.2))), ((0, 0, 0, 0), (one4.1, (one4.2.1, (one4.2.2.1, one4.2.2.2)))))) = some o := ho
        rw [ho']
        cases o <;> rfl
      · rw [if_neg hn, if_neg hn]
        have e : n = ((n.natAbs : Nat) : Int) := by omega
        obtain ⟨o, ho, hv⟩ := s_PowerMatrix_L7_all (a, b, c, d) h1 (0, 0, 0, 0) n.natAbs (by omega)
        rw [← e] at ho
        rw [← hv]
        have ho' : s_PowerMatrix_L7 ((n, ((), ((), ()))), ((a, (b, (c, d))), ((0, 0, 0, 0), (one4.1, (one4.2.1, (one4.2.2.1, one4.2.2.2)))))) = some o := ho
        rw [ho']
        cases o <;> rfl


def s_DrawIsMatrix_sh : FSh := ⟨[(.one (.sl (.int .u8) false true))], []⟩

def s_DrawIsMatrix_fo : List FO := [⟨[(.ag [(.si .i64), (.si .i64), (.si .i64), (.si .i64)])], []⟩]
noncomputable def s_DrawIsMatrix_t : List (Int) → T (Int × Int × Int × Int) := fun code =>
  (.sub (s_l1Cur_matrix ((), (code, ((0 : Int), (0 : Int))))) fun z0 =>
  (.ret (z0.1.1, (z0.1.2.1, (z0.1.2.2.1, z0.1.2.2.2)))))
noncomputable def s_DrawIsMatrix (v : List (Int)) : Option (Int × Int × Int × Int) := (s_DrawIsMatrix_t v).run
noncomputable def s_DrawIsMatrix_E : TEnv := (E0.add1 n_s_l1Cur_matrix s_l1Cur_matrix_sh s_l1Cur_matrix_fo s_l1Cur_matrix)
theorem s_DrawIsMatrix_Eok : (s_DrawIsMatrix_E).OK := (E0ok.add1 s_l1Cur_matrix_ok)
noncomputable def s_DrawIsMatrix_told : Nat → Option SealT := fun id => none
theorem s_DrawIsMatrix_ok : FOK Tryd.prog n_s_DrawIsMatrix s_DrawIsMatrix_sh s_DrawIsMatrix_fo s_DrawIsMatrix :=
  fn_ok (E := s_DrawIsMatrix_E) (s_DrawIsMatrix_Eok) (told := s_DrawIsMatrix_told) (fl := []) (c := bodyOf fn_s_DrawIsMatrix) (s := s_DrawIsMatrix_sh) (l := s_DrawIsMatrix_fo) (tree := s_DrawIsMatrix_t) fnat_s_DrawIsMatrix (by kernel_rfl) (by kernel_rfl) (by kernel_rfl) (loopsOK_of (ls := []) (by kernel_rfl) trivial) (fun v => by kernel_rfl)

def s_DrawOrderOf_sh : FSh := ⟨[(.one (.sl (.int .u8) false true))], []⟩

def s_DrawOrderOf_fo : List FO := [⟨[(.ag [(.si .i64), (.si .i64), (.si .i64), (.si .i64)])], []⟩]
noncomputable def s_DrawOrderOf_t : List (Int) → T (Int × Int × Int × Int) := fun code =>
  (.sub (s_DrawIsMatrix code) fun z0 =>
  (.ret (z0.1, (z0.2.1, (z0.2.2.1, z0.2.2.2)))))
noncomputable def s_DrawOrderOf (v : List (Int)) : Option (Int × Int × Int × Int) := (s_DrawOrderOf_t v).run
noncomputable def s_DrawOrderOf_E : TEnv := (E0.add1 n_s_DrawIsMatrix s_DrawIsMatrix_sh s_DrawIsMatrix_fo s_DrawIsMatrix)
theorem s_DrawOrderOf_Eok : (s_DrawOrderOf_E).OK := (E0ok.add1 s_DrawIsMatrix_ok)
noncomputable def s_DrawOrderOf_told : Nat → Option SealT := fun id => none
theorem s_DrawOrderOf_ok : FOK Tryd.prog n_s_DrawOrderOf s_DrawOrderOf_sh s_DrawOrderOf_fo s_DrawOrderOf :=
  fn_ok (E := s_DrawOrderOf_E) (s_DrawOrderOf_Eok) (told := s_DrawOrderOf_told) (fl := []) (c := bodyOf fn_s_DrawOrderOf) (s := s_DrawOrderOf_sh) (l := s_DrawOrderOf_fo) (tree := s_DrawOrderOf_t) fnat_s_DrawOrderOf (by kernel_rfl) (by kernel_rfl) (by kernel_rfl) (loopsOK_of (ls := []) (by kernel_rfl) trivial) (fun v => by kernel_rfl)

def i_one_sh : FSh := ⟨[], []⟩

def i_one_fo : List FO := [⟨[(.ag [(.si .i64), (.si .i64), (.si .i64), (.si .i64)])], []⟩]
noncomputable def i_one_t : Unit → T (Int × Int × Int × Int) := fun () =>
  (.ret ((1 : Int), ((0 : Int), ((0 : Int), (1 : Int)))))
noncomputable def i_one (v : Unit) : Option (Int × Int × Int × Int) := (i_one_t v).run
noncomputable def i_one_E : TEnv := E0
theorem i_one_Eok : (i_one_E).OK := E0ok
noncomputable def i_one_told : Nat → Option SealT := fun id => none
theorem i_one_ok : FOK Tryd.prog n_i_one i_one_sh i_one_fo i_one :=
  fn_ok (E := i_one_E) (i_one_Eok) (told := i_one_told) (fl := []) (c := bodyOf fn_i_one) (s := i_one_sh) (l := i_one_fo) (tree := i_one_t) fnat_i_one (by kernel_rfl) (by kernel_rfl) (by kernel_rfl) (loopsOK_of (ls := []) (by kernel_rfl) trivial) (fun v => by kernel_rfl)

theorem i_one_eq : i_one () = some one4 := rfl


def i_OrderOf_sh : FSh := ⟨[(.ag [(.si .i64), (.si .i64), (.si .i64), (.si .i64)])], []⟩

def i_OrderOf_L4_sh : LSh := ⟨(fun ex => match ex with | .norm => [(1, none), (4, none)] | .exit i => if i = 0 then [] else [] | .ret => [(2, none), (3, none)]), [(1, (.one (.pf 0 0 0))), (4, (.one (.si .i64)))], [(.rcd 0 [(.si .i64), (.si .i64), (.si .i64), (.si .i64)])], [⟨.ret, [(2, (.one (.si .i64))), (3, (.one .sb))], []⟩, ⟨(.exit 0), [], []⟩], [], []⟩
noncomputable def i_OrderOf_L4_step : ((Unit × Int) × (Int × Int × Int × Int)) → T (((Unit × Int) × (Int × Int × Int × Int)) ⊕ ((Int × Bool) ⊕ Unit)) := fun (((), k), (m_0, m_1, m_2, m_3)) =>
  (.test (decide (k ≤ 6))
  (.sub (i_power ((m_0, (m_1, (m_2, m_3))), k)) fun z0 =>
   (.test z0.2
   (.sub (i_one ()) fun z1 =>
    (.test ((z0.1.1 == z1.1) && ((z0.1.2.1 == z1.2.1) && ((z0.1.2.2.1 == z1.2.2.1) && ((z0.1.2.2.2 == z1.2.2.2) && true))))
    (.ret (Sum.inr (Sum.inl (k, true))))
    (.ret (Sum.inl (((), (w64 (k + 1))), (m_0, (m_1, (m_2, m_3))))))))
   (.ret (Sum.inl (((), (w64 (k + 1))), (m_0, (m_1, (m_2, m_3))))))))
  (.ret (Sum.inr (Sum.inr ()))))
noncomputable def i_OrderOf_L4 (v : ((Unit × Int) × (Int × Int × Int × Int))) : Option ((Int × Bool) ⊕ Unit) := loopO (fun v => (i_OrderOf_L4_step v).run) v

def i_OrderOf_fo : List FO := [⟨[(.one (.si .i64)), (.one .sb)], []⟩]
noncomputable def i_OrderOf_t : (Int × Int × Int × Int) → T (Int × Bool) := fun (m_0, m_1, m_2, m_3) =>
  (.sub (i_IsMatrix (m_0, (m_1, (m_2, m_3)))) fun z0 =>
  (.test (! z0)
  (.ret ((0 : Int), false))
  (.sub (i_OrderOf_L4 (((), (1 : Int)), (m_0, (m_1, (m_2, m_3))))) fun z1 =>
   (.test (Sum.isLeft z1)
   (.sub (Sum.getLeft? z1) fun z2 =>
    (.ret (z2.1, z2.2)))
   (.sub (Sum.getRight? z1) fun z3 =>
    (.ret ((0 : Int), false)))))))
noncomputable def i_OrderOf (v : (Int × Int × Int × Int)) : Option (Int × Bool) := (i_OrderOf_t v).run
noncomputable def i_OrderOf_E : TEnv := (((E0.add1 n_i_IsMatrix i_IsMatrix_sh i_IsMatrix_fo i_IsMatrix).add1 n_i_power i_power_sh i_power_fo i_power).add1 n_i_one i_one_sh i_one_fo i_one)
theorem i_OrderOf_Eok : (i_OrderOf_E).OK := (((E0ok.add1 i_IsMatrix_ok).add1 i_power_ok).add1 i_one_ok)
noncomputable def i_OrderOf_told : Nat → Option SealT := fun id => if id = 4 then some (LSh.told i_OrderOf_L4_sh 0 (i_OrderOf_L4_step)) else none
theorem i_OrderOf_L4_ok : ToldOK Tryd.prog 0 (loopAt (bodyOf fn_i_OrderOf) [0]) (LSh.told i_OrderOf_L4_sh 0 (i_OrderOf_L4_step)) :=
  loop_ok (E := i_OrderOf_E) (i_OrderOf_Eok) (told := i_OrderOf_told) (l := i_OrderOf_L4_sh) (step := i_OrderOf_L4_step) (loopsOK_of (ls := []) (by kernel_rfl) trivial) (by kernel_rfl) (fun v => by kernel_rfl)
theorem i_OrderOf_ok : FOK Tryd.prog n_i_OrderOf i_OrderOf_sh i_OrderOf_fo i_OrderOf :=
  fn_ok (E := i_OrderOf_E) (i_OrderOf_Eok) (told := i_OrderOf_told) (fl := []) (c := bodyOf fn_i_OrderOf) (s := i_OrderOf_sh) (l := i_OrderOf_fo) (tree := i_OrderOf_t) fnat_i_OrderOf (by kernel_rfl) (by kernel_rfl) (by kernel_rfl) (loopsOK_of (ls := [loopAt (bodyOf fn_i_OrderOf) [0]]) (by kernel_rfl) ⟨.inr ⟨_, by kernel_rfl, i_OrderOf_L4_ok⟩, trivial⟩) (fun v => by kernel_rfl)

def ordI (m : M4) : Nat → Int × Bool
  | 0 => (0, false)
  | n + 1 => if uB (m.1 + m.2.2.2) (6 - n) && good4 (pOf m (uk (m.1 + m.2.2.2) (6 - n))) && decide (pOf m (uk (m.1 + m.2.2.2) (6 - n)) = one4) then (((6 - n : Nat) : Int), true) else ordI m n
theorem i_OrderOf_L4_eq (m : M4) (hm : in4 1000000000 m) : ∀ n, n ≤ 6 → i_OrderOf_L4 (((), (((7 - n : Nat)) : Int)), (m.1, (m.2.1, (m.2.2.1, m.2.2.2)))) =
    some (if (ordI m n).2 then .inl (ordI m n) else .inr ()) := by
  intro n
  induction n with
  | zero =>
    intro _
    simp only [i_OrderOf_L4, ordI]
    exact loopO_done (by simp [i_OrderOf_L4_step, T.run])
  | succ n ih =>
    intro hn
    simp only [i_OrderOf_L4] at ih ⊢
    have hk : 7 - (n + 1) = 6 - n := by omega
    rw [hk]
    have hp := i_power_eq m hm (6 - n) (by omega)
    have hst : (i_OrderOf_L4_step (((), (((6 - n : Nat)) : Int)), (m.1, (m.2.1, (m.2.2.1, m.2.2.2))))).run = some (if uB (m.1 + m.2.2.2) (6 - n) && good4 (pOf m (uk (m.1 + m.2.2.2) (6 - n))) && decide (pOf m (uk (m.1 + m.2.2.2) (6 - n)) = one4) then .inr (.inl (((6 - n : Nat) : Int), true)) else .inl (((), (((7 - n : Nat)) : Int)), (m.1, (m.2.1, (m.2.2.1, m.2.2.2))))) := by
      simp only [i_OrderOf_L4_step, T.run]
      have h6 : (((6 - n : Nat)) : Int) ≤ 6 := by omega
      have e7 : w64 ((((6 - n : Nat)) : Int) + 1) = (((7 - n : Nat)) : Int) := by rw [w64_id (by omega) (by omega)]; omega
      rw [e7]
      simp only [h6, decide_true, if_true]
      rw [show (m.1, (m.2.1, (m.2.2.1, m.2.2.2))) = m from rfl, hp]
      cases hg : uB (m.1 + m.2.2.2) (6 - n) && good4 (pOf m (uk (m.1 + m.2.2.2) (6 - n))) with
      | false => simp
      | true =>
        simp only [if_true, Option.bind_some, i_one_eq, eq4, Bool.true_and]
        by_cases h1 : pOf m (uk (m.1 + m.2.2.2) (6 - n)) = one4 <;> simp [h1]
    rw [ordI]
    cases hc : uB (m.1 + m.2.2.2) (6 - n) && good4 (pOf m (uk (m.1 + m.2.2.2) (6 - n))) && decide (pOf m (uk (m.1 + m.2.2.2) (6 - n)) = one4) with
    | true => rw [hc] at hst; simp only [if_true] at hst ⊢; exact loopO_done hst
    | false => rw [hc] at hst; simp only [Bool.false_eq_true, if_false] at hst ⊢; rw [loopO_next hst]; exact ih (by omega)
theorem ordI_zero (m : M4) : ∀ n, (ordI m n).2 = false → ordI m n = (0, false) := by
  intro n
  induction n with
  | zero => intro _; rfl
  | succ n ih =>
    simp only [ordI]
    split
    · intro h; simp at h
    · exact ih
theorem i_OrderOf_eq (m : M4) : i_OrderOf m = some (if good4 m then ordI m 6 else (0, false)) := by
  obtain ⟨a, b, c, d⟩ := m
  simp only [i_OrderOf, i_OrderOf_t, T.run, i_IsMatrix_eq, Option.bind_some]
  cases hg : good4 (a, b, c, d) with
  | false => simp
  | true =>
    have h := i_OrderOf_L4_eq (a, b, c, d) (good4_in hg) 6 (Nat.le_refl 6)
    simp only [Bool.not_true, Bool.false_eq_true, if_false]
    rw [show ((7 - 6 : Nat) : Int) = 1 from rfl] at h
    simp only at h
    rw [h]
    cases ho : (ordI (a, b, c, d) 6).2 with
    | true => simp [Sum.isLeft, ho]; exact Prod.ext rfl ho.symm
    | false => simp [Sum.isLeft, ordI_zero _ _ ho]


def s_InverseMatrix_sh : FSh := ⟨[(.ag [(.si .i64), (.si .i64), (.si .i64), (.si .i64)])], []⟩

def s_InverseMatrix_fo : List FO := [⟨[(.ag [(.si .i64), (.si .i64), (.si .i64), (.si .i64)]), (.one .sb)], []⟩]
noncomputable def s_InverseMatrix_t : (Int × Int × Int × Int) → T ((Int × Int × Int × Int) × Bool) := fun (m_0, m_1, m_2, m_3) =>
  (.sub (s_mxGood (m_0, (m_1, (m_2, m_3)))) fun z0 =>
  (.test (! z0)
  (.ret (((0 : Int), ((0 : Int), ((0 : Int), (0 : Int)))), false))
  (.sub (s_mxInverse (m_0, (m_1, (m_2, m_3)))) fun z1 =>
   (.ret ((z1.1, (z1.2.1, (z1.2.2.1, z1.2.2.2))), true)))))
noncomputable def s_InverseMatrix (v : (Int × Int × Int × Int)) : Option ((Int × Int × Int × Int) × Bool) := (s_InverseMatrix_t v).run
noncomputable def s_InverseMatrix_E : TEnv := ((E0.add1 n_s_mxGood s_mxGood_sh s_mxGood_fo s_mxGood).add1 n_s_mxInverse s_mxInverse_sh s_mxInverse_fo s_mxInverse)
theorem s_InverseMatrix_Eok : (s_InverseMatrix_E).OK := ((E0ok.add1 s_mxGood_ok).add1 s_mxInverse_ok)
noncomputable def s_InverseMatrix_told : Nat → Option SealT := fun id => none
theorem s_InverseMatrix_ok : FOK Tryd.prog n_s_InverseMatrix s_InverseMatrix_sh s_InverseMatrix_fo s_InverseMatrix :=
  fn_ok (E := s_InverseMatrix_E) (s_InverseMatrix_Eok) (told := s_InverseMatrix_told) (fl := []) (c := bodyOf fn_s_InverseMatrix) (s := s_InverseMatrix_sh) (l := s_InverseMatrix_fo) (tree := s_InverseMatrix_t) fnat_s_InverseMatrix (by kernel_rfl) (by kernel_rfl) (by kernel_rfl) (loopsOK_of (ls := []) (by kernel_rfl) trivial) (fun v => by kernel_rfl)

theorem s_InverseMatrix_eq (m : M4) : s_InverseMatrix m = some (if good4 m then (invM m, true) else ((0, 0, 0, 0), false)) := by
  obtain ⟨a, b, c, d⟩ := m
  simp only [s_InverseMatrix, s_InverseMatrix_t, T.run, s_mxGood_eq, Option.bind_some]
  cases h1 : good4 (a, b, c, d) with
  | false => simp
  | true => rw [s_mxInverse_good h1]; simp


def i_NegateMatrix_sh : FSh := ⟨[(.ag [(.si .i64), (.si .i64), (.si .i64), (.si .i64)])], []⟩

def i_NegateMatrix_fo : List FO := [⟨[(.ag [(.si .i64), (.si .i64), (.si .i64), (.si .i64)]), (.one .sb)], []⟩]
noncomputable def i_NegateMatrix_t : (Int × Int × Int × Int) → T ((Int × Int × Int × Int) × Bool) := fun (m_0, m_1, m_2, m_3) =>
  (.sub (i_IsMatrix (m_0, (m_1, (m_2, m_3)))) fun z0 =>
  (.test (! z0)
  (.ret (((0 : Int), ((0 : Int), ((0 : Int), (0 : Int)))), false))
  (.ret (((w64 (0 - m_0)), ((w64 (0 - m_1)), ((w64 (0 - m_2)), (w64 (0 - m_3))))), true))))
noncomputable def i_NegateMatrix (v : (Int × Int × Int × Int)) : Option ((Int × Int × Int × Int) × Bool) := (i_NegateMatrix_t v).run
noncomputable def i_NegateMatrix_E : TEnv := (E0.add1 n_i_IsMatrix i_IsMatrix_sh i_IsMatrix_fo i_IsMatrix)
theorem i_NegateMatrix_Eok : (i_NegateMatrix_E).OK := (E0ok.add1 i_IsMatrix_ok)
noncomputable def i_NegateMatrix_told : Nat → Option SealT := fun id => none
theorem i_NegateMatrix_ok : FOK Tryd.prog n_i_NegateMatrix i_NegateMatrix_sh i_NegateMatrix_fo i_NegateMatrix :=
  fn_ok (E := i_NegateMatrix_E) (i_NegateMatrix_Eok) (told := i_NegateMatrix_told) (fl := []) (c := bodyOf fn_i_NegateMatrix) (s := i_NegateMatrix_sh) (l := i_NegateMatrix_fo) (tree := i_NegateMatrix_t) fnat_i_NegateMatrix (by kernel_rfl) (by kernel_rfl) (by kernel_rfl) (loopsOK_of (ls := []) (by kernel_rfl) trivial) (fun v => by kernel_rfl)

theorem i_NegateMatrix_eq (m : M4) : i_NegateMatrix m = some (if good4 m then (negM m, true) else ((0, 0, 0, 0), false)) := by
  obtain ⟨a, b, c, d⟩ := m
  simp only [i_NegateMatrix, i_NegateMatrix_t, T.run, i_IsMatrix_eq, Option.bind_some]
  cases h1 : good4 (a, b, c, d) with
  | false => simp
  | true =>
    rw [good4_iff] at h1
    rw [w64_id (z := 0 - a) (by omega) (by omega), w64_id (z := 0 - b) (by omega) (by omega), w64_id (z := 0 - c) (by omega) (by omega), w64_id (z := 0 - d) (by omega) (by omega)]
    simp [negM]


def s_NegateMatrix_sh : FSh := ⟨[(.ag [(.si .i64), (.si .i64), (.si .i64), (.si .i64)])], []⟩

def s_NegateMatrix_fo : List FO := [⟨[(.ag [(.si .i64), (.si .i64), (.si .i64), (.si .i64)]), (.one .sb)], []⟩]
noncomputable def s_NegateMatrix_t : (Int × Int × Int × Int) → T ((Int × Int × Int × Int) × Bool) := fun (m_0, m_1, m_2, m_3) =>
  (.sub (s_mxGood (m_0, (m_1, (m_2, m_3)))) fun z0 =>
  (.test (! z0)
  (.ret (((0 : Int), ((0 : Int), ((0 : Int), (0 : Int)))), false))
  (.ret (((w64 (0 - m_0)), ((w64 (0 - m_1)), ((w64 (0 - m_2)), (w64 (0 - m_3))))), true))))
noncomputable def s_NegateMatrix (v : (Int × Int × Int × Int)) : Option ((Int × Int × Int × Int) × Bool) := (s_NegateMatrix_t v).run
noncomputable def s_NegateMatrix_E : TEnv := (E0.add1 n_s_mxGood s_mxGood_sh s_mxGood_fo s_mxGood)
theorem s_NegateMatrix_Eok : (s_NegateMatrix_E).OK := (E0ok.add1 s_mxGood_ok)
noncomputable def s_NegateMatrix_told : Nat → Option SealT := fun id => none
theorem s_NegateMatrix_ok : FOK Tryd.prog n_s_NegateMatrix s_NegateMatrix_sh s_NegateMatrix_fo s_NegateMatrix :=
  fn_ok (E := s_NegateMatrix_E) (s_NegateMatrix_Eok) (told := s_NegateMatrix_told) (fl := []) (c := bodyOf fn_s_NegateMatrix) (s := s_NegateMatrix_sh) (l := s_NegateMatrix_fo) (tree := s_NegateMatrix_t) fnat_s_NegateMatrix (by kernel_rfl) (by kernel_rfl) (by kernel_rfl) (loopsOK_of (ls := []) (by kernel_rfl) trivial) (fun v => by kernel_rfl)

theorem s_NegateMatrix_eq (m : M4) : s_NegateMatrix m = some (if good4 m then (negM m, true) else ((0, 0, 0, 0), false)) := by
  obtain ⟨a, b, c, d⟩ := m
  simp only [s_NegateMatrix, s_NegateMatrix_t, T.run, s_mxGood_eq, Option.bind_some]
  cases h1 : good4 (a, b, c, d) with
  | false => simp
  | true =>
    rw [good4_iff] at h1
    rw [w64_id (z := 0 - a) (by omega) (by omega), w64_id (z := 0 - b) (by omega) (by omega), w64_id (z := 0 - c) (by omega) (by omega), w64_id (z := 0 - d) (by omega) (by omega)]
    simp [negM]


def s_TraceOf_sh : FSh := ⟨[(.ag [(.si .i64), (.si .i64), (.si .i64), (.si .i64)])], []⟩

def s_TraceOf_fo : List FO := [⟨[(.one (.si .i64)), (.one .sb)], []⟩]
noncomputable def s_TraceOf_t : (Int × Int × Int × Int) → T (Int × Bool) := fun (m_0, m_1, m_2, m_3) =>
  (.sub (s_mxGood (m_0, (m_1, (m_2, m_3)))) fun z0 =>
  (.test (! z0)
  (.ret ((0 : Int), false))
  (.ret ((w64 (m_0 + m_3)), true))))
noncomputable def s_TraceOf (v : (Int × Int × Int × Int)) : Option (Int × Bool) := (s_TraceOf_t v).run
noncomputable def s_TraceOf_E : TEnv := (E0.add1 n_s_mxGood s_mxGood_sh s_mxGood_fo s_mxGood)
theorem s_TraceOf_Eok : (s_TraceOf_E).OK := (E0ok.add1 s_mxGood_ok)
noncomputable def s_TraceOf_told : Nat → Option SealT := fun id => none
theorem s_TraceOf_ok : FOK Tryd.prog n_s_TraceOf s_TraceOf_sh s_TraceOf_fo s_TraceOf :=
  fn_ok (E := s_TraceOf_E) (s_TraceOf_Eok) (told := s_TraceOf_told) (fl := []) (c := bodyOf fn_s_TraceOf) (s := s_TraceOf_sh) (l := s_TraceOf_fo) (tree := s_TraceOf_t) fnat_s_TraceOf (by kernel_rfl) (by kernel_rfl) (by kernel_rfl) (loopsOK_of (ls := []) (by kernel_rfl) trivial) (fun v => by kernel_rfl)

theorem s_TraceOf_eq (m : M4) : s_TraceOf m = some (if good4 m then (m.1 + m.2.2.2, true) else (0, false)) := by
  obtain ⟨a, b, c, d⟩ := m
  simp only [s_TraceOf, s_TraceOf_t, T.run, s_mxGood_eq, Option.bind_some]
  cases h1 : good4 (a, b, c, d) with
  | false => simp
  | true =>
    rw [good4_iff] at h1
    rw [w64_id (z := a + d) (by omega) (by omega)]
    simp


def i_FixedSign_sh : FSh := ⟨[(.ag [(.si .i64), (.si .i64), (.si .i64), (.si .i64)])], []⟩

def i_FixedSign_fo : List FO := [⟨[(.one (.si .i64)), (.one .sb)], []⟩]
noncomputable def i_FixedSign_t : (Int × Int × Int × Int) → T (Int × Bool) := fun (m_0, m_1, m_2, m_3) =>
  (.sub (i_IsMatrix (m_0, (m_1, (m_2, m_3)))) fun z0 =>
  (.test (! z0)
  (.ret ((0 : Int), false))
  (.sub (i_size (w64 (m_0 + m_3))) fun z1 =>
   (.test (decide (z1 < 2))
   (.ret ((-1), true))
   (.test (decide (z1 > 2))
    (.ret ((1 : Int), true))
    (.ret ((0 : Int), true)))))))
noncomputable def i_FixedSign (v : (Int × Int × Int × Int)) : Option (Int × Bool) := (i_FixedSign_t v).run
noncomputable def i_FixedSign_E : TEnv := ((E0.add1 n_i_IsMatrix i_IsMatrix_sh i_IsMatrix_fo i_IsMatrix).add1 n_i_size i_size_sh i_size_fo i_size)
theorem i_FixedSign_Eok : (i_FixedSign_E).OK := ((E0ok.add1 i_IsMatrix_ok).add1 i_size_ok)
noncomputable def i_FixedSign_told : Nat → Option SealT := fun id => none
theorem i_FixedSign_ok : FOK Tryd.prog n_i_FixedSign i_FixedSign_sh i_FixedSign_fo i_FixedSign :=
  fn_ok (E := i_FixedSign_E) (i_FixedSign_Eok) (told := i_FixedSign_told) (fl := []) (c := bodyOf fn_i_FixedSign) (s := i_FixedSign_sh) (l := i_FixedSign_fo) (tree := i_FixedSign_t) fnat_i_FixedSign (by kernel_rfl) (by kernel_rfl) (by kernel_rfl) (loopsOK_of (ls := []) (by kernel_rfl) trivial) (fun v => by kernel_rfl)

theorem i_FixedSign_eq (m : M4) : i_FixedSign m = some (if good4 m then (fsg (m.1 + m.2.2.2), true) else (0, false)) := by
  obtain ⟨a, b, c, d⟩ := m
  simp only [i_FixedSign, i_FixedSign_t, T.run, i_IsMatrix_eq, Option.bind_some]
  cases h1 : good4 (a, b, c, d) with
  | false => simp
  | true =>
    rw [good4_iff] at h1
    rw [w64_id (z := a + d) (by omega) (by omega), i_size_eq _ (by omega)]
    generalize a + d = t
    simp only [Option.bind_some, Bool.not_true, Bool.false_eq_true, if_false, if_true, fsg, decide_eq_true_eq]
    by_cases h1 : -2 < t ∧ t < 2
    · rw [if_pos (by split <;> omega), if_pos h1]
    · rw [if_neg (by split <;> omega), if_neg h1]
      by_cases h2 : t = 2 ∨ t = -2
      · rw [if_neg (by split <;> omega), if_pos h2]
      · rw [if_pos (by split <;> omega), if_neg h2]


def s_l1Most_sh : FSh := ⟨[(.one (.si .i64)), (.one (.si .i64))], []⟩

def s_l1Most_fo : List FO := [⟨[(.one (.si .i64))], []⟩]
noncomputable def s_l1Most_t : (Int × Int) → T Int := fun (a, b) =>
  (.test (decide (a > b))
  (.ret a)
  (.ret b))
noncomputable def s_l1Most (v : (Int × Int)) : Option Int := (s_l1Most_t v).run
noncomputable def s_l1Most_E : TEnv := E0
theorem s_l1Most_Eok : (s_l1Most_E).OK := E0ok
noncomputable def s_l1Most_told : Nat → Option SealT := fun id => none
theorem s_l1Most_ok : FOK Tryd.prog n_s_l1Most s_l1Most_sh s_l1Most_fo s_l1Most :=
  fn_ok (E := s_l1Most_E) (s_l1Most_Eok) (told := s_l1Most_told) (fl := []) (c := bodyOf fn_s_l1Most) (s := s_l1Most_sh) (l := s_l1Most_fo) (tree := s_l1Most_t) fnat_s_l1Most (by kernel_rfl) (by kernel_rfl) (by kernel_rfl) (loopsOK_of (ls := []) (by kernel_rfl) trivial) (fun v => by kernel_rfl)

def s_l1Abs_sh : FSh := ⟨[(.one (.si .i64))], []⟩

def s_l1Abs_fo : List FO := [⟨[(.one (.si .i64))], []⟩]
noncomputable def s_l1Abs_t : Int → T Int := fun n =>
  (.sub (s_l1Most (n, (w64 (0 - n)))) fun z0 =>
  (.ret z0))
noncomputable def s_l1Abs (v : Int) : Option Int := (s_l1Abs_t v).run
noncomputable def s_l1Abs_E : TEnv := (E0.add1 n_s_l1Most s_l1Most_sh s_l1Most_fo s_l1Most)
theorem s_l1Abs_Eok : (s_l1Abs_E).OK := (E0ok.add1 s_l1Most_ok)
noncomputable def s_l1Abs_told : Nat → Option SealT := fun id => none
theorem s_l1Abs_ok : FOK Tryd.prog n_s_l1Abs s_l1Abs_sh s_l1Abs_fo s_l1Abs :=
  fn_ok (E := s_l1Abs_E) (s_l1Abs_Eok) (told := s_l1Abs_told) (fl := []) (c := bodyOf fn_s_l1Abs) (s := s_l1Abs_sh) (l := s_l1Abs_fo) (tree := s_l1Abs_t) fnat_s_l1Abs (by kernel_rfl) (by kernel_rfl) (by kernel_rfl) (loopsOK_of (ls := []) (by kernel_rfl) trivial) (fun v => by kernel_rfl)

theorem s_l1Abs_val (x : Int) (h : -9000000000000000000 ≤ x ∧ x ≤ 9000000000000000000) : s_l1Abs x = some (if x > -x then x else -x) := by
  have w : w64 (0 - x) = -x := by rw [w64_id (by omega) (by omega)]; omega
  rw [s_l1Abs, s_l1Abs_t, T.run_sub, w, s_l1Most, s_l1Most_t, T.run_test]
  by_cases h : x > -x
  · rw [if_pos (decide_eq_true h), T.run_ret, Option.bind_some, T.run_ret, if_pos h]
  · rw [if_neg (by rw [decide_eq_true_eq]; exact h), T.run_ret, Option.bind_some, T.run_ret, if_neg h]


def s_l1Sign_sh : FSh := ⟨[(.one (.si .i64))], []⟩

def s_l1Sign_fo : List FO := [⟨[(.one (.si .i64))], []⟩]
noncomputable def s_l1Sign_t : Int → T Int := fun n =>
  (.test (decide (n > 0))
  (.ret (1 : Int))
  (.test (decide (n < 0))
   (.ret (-1))
   (.ret (0 : Int))))
noncomputable def s_l1Sign (v : Int) : Option Int := (s_l1Sign_t v).run
noncomputable def s_l1Sign_E : TEnv := E0
theorem s_l1Sign_Eok : (s_l1Sign_E).OK := E0ok
noncomputable def s_l1Sign_told : Nat → Option SealT := fun id => none
theorem s_l1Sign_ok : FOK Tryd.prog n_s_l1Sign s_l1Sign_sh s_l1Sign_fo s_l1Sign :=
  fn_ok (E := s_l1Sign_E) (s_l1Sign_Eok) (told := s_l1Sign_told) (fl := []) (c := bodyOf fn_s_l1Sign) (s := s_l1Sign_sh) (l := s_l1Sign_fo) (tree := s_l1Sign_t) fnat_s_l1Sign (by kernel_rfl) (by kernel_rfl) (by kernel_rfl) (loopsOK_of (ls := []) (by kernel_rfl) trivial) (fun v => by kernel_rfl)

def s_FixedSign_sh : FSh := ⟨[(.ag [(.si .i64), (.si .i64), (.si .i64), (.si .i64)])], []⟩

def s_FixedSign_fo : List FO := [⟨[(.one (.si .i64)), (.one .sb)], []⟩]
noncomputable def s_FixedSign_t : (Int × Int × Int × Int) → T (Int × Bool) := fun (m_0, m_1, m_2, m_3) =>
  (.sub (s_mxGood (m_0, (m_1, (m_2, m_3)))) fun z0 =>
  (.test (! z0)
  (.ret ((0 : Int), false))
  (.sub (s_l1Abs (w64 (m_0 + m_3))) fun z1 =>
   (.sub (s_l1Sign (w64 (z1 - 2))) fun z2 =>
   (.ret (z2, true))))))
noncomputable def s_FixedSign (v : (Int × Int × Int × Int)) : Option (Int × Bool) := (s_FixedSign_t v).run
noncomputable def s_FixedSign_E : TEnv := (((E0.add1 n_s_mxGood s_mxGood_sh s_mxGood_fo s_mxGood).add1 n_s_l1Abs s_l1Abs_sh s_l1Abs_fo s_l1Abs).add1 n_s_l1Sign s_l1Sign_sh s_l1Sign_fo s_l1Sign)
theorem s_FixedSign_Eok : (s_FixedSign_E).OK := (((E0ok.add1 s_mxGood_ok).add1 s_l1Abs_ok).add1 s_l1Sign_ok)
noncomputable def s_FixedSign_told : Nat → Option SealT := fun id => none
theorem s_FixedSign_ok : FOK Tryd.prog n_s_FixedSign s_FixedSign_sh s_FixedSign_fo s_FixedSign :=
  fn_ok (E := s_FixedSign_E) (s_FixedSign_Eok) (told := s_FixedSign_told) (fl := []) (c := bodyOf fn_s_FixedSign) (s := s_FixedSign_sh) (l := s_FixedSign_fo) (tree := s_FixedSign_t) fnat_s_FixedSign (by kernel_rfl) (by kernel_rfl) (by kernel_rfl) (loopsOK_of (ls := []) (by kernel_rfl) trivial) (fun v => by kernel_rfl)

theorem s_FixedSign_eq (m : M4) : s_FixedSign m = some (if good4 m then (fsg (m.1 + m.2.2.2), true) else (0, false)) := by
  obtain ⟨a, b, c, d⟩ := m
  simp only [s_FixedSign, s_FixedSign_t, T.run, s_mxGood_eq, Option.bind_some]
  cases h1 : good4 (a, b, c, d) with
  | false => simp
  | true =>
    rw [good4_iff] at h1
    rw [w64_id (z := a + d) (by omega) (by omega), s_l1Abs_val _ (by omega)]
    have ht : -2000000000 ≤ a + d ∧ a + d ≤ 2000000000 := by omega
    simp only []
    generalize a + d = t at ht
    simp only [Option.bind_some, Bool.not_true, Bool.false_eq_true, if_false, if_true]
    rw [w64_id (by split <;> omega) (by split <;> omega)]
    simp only [s_l1Sign, s_l1Sign_t, T.run, fsg, decide_eq_true_eq]
    by_cases h1 : -2 < t ∧ t < 2
    · rw [if_neg (by split <;> omega), if_pos (by split <;> omega), if_pos h1]; rfl
    · rw [if_neg h1]
      by_cases h2 : t = 2 ∨ t = -2
      · rw [if_neg (by split <;> omega), if_neg (by split <;> omega), if_pos h2]; rfl
      · rw [if_pos (by split <;> omega), if_neg h2]; rfl


def strconv_Itoa_sh : FSh := ⟨[.one (.si .i64)], []⟩
def strconv_Itoa_fo : List FO := [⟨[.one .ss], []⟩]
def strconv_Itoa (x : Int) : Option (List UInt8) := if -9223372036854775808 ≤ x ∧ x ≤ 9223372036854775807 then some (Lib.itoa x) else none
def strconv_Itoa_ren : Shelf.Ren := ⟨fun k => if k = 171 then 58 else if k = 243 then 67 else if k = 246 then 72 else if k = 283 then 75 else if k = 284 then 76 else if k = 285 then 77 else if k = 286 then 78 else if k = 129 then 82 else if k = 317 then 81 else if k = 318 then 83 else if k = 319 then 84 else if k = 320 then 85 else if k = 337 then 86 else if k = 338 then 87 else k, fun k => if k = 3 then 3 else if k = 9 then 9 else if k = 2 then 2 else if k = 4 then 4 else if k = 171 then 85 else if k = 0 then 0 else if k = 53 then 45 else if k = 37 then 22 else if k = 5 then 5 else if k = 173 then 88 else if k = 212 then 94 else if k = 51 then 95 else if k = 20 then 20 else if k = 213 then 96 else if k = 46 then 81 else if k = 232 then 99 else if k = 233 then 100 else k, fun k => if k = 17 then 0 else if k = 18 then 2 else if k = 19 then 3 else k⟩
theorem strconv_Itoa_lay : LaysM.n171 Tryd.prog strconv_Itoa_ren :=
  { mixed := by kernel_rfl, f129 := by kernel_rfl, f171 := by kernel_rfl, f243 := by kernel_rfl, f246 := by kernel_rfl, f283 := by kernel_rfl, f284 := by kernel_rfl, f285 := by kernel_rfl, f286 := by kernel_rfl, f317 := by kernel_rfl, f318 := by kernel_rfl, f319 := by kernel_rfl, f320 := by kernel_rfl, f337 := by kernel_rfl, f338 := by kernel_rfl, t0 := by kernel_rfl, a0 := fun w => by kernel_rfl, z0 := fun w => by kernel_rfl, v0 := fun w => by kernel_rfl, t2 := by kernel_rfl, a2 := fun w => by kernel_rfl, z2 := fun w => by kernel_rfl, v2 := fun w => by kernel_rfl, t3 := by kernel_rfl, a3 := fun w => by kernel_rfl, z3 := fun w => by kernel_rfl, v3 := fun w => by kernel_rfl, t4 := by kernel_rfl, a4 := fun w => by kernel_rfl, z4 := fun w => by kernel_rfl, v4 := fun w => by kernel_rfl, t5 := by kernel_rfl, a5 := fun w => by kernel_rfl, z5 := fun w => by kernel_rfl, v5 := fun w => by kernel_rfl, t9 := by kernel_rfl, a9 := fun w => by kernel_rfl, z9 := fun w => by kernel_rfl, v9 := fun w => by kernel_rfl, t20 := by kernel_rfl, a20 := fun w => by kernel_rfl, z20 := fun w => by kernel_rfl, v20 := fun w => by kernel_rfl, t37 := by kernel_rfl, a37 := fun w => by kernel_rfl, z37 := fun w => by kernel_rfl, v37 := fun w => by kernel_rfl, t46 := by kernel_rfl, a46 := fun w => by kernel_rfl, z46 := fun w => by kernel_rfl, v46 := fun w => by kernel_rfl, t51 := by kernel_rfl, a51 := fun w => by kernel_rfl, z51 := fun w => by kernel_rfl, v51 := fun w => by kernel_rfl, t53 := by kernel_rfl, a53 := fun w => by kernel_rfl, z53 := fun w => by kernel_rfl, v53 := fun w => by kernel_rfl, t171 := by kernel_rfl, a171 := fun w => by kernel_rfl, z171 := fun w => by kernel_rfl, v171 := fun w => by kernel_rfl, t173 := by kernel_rfl, a173 := fun w => by kernel_rfl, z173 := fun w => by kernel_rfl, v173 := fun w => by kernel_rfl, t212 := by kernel_rfl, a212 := fun w => by kernel_rfl, z212 := fun w => by kernel_rfl, v212 := fun w => by kernel_rfl, t213 := by kernel_rfl, a213 := fun w => by kernel_rfl, z213 := fun w => by kernel_rfl, t232 := by kernel_rfl, a232 := fun w => by kernel_rfl, z232 := fun w => by kernel_rfl, v232 := fun w => by kernel_rfl, t233 := by kernel_rfl, a233 := fun w => by kernel_rfl, z233 := fun w => by kernel_rfl, v233 := fun w => by kernel_rfl, g17 := by kernel_rfl, g18 := by kernel_rfl, g19 := by kernel_rfl, i0 := by kernel_rfl, i2 := by kernel_rfl, i3 := by kernel_rfl, i4 := by kernel_rfl, i5 := by kernel_rfl, i9 := by kernel_rfl, i20 := by kernel_rfl, i37 := by kernel_rfl, i46 := by kernel_rfl, i51 := by kernel_rfl, i53 := by kernel_rfl, i171 := by kernel_rfl, i173 := by kernel_rfl, i212 := by kernel_rfl, i232 := by kernel_rfl, i233 := by kernel_rfl, m17 := by kernel_rfl, m18 := by kernel_rfl, m19 := by kernel_rfl }
theorem strconv_Itoa_ok : FOK Tryd.prog n_strconv_Itoa strconv_Itoa_sh strconv_Itoa_fo strconv_Itoa :=
  strItoaAll_ok ⟨_, fnat_strconv_Itoa, by kernel_rfl, by kernel_rfl⟩ (ρr := strconv_Itoa_ren) rfl strconv_Itoa_lay (by kernel_rfl) (.head _)

def strings_Join_sh : FSh := ⟨[.one (.rw 0 0), .one .ss], [.row 0 .str]⟩
def strings_Join_fo : List FO := [⟨[.one .ss], [.row 0 .str]⟩]
def strings_Join (v : (Unit × List UInt8) × List (List UInt8)) : Option (List UInt8 × List (List UInt8)) := if v.2.length ≤ 140737488355328 ∧ (Lib.join v.2 v.1.2).length ≤ 140737488355328 then some (Lib.join v.2 v.1.2, v.2) else none
def strings_Join_ren : Shelf.Ren := ⟨fun k => if k = 156 then 59 else if k = 165 then 68 else if k = 166 then 69 else if k = 169 then 70 else if k = 240 then 73 else if k = 241 then 74 else if k = 276 then 79 else if k = 277 then 80 else k, fun k => if k = 31 then 65 else if k = 9 then 9 else if k = 3 then 3 else if k = 4 then 4 else if k = 0 then 0 else if k = 20 then 20 else if k = 72 then 75 else if k = 76 then 79 else if k = 70 then 73 else if k = 37 then 22 else if k = 75 then 78 else if k = 127 then 84 else if k = 164 then 90 else if k = 5 then 5 else if k = 80 then 59 else k, fun k => k⟩
theorem strings_Join_lay : Lays.n156 Tryd.prog strings_Join_ren :=
  { mixed := by kernel_rfl, f156 := by kernel_rfl, f165 := by kernel_rfl, f166 := by kernel_rfl, f169 := by kernel_rfl, f240 := by kernel_rfl, f241 := by kernel_rfl, f276 := by kernel_rfl, f277 := by kernel_rfl, t0 := by kernel_rfl, a0 := fun w => by kernel_rfl, z0 := fun w => by kernel_rfl, v0 := fun w => by kernel_rfl, t3 := by kernel_rfl, a3 := fun w => by kernel_rfl, z3 := fun w => by kernel_rfl, v3 := fun w => by kernel_rfl, t4 := by kernel_rfl, a4 := fun w => by kernel_rfl, z4 := fun w => by kernel_rfl, v4 := fun w => by kernel_rfl, t9 := by kernel_rfl, a9 := fun w => by kernel_rfl, z9 := fun w => by kernel_rfl, v9 := fun w => by kernel_rfl, t20 := by kernel_rfl, a20 := fun w => by kernel_rfl, z20 := fun w => by kernel_rfl, v20 := fun w => by kernel_rfl, t31 := by kernel_rfl, a31 := fun w => by kernel_rfl, z31 := fun w => by kernel_rfl, v31 := fun w => by kernel_rfl, t37 := by kernel_rfl, a37 := fun w => by kernel_rfl, z37 := fun w => by kernel_rfl, v37 := fun w => by kernel_rfl, t70 := by kernel_rfl, a70 := fun w => by kernel_rfl, z70 := fun w => by kernel_rfl, v70 := fun w => by kernel_rfl, t72 := by kernel_rfl, a72 := fun w => by kernel_rfl, z72 := fun w => by kernel_rfl, v72 := fun w => by kernel_rfl, t75 := by kernel_rfl, a75 := fun w => by kernel_rfl, z75 := fun w => by kernel_rfl, v75 := fun w => by kernel_rfl, t76 := by kernel_rfl, a76 := fun w => by kernel_rfl, z76 := fun w => by kernel_rfl, v76 := fun w => by kernel_rfl, t127 := by kernel_rfl, a127 := fun w => by kernel_rfl, z127 := fun w => by kernel_rfl, v127 := fun w => by kernel_rfl, t164 := by kernel_rfl, a164 := fun w => by kernel_rfl, z164 := fun w => by kernel_rfl, v164 := fun w => by kernel_rfl }
theorem strings_Join_ext : Builder.Extra Tryd.prog strings_Join_ren :=
  { sizeBuilder := by kernel_rfl, liesBuilder := by kernel_rfl, t5 := by kernel_rfl, a5 := fun w => by kernel_rfl, z5 := fun w => by kernel_rfl, v5 := fun w => by kernel_rfl, infoByte := by kernel_rfl, cellsByte := by kernel_rfl, sizeByte := by kernel_rfl, neB5 := by decide }
theorem strings_Join_ok : FOK Tryd.prog n_strings_Join strings_Join_sh strings_Join_fo strings_Join :=
  strJoin_ok ⟨_, fnat_strings_Join, by kernel_rfl, by kernel_rfl⟩ (ρr := strings_Join_ren) rfl strings_Join_lay strings_Join_ext

def i_numbersText_sh : FSh := ⟨[(.one (.sl (.int .i64) false false)), (.one .ss)], []⟩

def i_numbersText_L3_sh : LSh := ⟨(fun ex => match ex with | .norm => [(1, none), (5, none), (9, none), (10, none), (11, none)] | .exit i => if i = 0 then [(1, none), (5, none)] else [] | .ret => [(4, none)]), [(1, (.one .ss)), (5, (.one (.rw 0 0))), (9, (.one (.sl (.int .i64) false false))), (10, (.one (.si .i64))), (11, (.one (.si .i64)))], [(.row 0 .str)], [⟨(.exit 0), [(1, (.one .ss)), (5, (.one (.rw 0 0)))], [(.row 0 .str)]⟩], [], []⟩
noncomputable def i_numbersText_L3_step : ((List UInt8 × Unit × List (Int) × Int × Int) × List (List UInt8)) → T (((List UInt8 × Unit × List (Int) × Int × Int) × List (List UInt8)) ⊕ ((List UInt8 × Unit) × List (List UInt8))) := fun ((sign, (), t9, t10, t11), words) =>
  (.test (decide (t11 < t10))
  (.test (decide ((0 ≤ t11) ∧ (t11 < ((List.length t9) : Int))))
   (.sub (t9[(Int.toNat t11)]?) fun z0 =>
    (.sub (strconv_Itoa z0) fun z1 =>
    (.test (decide (1 ≤ (List.length (List.set (List.replicate 1 ([] : List (UInt8))) 0 z1))))
    (.test (decide ((0 + (List.length words)) ≤ (List.length words)))
     (.test (decide ((2 * (((List.length words) + (List.length (win (List.set (List.replicate 1 ([] : List (UInt8))) 0 z1) 0 1))) * 17)) ≤ 140737488355328))
      (.test (decide ((0 = 0) ∧ (((List.length words) + (List.length (win (List.set (List.replicate 1 ([] : List (UInt8))) 0 z1) 0 1))) = (List.length ((win words 0 (List.length words)) ++ (win (List.set (List.replicate 1 ([] : List (UInt8))) 0 z1) 0 1))))))
       (.ret (Sum.inl ((sign, ((), (t9, (t10, (w64 (t11 + 1)))))), ((win words 0 (List.length words)) ++ (win (List.set (List.replicate 1 ([] : List (UInt8))) 0 z1) 0 1)))))
       .fail)
      .fail)
     .fail)
    .fail)))
   .fail)
  (.test (decide ((0 = 0) ∧ ((List.length words) = (List.length words))))
   (.ret (Sum.inr ((sign, ()), words)))
   .fail))
noncomputable def i_numbersText_L3 (v : ((List UInt8 × Unit × List (Int) × Int × Int) × List (List UInt8))) : Option ((List UInt8 × Unit) × List (List UInt8)) := loopO (fun v => (i_numbersText_L3_step v).run) v

def i_numbersText_fo : List FO := [⟨[(.one .ss)], []⟩]
noncomputable def i_numbersText_t : (List (Int) × List UInt8) → T (List UInt8) := fun (list, sign) =>
  (.test true
  (.sub (i_numbersText_L3 ((sign, ((), (list, (((List.length list) : Int), (0 : Int))))), (List.replicate 0 ([] : List (UInt8))))) fun z0 =>
   (.test (decide ((0 = 0) ∧ ((List.length z0.2) = (List.length z0.2))))
   (.sub (strings_Join (((), z0.1.1), z0.2)) fun z1 =>
    (.ret z1.1))
   .fail))
  .fail)
noncomputable def i_numbersText (v : (List (Int) × List UInt8)) : Option (List UInt8) := (i_numbersText_t v).run
noncomputable def i_numbersText_E : TEnv := ((E0.add1 n_strconv_Itoa strconv_Itoa_sh strconv_Itoa_fo strconv_Itoa).add1 n_strings_Join strings_Join_sh strings_Join_fo strings_Join)
theorem i_numbersText_Eok : (i_numbersText_E).OK := ((E0ok.add1 strconv_Itoa_ok).add1 strings_Join_ok)
noncomputable def i_numbersText_told : Nat → Option SealT := fun id => if id = 3 then some (LSh.told i_numbersText_L3_sh 0 (i_numbersText_L3_step)) else none
theorem i_numbersText_L3_ok : ToldOK Tryd.prog 0 (loopAt (bodyOf fn_i_numbersText) [0]) (LSh.told i_numbersText_L3_sh 0 (i_numbersText_L3_step)) :=
  loop_ok (E := i_numbersText_E) (i_numbersText_Eok) (told := i_numbersText_told) (l := i_numbersText_L3_sh) (step := i_numbersText_L3_step) (loopsOK_of (ls := []) (by kernel_rfl) trivial) (by kernel_rfl) (fun v => by kernel_rfl)
theorem i_numbersText_ok : FOK Tryd.prog n_i_numbersText i_numbersText_sh i_numbersText_fo i_numbersText :=
  fn_ok (E := i_numbersText_E) (i_numbersText_Eok) (told := i_numbersText_told) (fl := []) (c := bodyOf fn_i_numbersText) (s := i_numbersText_sh) (l := i_numbersText_fo) (tree := i_numbersText_t) fnat_i_numbersText (by kernel_rfl) (by kernel_rfl) (by kernel_rfl) (loopsOK_of (ls := [loopAt (bodyOf fn_i_numbersText) [0]]) (by kernel_rfl) ⟨.inr ⟨_, by kernel_rfl, i_numbersText_L3_ok⟩, trivial⟩) (fun v => by kernel_rfl)

theorem i_numbersText_L3_eq (p : List Int) (sign : List UInt8) (hl : p.length ≤ 1000) (hp : ∀ x ∈ p, -9223372036854775808 ≤ x ∧ x ≤ 9223372036854775807) : ∀ (m k : Nat) (out : List (List UInt8)), k + m = p.length → out.length = k →
    i_numbersText_L3 ((sign, ((), (p, ((p.length : Int), (k : Int))))), out) = some ((sign, ()), out ++ (p.drop k).map Lib.itoa) := by
  intro m
  induction m with
  | zero =>
    intro k out hk ho
    rw [List.drop_of_length_le (by omega)]
    simp only [i_numbersText_L3]
    refine loopO_done ?_
    rw [i_numbersText_L3_step, T.run_test, if_neg (by rw [decide_eq_true_eq]; omega), T.run_test, if_pos (by simp), T.run_ret]
    simp
  | succ m ih =>
    intro k out hk ho
    have hlt : k < p.length := by omega
    have hx := hp p[k] (List.getElem_mem hlt)
    have w1 : w64 ((k : Int) + 1) = ((k + 1 : Nat) : Int) := by rw [w64_id (by omega) (by omega)]; omega
    have ih := ih (k + 1) (out ++ [Lib.itoa p[k]]) (by omega) (by simp [ho])
    have hone : win (List.set (List.replicate 1 ([] : List UInt8)) 0 (Lib.itoa p[k])) 0 1 = [Lib.itoa p[k]] := rfl
    have hi : strconv_Itoa p[k] = some (Lib.itoa p[k]) := by unfold strconv_Itoa; rw [if_pos hx]
    rw [List.drop_eq_getElem_cons hlt, List.map_cons]
    simp only [i_numbersText_L3] at ih ⊢
    rw [show out ++ Lib.itoa p[k] :: ((p.drop (k + 1)).map Lib.itoa) = out ++ [Lib.itoa p[k]] ++ ((p.drop (k + 1)).map Lib.itoa) by simp, ← ih]
    refine loopO_next ?_
    rw [i_numbersText_L3_step, T.run_test, if_pos (decide_eq_true (by omega)), T.run_test, if_pos (decide_eq_true (by omega)), T.run_sub, Int.toNat_natCast, List.getElem?_eq_getElem hlt, Option.bind_some, T.run_sub, hi, Option.bind_some, T.run_test, if_pos (by simp), T.run_test, if_pos (by simp), hone, win_all,
      T.run_test, if_pos (decide_eq_true (by simp only [List.length_cons, List.length_nil]; omega)), T.run_test, if_pos (by simp), T.run_ret, w1]
theorem i_numbersText_eq (p : List Int) (sign : List UInt8) (hl : p.length ≤ 1000) (hp : ∀ x ∈ p, -9223372036854775808 ≤ x ∧ x ≤ 9223372036854775807) (hj : (Lib.join (p.map Lib.itoa) sign).length ≤ 140737488355328) :
    i_numbersText (p, sign) = some (Lib.join (p.map Lib.itoa) sign) := by
  have hL := i_numbersText_L3_eq p sign hl hp p.length 0 [] (by omega) rfl
  rw [Int.natCast_zero, List.drop_zero, List.nil_append] at hL
  have hJ : strings_Join (((), sign), p.map Lib.itoa) = some (Lib.join (p.map Lib.itoa) sign, p.map Lib.itoa) := by
    unfold strings_Join
    rw [if_pos ⟨by simp only [List.length_map]; omega, hj⟩]
  rw [i_numbersText, i_numbersText_t, T.run_test, if_pos rfl, T.run_sub, List.replicate_zero, hL, Option.bind_some, T.run_test, if_pos (by simp), T.run_sub, hJ, Option.bind_some, T.run_ret]


def s_l1Num_sh : FSh := ⟨[(.one (.si .i64))], []⟩

def s_l1Num_fo : List FO := [⟨[(.one .ss)], []⟩]

noncomputable def s_l1Num_t (recv : Int → Option (List UInt8)) : Int → T (List UInt8) := fun n =>
  (.test (decide (n < 10))
  (.test (decide (1 ≤ (List.length (List.set (List.replicate 1 (0 : Int)) 0 (wu8 (w64 (48 + n)))))))
   (.ret (List.map (fun z => UInt8.ofNat z.toNat) (win (List.set (List.replicate 1 (0 : Int)) 0 (wu8 (w64 (48 + n)))) 0 1)))
   .fail)
  (.test true
   (.sub (recv (w64 (Int.tdiv n (10 : Int)))) fun z0 =>
    (.test true
    (.test (decide (1 ≤ (List.length (List.set (List.replicate 1 (0 : Int)) 0 (wu8 (w64 (48 + (Int.tmod n (10 : Int)))))))))
     (.test (decide (((List.length z0) + (List.length (List.map (fun z => UInt8.ofNat z.toNat) (win (List.set (List.replicate 1 (0 : Int)) 0 (wu8 (w64 (48 + (Int.tmod n (10 : Int)))))) 0 1)))) ≤ 140737488355328))
      (.ret (z0 ++ (List.map (fun z => UInt8.ofNat z.toNat) (win (List.set (List.replicate 1 (0 : Int)) 0 (wu8 (w64 (48 + (Int.tmod n (10 : Int)))))) 0 1))))
      .fail)
     .fail)
    .fail))
   .fail))
noncomputable def s_l1Num_f (recv : Int → Option (List UInt8)) (v : Int) : Option (List UInt8) := (s_l1Num_t recv v).run
noncomputable def s_l1Num : Int → Option (List UInt8) := recF s_l1Num_f
noncomputable def s_l1Num_E (recv : Int → Option (List UInt8)) : TEnv := (E0.add1 n_s_l1Num s_l1Num_sh s_l1Num_fo recv)
theorem s_l1Num_Eok (recv : Int → Option (List UInt8)) (hrec : FOK Tryd.prog n_s_l1Num s_l1Num_sh s_l1Num_fo recv) : (s_l1Num_E recv).OK := (E0ok.add1 hrec)
noncomputable def s_l1Num_told (recv : Int → Option (List UInt8)) : Nat → Option SealT := fun id => none
theorem s_l1Num_okr (recv : Int → Option (List UInt8)) (hrec : FOK Tryd.prog n_s_l1Num s_l1Num_sh s_l1Num_fo recv) : FOK Tryd.prog n_s_l1Num s_l1Num_sh s_l1Num_fo (s_l1Num_f recv) :=
  fn_ok (E := s_l1Num_E recv) (s_l1Num_Eok recv hrec) (told := s_l1Num_told recv) (fl := []) (c := bodyOf fn_s_l1Num) (s := s_l1Num_sh) (l := s_l1Num_fo) (tree := s_l1Num_t recv) fnat_s_l1Num (by kernel_rfl) (by kernel_rfl) (by kernel_rfl) (loopsOK_of (ls := []) (by kernel_rfl) trivial) (fun v => by kernel_rfl)
theorem s_l1Num_ok : FOK Tryd.prog n_s_l1Num s_l1Num_sh s_l1Num_fo s_l1Num := FOK.rec (fun F h => s_l1Num_okr F h) recLim

theorem s_l1Num_digit {x : Int} (h : 0 ≤ x ∧ x ≤ 9) : s_l1Num x = some [UInt8.ofNat (48 + x.toNat)] := by
  have key : ∀ k, 0 < k → recN s_l1Num_f k x = some [UInt8.ofNat (48 + x.toNat)] := by
    intro k hk
    match k, hk with
    | k + 1, _ =>
      show s_l1Num_f (recN s_l1Num_f k) x = _
      rw [s_l1Num_f, s_l1Num_t, T.run_test, if_pos (decide_eq_true (by omega)), T.run_test, if_pos (by simp), T.run_ret]
      have : x = 0 ∨ x = 1 ∨ x = 2 ∨ x = 3 ∨ x = 4 ∨ x = 5 ∨ x = 6 ∨ x = 7 ∨ x = 8 ∨ x = 9 := by omega
      rcases this with rfl | rfl | rfl | rfl | rfl | rfl | rfl | rfl | rfl | rfl <;> rfl
  exact key recLim (by decide)

theorem s_l1Num_len (u : Nat) : (Lib.decDigits u).length ≤ u + 1 := by
  induction u using Nat.strongRecOn with
  | ind u ih =>
    rw [Lib.decDigits]
    split
    · simp
    · have := ih (u / 10) (by omega)
      simp only [List.length_append, List.length_cons, List.length_nil]; omega
theorem s_l1Num_dig (d : Nat) (h : d < 10) : List.map (fun (z : Int) => UInt8.ofNat z.toNat) (win (List.set (List.replicate 1 (0 : Int)) 0 (wu8 (w64 (48 + (d : Int))))) 0 1) = [UInt8.ofNat (48 + d)] := by
  have : d = 0 ∨ d = 1 ∨ d = 2 ∨ d = 3 ∨ d = 4 ∨ d = 5 ∨ d = 6 ∨ d = 7 ∨ d = 8 ∨ d = 9 := by omega
  rcases this with rfl | rfl | rfl | rfl | rfl | rfl | rfl | rfl | rfl | rfl <;> rfl
theorem s_l1Num_key : ∀ (k u : Nat), u < 10 ^ (k + 1) → u < 10000000000 → recN s_l1Num_f (k + 1) (u : Int) = some (Lib.decDigits u) := by
  intro k
  induction k with
  | zero =>
    intro u hu hb
    show s_l1Num_f (recN s_l1Num_f 0) u = _
    rw [s_l1Num_f, s_l1Num_t, T.run_test, Lib.decDigits, dif_pos (by omega), if_pos (decide_eq_true (by omega)), T.run_test, if_pos (by simp), T.run_ret, s_l1Num_dig u (by omega)]
  | succ k ih =>
    intro u hu hb
    show s_l1Num_f (recN s_l1Num_f (k + 1)) u = _
    rw [s_l1Num_f, s_l1Num_t, T.run_test, Lib.decDigits]
    by_cases h : u < 10
    · rw [dif_pos h, if_pos (decide_eq_true (by omega)), T.run_test, if_pos (by simp), T.run_ret, s_l1Num_dig u h]
    · have e1 : w64 (Int.tdiv (u : Int) 10) = ((u / 10 : Nat) : Int) := by
        have : Int.tdiv (u : Int) 10 = ((u / 10 : Nat) : Int) := rfl
        rw [this, w64_id (by omega) (by omega)]
      have e2 : Int.tmod (u : Int) 10 = ((u % 10 : Nat) : Int) := rfl
      have hp : u / 10 < 10 ^ (k + 1) := by
        rw [Nat.pow_succ] at hu; omega
      have hl := s_l1Num_len (u / 10)
      rw [dif_neg h, if_neg (by rw [decide_eq_true_eq]; omega), T.run_test, if_pos rfl, T.run_sub, e1, ih (u / 10) hp (by omega), Option.bind_some, T.run_test, if_pos rfl, T.run_test, if_pos (by simp), e2, s_l1Num_dig _ (by omega), T.run_test, if_pos (decide_eq_true (by simp only [List.length_cons, List.length_nil]; omega)), T.run_ret]
theorem s_l1Num_all (u : Nat) (h : u < 10000000000) : s_l1Num (u : Int) = some (Lib.decDigits u) := by
  have := s_l1Num_key (recLim - 1) u (Nat.lt_of_lt_of_le h (Nat.le_trans (by decide : 10000000000 ≤ 10 ^ 10) (Nat.pow_le_pow_right (by omega) (by decide)))) h
  exact this


def s_l1Int_sh : FSh := ⟨[(.one (.si .i64))], []⟩

def s_l1Int_fo : List FO := [⟨[(.one .ss)], []⟩]
noncomputable def s_l1Int_t : Int → T (List UInt8) := fun n =>
  (.test (decide (n < 0))
  (.sub (s_l1Num (w64 (0 - n))) fun z0 =>
   (.test (decide ((1 + (List.length z0)) ≤ 140737488355328))
   (.ret ([(45 : UInt8)] ++ z0))
   .fail))
  (.sub (s_l1Num n) fun z1 =>
   (.ret z1)))
noncomputable def s_l1Int (v : Int) : Option (List UInt8) := (s_l1Int_t v).run
noncomputable def s_l1Int_E : TEnv := (E0.add1 n_s_l1Num s_l1Num_sh s_l1Num_fo s_l1Num)
theorem s_l1Int_Eok : (s_l1Int_E).OK := (E0ok.add1 s_l1Num_ok)
noncomputable def s_l1Int_told : Nat → Option SealT := fun id => none
theorem s_l1Int_ok : FOK Tryd.prog n_s_l1Int s_l1Int_sh s_l1Int_fo s_l1Int :=
  fn_ok (E := s_l1Int_E) (s_l1Int_Eok) (told := s_l1Int_told) (fl := []) (c := bodyOf fn_s_l1Int) (s := s_l1Int_sh) (l := s_l1Int_fo) (tree := s_l1Int_t) fnat_s_l1Int (by kernel_rfl) (by kernel_rfl) (by kernel_rfl) (loopsOK_of (ls := []) (by kernel_rfl) trivial) (fun v => by kernel_rfl)

theorem s_l1Int_eq (x : Int) (h : -1000000000 ≤ x ∧ x ≤ 1000000000) : s_l1Int x = some (Lib.itoa x) := by
  rw [s_l1Int, s_l1Int_t, T.run_test, Lib.itoa]
  by_cases hx : x < 0
  · have e : w64 (0 - x) = ((x.natAbs : Nat) : Int) := by rw [w64_id (by omega) (by omega)]; omega
    have hl := s_l1Num_len x.natAbs
    rw [if_pos (decide_eq_true hx), if_pos hx, T.run_sub, e, s_l1Num_all _ (by omega), Option.bind_some, T.run_test, if_pos (decide_eq_true (by omega)), T.run_ret]
    rfl
  · have e : x = ((x.toNat : Nat) : Int) := by omega
    have hs := s_l1Num_all x.toNat (by omega)
    rw [← e] at hs
    rw [if_neg (by rw [decide_eq_true_eq]; exact hx), if_neg hx, T.run_sub, hs, Option.bind_some, T.run_ret]
theorem s_l1Int_len (x : Int) (h : -1000000000 ≤ x ∧ x ≤ 1000000000) : (Lib.itoa x).length ≤ 1000000002 := by
  unfold Lib.itoa
  have h1 := s_l1Num_len x.natAbs
  have h2 := s_l1Num_len x.toNat
  split
  · simp only [List.length_cons]; omega
  · omega


end Go.Proofs.W
