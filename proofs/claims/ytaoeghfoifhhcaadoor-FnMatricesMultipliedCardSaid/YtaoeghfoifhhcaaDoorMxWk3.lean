/- Functions of the program, walked, and what they compute. -/
import Derived.Test.YtaoeghfoifhhcaaDoorMxWk2
set_option linter.unusedVariables false
set_option linter.unusedSimpArgs false
set_option maxRecDepth 100000
set_option maxHeartbeats 4000000
namespace Go.Proofs.W
open Go Go.Gm Go.Proofs
open Go.RowKit Go.Shelf
def s_MatrixText_sh : FSh := ⟨[(.ag [(.si .i64), (.si .i64), (.si .i64), (.si .i64)])], []⟩

def s_MatrixText_fo : List FO := [⟨[(.one .ss), (.one .sb)], []⟩]
noncomputable def s_MatrixText_t : (Int × Int × Int × Int) → T (List UInt8 × Bool) := fun (m_0, m_1, m_2, m_3) =>
  (.sub (s_mxGood (m_0, (m_1, (m_2, m_3)))) fun z0 =>
  (.test (! z0)
  (.ret (([] : List (UInt8)), false))
  (.sub (s_l1Int m_0) fun z1 =>
   (.test (decide (((List.length z1) + 1) ≤ 140737488355328))
   (.sub (s_l1Int m_1) fun z2 =>
    (.test (decide (((List.length (z1 ++ [(44 : UInt8)])) + (List.length z2)) ≤ 140737488355328))
    (.test (decide (((List.length ((z1 ++ [(44 : UInt8)]) ++ z2)) + 1) ≤ 140737488355328))
     (.sub (s_l1Int m_2) fun z3 =>
      (.test (decide (((List.length (((z1 ++ [(44 : UInt8)]) ++ z2) ++ [(47 : UInt8)])) + (List.length z3)) ≤ 140737488355328))
      (.test (decide (((List.length ((((z1 ++ [(44 : UInt8)]) ++ z2) ++ [(47 : UInt8)]) ++ z3)) + 1) ≤ 140737488355328))
       (.sub (s_l1Int m_3) fun z4 =>
        (.test (decide (((List.length (((((z1 ++ [(44 : UInt8)]) ++ z2) ++ [(47 : UInt8)]) ++ z3) ++ [(44 : UInt8)])) + (List.length z4)) ≤ 140737488355328))
        (.ret (((((((z1 ++ [(44 : UInt8)]) ++ z2) ++ [(47 : UInt8)]) ++ z3) ++ [(44 : UInt8)]) ++ z4), true))
        .fail))
       .fail)
      .fail))
     .fail)
    .fail))
   .fail))))
noncomputable def s_MatrixText (v : (Int × Int × Int × Int)) : Option (List UInt8 × Bool) := (s_MatrixText_t v).run
noncomputable def s_MatrixText_E : TEnv := ((E0.add1 n_s_mxGood s_mxGood_sh s_mxGood_fo s_mxGood).add1 n_s_l1Int s_l1Int_sh s_l1Int_fo s_l1Int)
theorem s_MatrixText_Eok : (s_MatrixText_E).OK := ((E0ok.add1 s_mxGood_ok).add1 s_l1Int_ok)
noncomputable def s_MatrixText_told : Nat → Option SealT := fun id => none
theorem s_MatrixText_ok : FOK Tryd.prog n_s_MatrixText s_MatrixText_sh s_MatrixText_fo s_MatrixText :=
  fn_ok (E := s_MatrixText_E) (s_MatrixText_Eok) (told := s_MatrixText_told) (fl := []) (c := bodyOf fn_s_MatrixText) (s := s_MatrixText_sh) (l := s_MatrixText_fo) (tree := s_MatrixText_t) fnat_s_MatrixText (by kernel_rfl) (by kernel_rfl) (by kernel_rfl) (loopsOK_of (ls := []) (by kernel_rfl) trivial) (fun v => by kernel_rfl)

def txM (m : M4) : List UInt8 := Lib.itoa m.1 ++ [44] ++ Lib.itoa m.2.1 ++ [47] ++ Lib.itoa m.2.2.1 ++ [44] ++ Lib.itoa m.2.2.2
theorem s_MatrixText_eq (m : M4) : s_MatrixText m = some (if good4 m then (txM m, true) else ([], false)) := by
  obtain ⟨a, b, c, d⟩ := m
  rw [s_MatrixText, s_MatrixText_t, T.run_sub, s_mxGood_eq, Option.bind_some, T.run_test]
  cases h : good4 (a, b, c, d) with
  | false => rfl
  | true =>
    rw [good4_iff] at h
    obtain ⟨ha, hb, hc, hd, _⟩ := h
    have la := s_l1Int_len a ha
    have lb := s_l1Int_len b hb
    have lc := s_l1Int_len c hc
    have ld := s_l1Int_len d hd
    rw [if_neg (by simp), T.run_sub, s_l1Int_eq a ha, Option.bind_some, T.run_test, if_pos (decide_eq_true (by omega)),
      T.run_sub, s_l1Int_eq b hb, Option.bind_some, T.run_test, if_pos (decide_eq_true (by simp only [List.length_append, List.length_cons, List.length_nil]; omega)), T.run_test, if_pos (decide_eq_true (by simp only [List.length_append, List.length_cons, List.length_nil]; omega)),
      T.run_sub, s_l1Int_eq c hc, Option.bind_some, T.run_test, if_pos (decide_eq_true (by simp only [List.length_append, List.length_cons, List.length_nil]; omega)), T.run_test, if_pos (decide_eq_true (by simp only [List.length_append, List.length_cons, List.length_nil]; omega)),
      T.run_sub, s_l1Int_eq d hd, Option.bind_some, T.run_test, if_pos (decide_eq_true (by simp only [List.length_append, List.length_cons, List.length_nil]; omega)), T.run_ret]
    rfl


def i_MatrixText_sh : FSh := ⟨[(.ag [(.si .i64), (.si .i64), (.si .i64), (.si .i64)])], []⟩

def i_MatrixText_fo : List FO := [⟨[(.one .ss), (.one .sb)], []⟩]
noncomputable def i_MatrixText_t : (Int × Int × Int × Int) → T (List UInt8 × Bool) := fun (m_0, m_1, m_2, m_3) =>
  (.sub (i_IsMatrix (m_0, (m_1, (m_2, m_3)))) fun z0 =>
  (.test (! z0)
  (.ret (([] : List (UInt8)), false))
  (.test (decide (2 ≤ (List.length (List.set (List.set (List.replicate 2 (0 : Int)) 0 m_0) 1 m_1))))
   (.sub (i_numbersText ((win (List.set (List.set (List.replicate 2 (0 : Int)) 0 m_0) 1 m_1) 0 2), [(44 : UInt8)])) fun z1 =>
    (.test (decide (((List.length z1) + 1) ≤ 140737488355328))
    (.test (decide (2 ≤ (List.length (List.set (List.set (List.replicate 2 (0 : Int)) 0 m_2) 1 m_3))))
     (.sub (i_numbersText ((win (List.set (List.set (List.replicate 2 (0 : Int)) 0 m_2) 1 m_3) 0 2), [(44 : UInt8)])) fun z2 =>
      (.test (decide (((List.length (z1 ++ [(47 : UInt8)])) + (List.length z2)) ≤ 140737488355328))
      (.ret (((z1 ++ [(47 : UInt8)]) ++ z2), true))
      .fail))
     .fail)
    .fail))
   .fail)))
noncomputable def i_MatrixText (v : (Int × Int × Int × Int)) : Option (List UInt8 × Bool) := (i_MatrixText_t v).run
noncomputable def i_MatrixText_E : TEnv := ((E0.add1 n_i_IsMatrix i_IsMatrix_sh i_IsMatrix_fo i_IsMatrix).add1 n_i_numbersText i_numbersText_sh i_numbersText_fo i_numbersText)
theorem i_MatrixText_Eok : (i_MatrixText_E).OK := ((E0ok.add1 i_IsMatrix_ok).add1 i_numbersText_ok)
noncomputable def i_MatrixText_told : Nat → Option SealT := fun id => none
theorem i_MatrixText_ok : FOK Tryd.prog n_i_MatrixText i_MatrixText_sh i_MatrixText_fo i_MatrixText :=
  fn_ok (E := i_MatrixText_E) (i_MatrixText_Eok) (told := i_MatrixText_told) (fl := []) (c := bodyOf fn_i_MatrixText) (s := i_MatrixText_sh) (l := i_MatrixText_fo) (tree := i_MatrixText_t) fnat_i_MatrixText (by kernel_rfl) (by kernel_rfl) (by kernel_rfl) (loopsOK_of (ls := []) (by kernel_rfl) trivial) (fun v => by kernel_rfl)

theorem i_MatrixText_eq (m : M4) : i_MatrixText m = some (if good4 m then (txM m, true) else ([], false)) := by
  obtain ⟨a, b, c, d⟩ := m
  rw [i_MatrixText, i_MatrixText_t, T.run_sub, i_IsMatrix_eq, Option.bind_some, T.run_test]
  cases h : good4 (a, b, c, d) with
  | false => rfl
  | true =>
    rw [good4_iff] at h
    obtain ⟨ha, hb, hc, hd, _⟩ := h
    have la := s_l1Int_len a ha
    have lb := s_l1Int_len b hb
    have lc := s_l1Int_len c hc
    have ld := s_l1Int_len d hd
    have two : ∀ x y : Int, (-1000000000 ≤ x ∧ x ≤ 1000000000) → (-1000000000 ≤ y ∧ y ≤ 1000000000) → i_numbersText ((win (List.set (List.set (List.replicate 2 (0 : Int)) 0 x) 1 y) 0 2), [(44 : UInt8)]) = some (Lib.itoa x ++ [44] ++ Lib.itoa y) := by
      intro x y hx hy
      have lx := s_l1Int_len x hx
      have ly := s_l1Int_len y hy
      have e : win (List.set (List.set (List.replicate 2 (0 : Int)) 0 x) 1 y) 0 2 = [x, y] := rfl
      have ej : Lib.join ([x, y].map Lib.itoa) [44] = Lib.itoa x ++ [44] ++ Lib.itoa y := by simp [Lib.join]
      rw [e, i_numbersText_eq [x, y] [44] (by simp) (by intro z hz; simp at hz; rcases hz with rfl | rfl <;> omega) (by rw [ej]; simp only [List.length_append, List.length_cons, List.length_nil]; omega), ej]
    rw [if_neg (by simp), T.run_test, if_pos (by simp), T.run_sub, two a b ha hb, Option.bind_some, T.run_test, if_pos (decide_eq_true (by simp only [List.length_append, List.length_cons, List.length_nil]; omega)), T.run_test, if_pos (by simp), T.run_sub, two c d hc hd, Option.bind_some, T.run_test, if_pos (decide_eq_true (by simp only [List.length_append, List.length_cons, List.length_nil]; omega)), T.run_ret]
    simp [txM]


def s_IsMatrix_sh : FSh := ⟨[(.ag [(.si .i64), (.si .i64), (.si .i64), (.si .i64)])], []⟩

def s_IsMatrix_fo : List FO := [⟨[(.one .sb)], []⟩]
noncomputable def s_IsMatrix_t : (Int × Int × Int × Int) → T Bool := fun (m_0, m_1, m_2, m_3) =>
  (.sub (s_mxGood (m_0, (m_1, (m_2, m_3)))) fun z0 =>
  (.ret z0))
noncomputable def s_IsMatrix (v : (Int × Int × Int × Int)) : Option Bool := (s_IsMatrix_t v).run
noncomputable def s_IsMatrix_E : TEnv := (E0.add1 n_s_mxGood s_mxGood_sh s_mxGood_fo s_mxGood)
theorem s_IsMatrix_Eok : (s_IsMatrix_E).OK := (E0ok.add1 s_mxGood_ok)
noncomputable def s_IsMatrix_told : Nat → Option SealT := fun id => none
theorem s_IsMatrix_ok : FOK Tryd.prog n_s_IsMatrix s_IsMatrix_sh s_IsMatrix_fo s_IsMatrix :=
  fn_ok (E := s_IsMatrix_E) (s_IsMatrix_Eok) (told := s_IsMatrix_told) (fl := []) (c := bodyOf fn_s_IsMatrix) (s := s_IsMatrix_sh) (l := s_IsMatrix_fo) (tree := s_IsMatrix_t) fnat_s_IsMatrix (by kernel_rfl) (by kernel_rfl) (by kernel_rfl) (loopsOK_of (ls := []) (by kernel_rfl) trivial) (fun v => by kernel_rfl)

def s_DrawIsConjugateBy_sh : FSh := ⟨[(.one (.sl (.int .u8) false true))], []⟩

def s_DrawIsConjugateBy_fo : List FO := [⟨[(.ag [(.si .i64), (.si .i64), (.si .i64), (.si .i64)]), (.ag [(.si .i64), (.si .i64), (.si .i64), (.si .i64)]), (.ag [(.si .i64), (.si .i64), (.si .i64), (.si .i64)])], []⟩]
noncomputable def s_DrawIsConjugateBy_t : List (Int) → T ((Int × Int × Int × Int) × (Int × Int × Int × Int) × (Int × Int × Int × Int)) := fun code =>
  (.sub (s_l1Cur_matrix ((), (code, ((0 : Int), (0 : Int))))) fun z0 =>
  (.sub (s_l1Cur_matrix ((), (z0.2.1, (z0.2.2.1, z0.2.2.2)))) fun z1 =>
  (.sub (s_mxGood (z0.1.1, (z0.1.2.1, (z0.1.2.2.1, z0.1.2.2.2)))) fun z2 =>
  (.test z2
  (.sub (s_mxGood (z1.1.1, (z1.1.2.1, (z1.1.2.2.1, z1.1.2.2.2)))) fun z3 =>
   (.test z3
   (.sub (s_l1Cur_one (((), (2 : Int)), (z1.2.1, (z1.2.2.1, z1.2.2.2)))) fun z4 =>
    (.test z4.1
    (.sub (s_mxTimes ((z1.1.1, (z1.1.2.1, (z1.1.2.2.1, z1.1.2.2.2))), (z0.1.1, (z0.1.2.1, (z0.1.2.2.1, z0.1.2.2.2))))) fun z5 =>
     (.sub (s_mxInverse (z1.1.1, (z1.1.2.1, (z1.1.2.2.1, z1.1.2.2.2)))) fun z6 =>
     (.sub (s_mxTimes ((z5.1, (z5.2.1, (z5.2.2.1, z5.2.2.2))), (z6.1, (z6.2.1, (z6.2.2.1, z6.2.2.2))))) fun z7 =>
     (.ret ((z0.1.1, (z0.1.2.1, (z0.1.2.2.1, z0.1.2.2.2))), ((z7.1, (z7.2.1, (z7.2.2.1, z7.2.2.2))), (z1.1.1, (z1.1.2.1, (z1.1.2.2.1, z1.1.2.2.2)))))))))
    (.sub (s_l1Cur_matrix ((), (z4.2.1, (z4.2.2.1, z4.2.2.2)))) fun z8 =>
     (.ret ((z0.1.1, (z0.1.2.1, (z0.1.2.2.1, z0.1.2.2.2))), ((z8.1.1, (z8.1.2.1, (z8.1.2.2.1, z8.1.2.2.2))), (z1.1.1, (z1.1.2.1, (z1.1.2.2.1, z1.1.2.2.2)))))))))
   (.sub (s_l1Cur_matrix ((), (z1.2.1, (z1.2.2.1, z1.2.2.2)))) fun z9 =>
    (.ret ((z0.1.1, (z0.1.2.1, (z0.1.2.2.1, z0.1.2.2.2))), ((z9.1.1, (z9.1.2.1, (z9.1.2.2.1, z9.1.2.2.2))), (z1.1.1, (z1.1.2.1, (z1.1.2.2.1, z1.1.2.2.2)))))))))
  (.sub (s_l1Cur_matrix ((), (z1.2.1, (z1.2.2.1, z1.2.2.2)))) fun z10 =>
   (.ret ((z0.1.1, (z0.1.2.1, (z0.1.2.2.1, z0.1.2.2.2))), ((z10.1.1, (z10.1.2.1, (z10.1.2.2.1, z10.1.2.2.2))), (z1.1.1, (z1.1.2.1, (z1.1.2.2.1, z1.1.2.2.2)))))))))))
noncomputable def s_DrawIsConjugateBy (v : List (Int)) : Option ((Int × Int × Int × Int) × (Int × Int × Int × Int) × (Int × Int × Int × Int)) := (s_DrawIsConjugateBy_t v).run
noncomputable def s_DrawIsConjugateBy_E : TEnv := (((((E0.add1 n_s_l1Cur_matrix s_l1Cur_matrix_sh s_l1Cur_matrix_fo s_l1Cur_matrix).add1 n_s_mxGood s_mxGood_sh s_mxGood_fo s_mxGood).add1 n_s_l1Cur_one s_l1Cur_one_sh s_l1Cur_one_fo s_l1Cur_one).add1 n_s_mxTimes s_mxTimes_sh s_mxTimes_fo s_mxTimes).add1 n_s_mxInverse s_mxInverse_sh s_mxInverse_fo s_mxInverse)
theorem s_DrawIsConjugateBy_Eok : (s_DrawIsConjugateBy_E).OK := (((((E0ok.add1 s_l1Cur_matrix_ok).add1 s_mxGood_ok).add1 s_l1Cur_one_ok).add1 s_mxTimes_ok).add1 s_mxInverse_ok)
noncomputable def s_DrawIsConjugateBy_told : Nat → Option SealT := fun id => none
theorem s_DrawIsConjugateBy_ok : FOK Tryd.prog n_s_DrawIsConjugateBy s_DrawIsConjugateBy_sh s_DrawIsConjugateBy_fo s_DrawIsConjugateBy :=
  fn_ok (E := s_DrawIsConjugateBy_E) (s_DrawIsConjugateBy_Eok) (told := s_DrawIsConjugateBy_told) (fl := []) (c := bodyOf fn_s_DrawIsConjugateBy) (s := s_DrawIsConjugateBy_sh) (l := s_DrawIsConjugateBy_fo) (tree := s_DrawIsConjugateBy_t) fnat_s_DrawIsConjugateBy (by kernel_rfl) (by kernel_rfl) (by kernel_rfl) (loopsOK_of (ls := []) (by kernel_rfl) trivial) (fun v => by kernel_rfl)

def i_IsConjugateBy_sh : FSh := ⟨[(.ag [(.si .i64), (.si .i64), (.si .i64), (.si .i64)]), (.ag [(.si .i64), (.si .i64), (.si .i64), (.si .i64)]), (.ag [(.si .i64), (.si .i64), (.si .i64), (.si .i64)])], []⟩

def i_IsConjugateBy_fo : List FO := [⟨[(.one .sb), (.one .sb)], []⟩]
noncomputable def i_IsConjugateBy_t : ((Int × Int × Int × Int) × (Int × Int × Int × Int) × (Int × Int × Int × Int)) → T (Bool × Bool) := fun ((m_0, m_1, m_2, m_3), (k_0, k_1, k_2, k_3), (g_0, g_1, g_2, g_3)) =>
  (.sub (i_TimesMatrix ((g_0, (g_1, (g_2, g_3))), (m_0, (m_1, (m_2, m_3))))) fun z0 =>
  (.test (! z0.2)
  (.ret (false, false))
  (.sub (i_IsMatrix (k_0, (k_1, (k_2, k_3)))) fun z1 =>
   (.test (! z1)
   (.ret (false, false))
   (.sub (i_inverse (g_0, (g_1, (g_2, g_3)))) fun z2 =>
    (.sub (i_TimesMatrix ((z0.1.1, (z0.1.2.1, (z0.1.2.2.1, z0.1.2.2.2))), (z2.1, (z2.2.1, (z2.2.2.1, z2.2.2.2))))) fun z3 =>
    (.test (! z3.2)
    (.ret (false, false))
    (.ret (((z3.1.1 == k_0) && ((z3.1.2.1 == k_1) && ((z3.1.2.2.1 == k_2) && ((z3.1.2.2.2 == k_3) && true)))), true)))))))))
noncomputable def i_IsConjugateBy (v : ((Int × Int × Int × Int) × (Int × Int × Int × Int) × (Int × Int × Int × Int))) : Option (Bool × Bool) := (i_IsConjugateBy_t v).run
noncomputable def i_IsConjugateBy_E : TEnv := (((E0.add1 n_i_TimesMatrix i_TimesMatrix_sh i_TimesMatrix_fo i_TimesMatrix).add1 n_i_IsMatrix i_IsMatrix_sh i_IsMatrix_fo i_IsMatrix).add1 n_i_inverse i_inverse_sh i_inverse_fo i_inverse)
theorem i_IsConjugateBy_Eok : (i_IsConjugateBy_E).OK := (((E0ok.add1 i_TimesMatrix_ok).add1 i_IsMatrix_ok).add1 i_inverse_ok)
noncomputable def i_IsConjugateBy_told : Nat → Option SealT := fun id => none
theorem i_IsConjugateBy_ok : FOK Tryd.prog n_i_IsConjugateBy i_IsConjugateBy_sh i_IsConjugateBy_fo i_IsConjugateBy :=
  fn_ok (E := i_IsConjugateBy_E) (i_IsConjugateBy_Eok) (told := i_IsConjugateBy_told) (fl := []) (c := bodyOf fn_i_IsConjugateBy) (s := i_IsConjugateBy_sh) (l := i_IsConjugateBy_fo) (tree := i_IsConjugateBy_t) fnat_i_IsConjugateBy (by kernel_rfl) (by kernel_rfl) (by kernel_rfl) (loopsOK_of (ls := []) (by kernel_rfl) trivial) (fun v => by kernel_rfl)

def conjR (m k g : M4) : Bool × Bool := if good4 g && good4 m && good4 (mul4 g m) && good4 k && good4 (mul4 (mul4 g m) (invM g)) then (decide (mul4 (mul4 g m) (invM g) = k), true) else (false, false)
theorem i_IsConjugateBy_eq (m k g : M4) : i_IsConjugateBy (m, k, g) = some (conjR m k g) := by
  obtain ⟨m0, m1, m2, m3⟩ := m
  obtain ⟨k0, k1, k2, k3⟩ := k
  obtain ⟨g0, g1, g2, g3⟩ := g
  simp only [i_IsConjugateBy, i_IsConjugateBy_t, T.run, i_IsMatrix_eq, i_TimesMatrix_eq, Option.bind_some, conjR]
  cases h1 : good4 (g0, g1, g2, g3) with
  | false => simp
  | true =>
    cases h2 : good4 (m0, m1, m2, m3) with
    | false => simp
    | true =>
      generalize hW : mul4 (g0, g1, g2, g3) (m0, m1, m2, m3) = W
      cases h3 : good4 W with
      | false => simp
      | true =>
        cases h4 : good4 (k0, k1, k2, k3) with
        | false => simp
        | true =>
          rw [i_inverse_good h1]
          simp only [Bool.and_true, Bool.true_and, if_true, Option.bind_some, Bool.not_true, Bool.false_eq_true, if_false, h3, good4_inv h1]
          generalize mul4 W (invM (g0, g1, g2, g3)) = V
          cases h5 : good4 V with
          | false => simp
          | true =>
            simp only [if_true, Bool.not_true, Bool.false_eq_true, if_false]
            have := eq4 V (k0, k1, k2, k3)
            simp only [Bool.and_true] at this ⊢
            rw [← this]


def s_IsConjugateBy_sh : FSh := ⟨[(.ag [(.si .i64), (.si .i64), (.si .i64), (.si .i64)]), (.ag [(.si .i64), (.si .i64), (.si .i64), (.si .i64)]), (.ag [(.si .i64), (.si .i64), (.si .i64), (.si .i64)])], []⟩

def s_IsConjugateBy_fo : List FO := [⟨[(.one .sb), (.one .sb)], []⟩]
noncomputable def s_IsConjugateBy_t : ((Int × Int × Int × Int) × (Int × Int × Int × Int) × (Int × Int × Int × Int)) → T (Bool × Bool) := fun ((m_0, m_1, m_2, m_3), (k_0, k_1, k_2, k_3), (g_0, g_1, g_2, g_3)) =>
  (.sub (s_mxGood (m_0, (m_1, (m_2, m_3)))) fun z0 =>
  (.test (! z0)
  (.ret (false, false))
  (.sub (s_mxGood (k_0, (k_1, (k_2, k_3)))) fun z1 =>
   (.test (! z1)
   (.ret (false, false))
   (.sub (s_mxGood (g_0, (g_1, (g_2, g_3)))) fun z2 =>
    (.test (! z2)
    (.ret (false, false))
    (.sub (s_mxTimes ((g_0, (g_1, (g_2, g_3))), (m_0, (m_1, (m_2, m_3))))) fun z3 =>
     (.sub (s_mxIf (z3.1, (z3.2.1, (z3.2.2.1, z3.2.2.2)))) fun z4 =>
     (.test (! z4.2)
     (.ret (false, false))
     (.sub (s_mxInverse (g_0, (g_1, (g_2, g_3)))) fun z5 =>
      (.sub (s_mxTimes ((z4.1.1, (z4.1.2.1, (z4.1.2.2.1, z4.1.2.2.2))), (z5.1, (z5.2.1, (z5.2.2.1, z5.2.2.2))))) fun z6 =>
      (.sub (s_mxIf (z6.1, (z6.2.1, (z6.2.2.1, z6.2.2.2)))) fun z7 =>
      (.test (! z7.2)
      (.ret (false, false))
      (.ret (((z7.1.1 == k_0) && ((z7.1.2.1 == k_1) && ((z7.1.2.2.1 == k_2) && ((z7.1.2.2.2 == k_3) && true)))), true)))))))))))))))
noncomputable def s_IsConjugateBy (v : ((Int × Int × Int × Int) × (Int × Int × Int × Int) × (Int × Int × Int × Int))) : Option (Bool × Bool) := (s_IsConjugateBy_t v).run
noncomputable def s_IsConjugateBy_E : TEnv := ((((E0.add1 n_s_mxGood s_mxGood_sh s_mxGood_fo s_mxGood).add1 n_s_mxTimes s_mxTimes_sh s_mxTimes_fo s_mxTimes).add1 n_s_mxIf s_mxIf_sh s_mxIf_fo s_mxIf).add1 n_s_mxInverse s_mxInverse_sh s_mxInverse_fo s_mxInverse)
theorem s_IsConjugateBy_Eok : (s_IsConjugateBy_E).OK := ((((E0ok.add1 s_mxGood_ok).add1 s_mxTimes_ok).add1 s_mxIf_ok).add1 s_mxInverse_ok)
noncomputable def s_IsConjugateBy_told : Nat → Option SealT := fun id => none
theorem s_IsConjugateBy_ok : FOK Tryd.prog n_s_IsConjugateBy s_IsConjugateBy_sh s_IsConjugateBy_fo s_IsConjugateBy :=
  fn_ok (E := s_IsConjugateBy_E) (s_IsConjugateBy_Eok) (told := s_IsConjugateBy_told) (fl := []) (c := bodyOf fn_s_IsConjugateBy) (s := s_IsConjugateBy_sh) (l := s_IsConjugateBy_fo) (tree := s_IsConjugateBy_t) fnat_s_IsConjugateBy (by kernel_rfl) (by kernel_rfl) (by kernel_rfl) (loopsOK_of (ls := []) (by kernel_rfl) trivial) (fun v => by kernel_rfl)

theorem s_IsConjugateBy_eq (m k g : M4) : s_IsConjugateBy (m, k, g) = some (conjR m k g) := by
  obtain ⟨m0, m1, m2, m3⟩ := m
  obtain ⟨k0, k1, k2, k3⟩ := k
  obtain ⟨g0, g1, g2, g3⟩ := g
  simp only [s_IsConjugateBy, s_IsConjugateBy_t, T.run, s_mxGood_eq, Option.bind_some, conjR]
  cases h2 : good4 (m0, m1, m2, m3) with
  | false => simp
  | true =>
    cases h4 : good4 (k0, k1, k2, k3) with
    | false => simp
    | true =>
      cases h1 : good4 (g0, g1, g2, g3) with
      | false => simp
      | true =>
        rw [s_mxTimes_eq _ _ (good4_in h1) (good4_in h2)]
        simp only [Option.bind_some, s_mxIf_eq]
        generalize hW : mul4 (g0, g1, g2, g3) (m0, m1, m2, m3) = W
        cases h3 : good4 W with
        | false => simp
        | true =>
          rw [s_mxInverse_good h1]
          simp only [Bool.and_true, Bool.true_and, if_true, Option.bind_some, Bool.not_true, Bool.false_eq_true, if_false]
          have ht := s_mxTimes_eq W (invM (g0, g1, g2, g3)) (good4_in h3) (good4_in (good4_inv h1))
          obtain ⟨w0, w1, w2, w3⟩ := W
          simp only [] at ht ⊢
          rw [ht]
          simp only [Option.bind_some, s_mxIf_eq]
          generalize mul4 (w0, w1, w2, w3) (invM (g0, g1, g2, g3)) = V
          cases h5 : good4 V with
          | false => simp
          | true =>
            simp only [if_true, Bool.not_true, Bool.false_eq_true, if_false]
            have := eq4 V (k0, k1, k2, k3)
            simp only [Bool.and_true] at this ⊢
            rw [← this]



theorem mm_inv_mul (m k : M4) : mul4 (invM k) (invM m) = invM (mul4 m k) := by
  obtain ⟨a, b, c, d⟩ := m
  obtain ⟨e, f, g, h⟩ := k
  simp only [mul4, invM, Prod.mk.injEq]
  refine ⟨?_, ?_, ?_, ?_⟩ <;> grind
theorem mm_tr_comm (m k : M4) : (mul4 m k).1 + (mul4 m k).2.2.2 = (mul4 k m).1 + (mul4 k m).2.2.2 := by
  obtain ⟨a, b, c, d⟩ := m
  obtain ⟨e, f, g, h⟩ := k
  simp only [mul4]
  grind
theorem mm_inv_inv (m : M4) : invM (invM m) = m := by
  obtain ⟨a, b, c, d⟩ := m
  simp [invM]
theorem mm_neg_neg (m : M4) : negM (negM m) = m := by
  obtain ⟨a, b, c, d⟩ := m
  simp [negM]
theorem mm_neg_good {m : M4} (h : good4 m = true) : good4 (negM m) = true := by
  obtain ⟨a, b, c, d⟩ := m
  show good4 (-a, -b, -c, -d) = true
  rw [good4_iff] at h ⊢
  obtain ⟨h1, h2, h3, h4, h5⟩ := h
  refine ⟨by omega, by omega, by omega, by omega, ?_⟩
  rw [Int.neg_mul_neg, Int.neg_mul_neg]; exact h5
theorem mm_tr_inv (m : M4) : (invM m).1 + (invM m).2.2.2 = m.1 + m.2.2.2 := by
  obtain ⟨a, b, c, d⟩ := m
  simp only [invM]; omega
theorem mm_mul_inv {m : M4} (h : good4 m = true) : mul4 m (invM m) = one4 ∧ mul4 (invM m) m = one4 := by
  obtain ⟨a, b, c, d⟩ := m
  rw [good4_iff] at h
  have h5 := h.2.2.2.2
  simp only [mul4, invM, one4, Prod.mk.injEq]
  refine ⟨⟨?_, ?_, ?_, ?_⟩, ?_, ?_, ?_, ?_⟩ <;> grind
theorem mm_conj {m g : M4} (h : good4 g = true) : (mul4 (mul4 g m) (invM g)).1 + (mul4 (mul4 g m) (invM g)).2.2.2 = m.1 + m.2.2.2 := by
  obtain ⟨a, b, c, d⟩ := m
  obtain ⟨e, f, g, i⟩ := g
  rw [good4_iff] at h
  have h5 := h.2.2.2.2
  simp only [mul4, invM]
  grind
theorem mm_pOf_inv (m : M4) (k : Nat) : pOf (invM m) (uk (m.1 + m.2.2.2) k) = ((uk (m.1 + m.2.2.2) k).2 * m.2.2.2 - (uk (m.1 + m.2.2.2) k).1, -((uk (m.1 + m.2.2.2) k).2 * m.2.1), -((uk (m.1 + m.2.2.2) k).2 * m.2.2.1), (uk (m.1 + m.2.2.2) k).2 * m.1 - (uk (m.1 + m.2.2.2) k).1) := by
  obtain ⟨a, b, c, d⟩ := m
  simp only [pOf, invM, Prod.mk.injEq]
  refine ⟨trivial, by grind, by grind, trivial⟩
theorem mm_pOf_invM (m : M4) (k : Nat) : pOf (invM m) (uk (m.1 + m.2.2.2) k) = invM (pOf m (uk (m.1 + m.2.2.2) k)) := by
  rw [mm_pOf_inv]; rfl
theorem mm_one_good : good4 one4 = true := rfl
theorem mm_powK_inv {m : M4} {k : Nat} (h : (powK m k).2 = true) : powK (invM m) k = (invM (powK m k).1, true) ∧ good4 (powK m k).1 = true := by
  unfold powK at h ⊢
  rw [mm_tr_inv, mm_pOf_invM]
  by_cases c : (uB (m.1 + m.2.2.2) k && good4 (pOf m (uk (m.1 + m.2.2.2) k))) = true
  · rw [if_pos c]
    rw [Bool.and_eq_true] at c
    rw [c.1, good4_inv c.2]
    exact ⟨rfl, c.2⟩
  · rw [if_neg c] at h; cases h
/-- The power by the other exponent undoes. -/
theorem mm_back {m : M4} {n : Int} (h : (powR m n).2 = true) : powR m (-n) = (invM (powR m n).1, true) ∧ good4 (powR m n).1 = true := by
  unfold powR at h ⊢
  by_cases c : (good4 m && inB (-20) 20 n) = true
  · rw [if_pos c] at h ⊢
    rw [Bool.and_eq_true, inB_iff] at c
    have c' : inB (-20) 20 (-n) = true := by rw [inB_iff]; omega
    rw [if_pos (by rw [c.1, c']; rfl), Int.natAbs_neg]
    by_cases hn : n < 0
    · rw [if_pos hn] at h ⊢
      have := mm_powK_inv h
      rw [if_neg (by omega)]
      rw [mm_inv_inv] at this
      exact this
    · rw [if_neg hn] at h ⊢
      have := mm_powK_inv h
      by_cases h0 : n = 0
      · subst h0
        rw [if_neg (by decide)]
        have e : powK m 0 = (one4, true) := by
          unfold powK; rw [pOf_zero]; rfl
        show powK m 0 = _ ∧ _
        rw [show (0 : Int).natAbs = 0 from rfl, e]
        exact ⟨rfl, rfl⟩
      · rw [if_pos (by omega)]
        exact this
  · rw [if_neg c] at h; cases h



theorem uk_ne {t : Int} (h : t ≤ -2 ∨ 2 ≤ t) (k : Nat) : (uk t k).1.natAbs < (uk t k).2.natAbs ∨ k = 0 := by
  induction k with
  | zero => exact Or.inr rfl
  | succ k ih =>
    left
    rcases ih with ih | ih
    · have e : (uk t (k + 1)).2 = t * (uk t k).2 - (uk t k).1 := rfl
      have e1 : (uk t (k + 1)).1 = (uk t k).2 := rfl
      rw [e, e1]
      have h2 : 2 * (uk t k).2.natAbs ≤ (t * (uk t k).2).natAbs := by
        rw [Int.natAbs_mul]; exact Nat.mul_le_mul_right _ (by omega)
      omega
    · subst ih; simp [uk]
theorem ord_no (m : M4) : ∀ n, n ≤ 6 → (∀ j, j < n → pOf m (uk (m.1 + m.2.2.2) (6 - j)) ≠ one4) → ordI m n = (0, false) ∧ ordS m n = (0, false) := by
  intro n
  induction n with
  | zero => intro _ _; exact ⟨rfl, rfl⟩
  | succ n ih =>
    intro hn h
    have h0 := h n (by omega)
    obtain ⟨i1, i2⟩ := ih (by omega) (fun j hj => h j (by omega))
    rw [ordI, ordS, decide_eq_false h0, if_neg h0, i1, i2]
    simp
theorem ord_eq (m : M4) (hm : good4 m = true) : ordI m 6 = ordS m 6 := by
  by_cases hall : ∀ j, j < 6 → pOf m (uk (m.1 + m.2.2.2) (6 - j)) ≠ one4
  · obtain ⟨h1, h2⟩ := ord_no m 6 (Nat.le_refl 6) hall
    rw [h1, h2]
  · have hall : ∃ j, j < 6 ∧ pOf m (uk (m.1 + m.2.2.2) (6 - j)) = one4 := by
      refine Classical.byContradiction fun h => hall fun j hj e => h ⟨j, hj, e⟩
    obtain ⟨j, hj, e⟩ := hall
    obtain ⟨a, b, c, d⟩ := m
    obtain ⟨ga, gb, gc, gd, det⟩ := good4_iff.1 hm
    simp only [pOf, one4, Prod.mk.injEq] at e
    obtain ⟨e1, e2, e3, e4⟩ := e
    by_cases hz : (uk (a + d) (6 - j)).2 = 0
    · have ht : a + d = 0 ∨ a + d = 1 ∨ a + d = -1 := by
        refine Classical.byContradiction fun h => ?_
        have := uk_ne (t := a + d) (by omega) (6 - j)
        rw [hz] at this
        simp only [Int.natAbs_zero] at this
        omega
      have g : ∀ x y z w : Int, (-1000000000 ≤ x ∧ x ≤ 1000000000) → (-1000000000 ≤ y ∧ y ≤ 1000000000) → (-1000000000 ≤ z ∧ z ≤ 1000000000) → (-1000000000 ≤ w ∧ w ≤ 1000000000) → x * w - y * z = 1 → good4 (x, y, z, w) = true :=
        fun x y z w h1 h2 h3 h4 h5 => good4_iff.2 ⟨h1, h2, h3, h4, h5⟩
      rcases ht with ht | ht | ht
      · obtain rfl : d = -a := by omega
        have n1 : pOf (a, b, c, -a) (uk 0 1) = (a, b, c, -a) := by simp [pOf, uk]
        have n2 : pOf (a, b, c, -a) (uk 0 2) = (-1, 0, 0, -1) := by simp [pOf, uk]
        have n3 : pOf (a, b, c, -a) (uk 0 3) = (-a, -b, -c, a) := by simp [pOf, uk]
        have n4 : pOf (a, b, c, -a) (uk 0 4) = one4 := by simp [pOf, uk, one4]
        have f1 : (a, b, c, -a) ≠ one4 := by intro h; simp only [one4, Prod.mk.injEq] at h; omega
        have f2 : ((-1, 0, 0, -1) : M4) ≠ one4 := by decide
        have f3 : (-a, -b, -c, a) ≠ one4 := by intro h; simp only [one4, Prod.mk.injEq] at h; omega
        have g3 : good4 (-a, -b, -c, a) = true := g _ _ _ _ (by omega) (by omega) (by omega) (by omega) (by rw [Int.neg_mul_neg, ← det, Int.mul_neg, Int.neg_mul])
        have g4 : good4 one4 = true := by decide
        have g2 : good4 (-1, 0, 0, -1) = true := by decide
        have b4 : uB 0 4 = true := by decide
        simp only [ordI, ordS, ht, Nat.reduceSub, n1, n2, n3, n4, f1, f2, f3, g2, g3, g4, hm, b4, decide_false, Bool.and_false, if_false, if_true, decide_true, Bool.and_true, Bool.false_eq_true]
      · obtain rfl : d = 1 - a := by omega
        have n1 : pOf (a, b, c, 1 - a) (uk 1 1) = (a, b, c, 1 - a) := by simp [pOf, uk]
        have n2 : pOf (a, b, c, 1 - a) (uk 1 2) = (a - 1, b, c, 1 - a - 1) := by simp [pOf, uk]
        have n3 : pOf (a, b, c, 1 - a) (uk 1 3) = (-1, 0, 0, -1) := by simp [pOf, uk]
        have n4 : pOf (a, b, c, 1 - a) (uk 1 4) = (-a, -b, -c, -(1 - a)) := by simp [pOf, uk]
        have n5 : pOf (a, b, c, 1 - a) (uk 1 5) = (-a + 1, -b, -c, -(1 - a) + 1) := by simp [pOf, uk]
        have n6 : pOf (a, b, c, 1 - a) (uk 1 6) = one4 := by simp [pOf, uk, one4]
        have det' : a * (1 - a) = 1 + b * c := by omega
        have x1 : (a - 1) * (1 - a - 1) = a * (1 - a) := by
          rw [show 1 - a - 1 = -a by omega, show 1 - a = -(a - 1) by omega, Int.mul_neg, Int.mul_neg, Int.mul_comm]
        have x2 : -a * -(1 - a) = a * (1 - a) := Int.neg_mul_neg ..
        have x3 : (-a + 1) * (-(1 - a) + 1) = a * (1 - a) := by
          rw [show -(1 - a) + 1 = a by omega, show -a + 1 = 1 - a by omega, Int.mul_comm]
        have x4 : -b * -c = b * c := Int.neg_mul_neg ..
        have f1 : (a, b, c, 1 - a) ≠ one4 := by intro h; simp only [one4, Prod.mk.injEq] at h; omega
        have f2 : (a - 1, b, c, 1 - a - 1) ≠ one4 := by intro h; simp only [one4, Prod.mk.injEq] at h; omega
        have f3 : ((-1, 0, 0, -1) : M4) ≠ one4 := by decide
        have f4 : (-a, -b, -c, -(1 - a)) ≠ one4 := by intro h; simp only [one4, Prod.mk.injEq] at h; omega
        have f5 : (-a + 1, -b, -c, -(1 - a) + 1) ≠ one4 := by intro h; simp only [one4, Prod.mk.injEq] at h; omega
        have g2 : good4 (a - 1, b, c, 1 - a - 1) = true := g _ _ _ _ (by omega) (by omega) (by omega) (by omega) (by rw [x1]; omega)
        have g3 : good4 (-1, 0, 0, -1) = true := by decide
        have g4 : good4 (-a, -b, -c, -(1 - a)) = true := g _ _ _ _ (by omega) (by omega) (by omega) (by omega) (by rw [x2, x4]; omega)
        have g5 : good4 (-a + 1, -b, -c, -(1 - a) + 1) = true := g _ _ _ _ (by omega) (by omega) (by omega) (by omega) (by rw [x3, x4]; omega)
        have g6 : good4 one4 = true := by decide
        have b6 : uB 1 6 = true := by decide
        simp only [ordI, ordS, ht, Nat.reduceSub, n1, n2, n3, n4, n5, n6, f1, f2, f3, f4, f5, g2, g3, g4, g5, g6, hm, b6, decide_false, Bool.and_false, if_false, if_true, decide_true, Bool.and_true, Bool.false_eq_true]
      · obtain rfl : d = -1 - a := by omega
        have n1 : pOf (a, b, c, -1 - a) (uk (-1) 1) = (a, b, c, -1 - a) := by simp [pOf, uk]
        have n2 : pOf (a, b, c, -1 - a) (uk (-1) 2) = (-a - 1, -b, -c, -(-1 - a) - 1) := by simp [pOf, uk]
        have n3 : pOf (a, b, c, -1 - a) (uk (-1) 3) = one4 := by simp [pOf, uk, one4]
        have x1 : (-a - 1) * (-(-1 - a) - 1) = a * (-1 - a) := by
          rw [show -(-1 - a) - 1 = a by omega, show -a - 1 = -1 - a by omega, Int.mul_comm]
        have x4 : -b * -c = b * c := Int.neg_mul_neg ..
        have f1 : (a, b, c, -1 - a) ≠ one4 := by intro h; simp only [one4, Prod.mk.injEq] at h; omega
        have f2 : (-a - 1, -b, -c, -(-1 - a) - 1) ≠ one4 := by intro h; simp only [one4, Prod.mk.injEq] at h; omega
        have g2 : good4 (-a - 1, -b, -c, -(-1 - a) - 1) = true := g _ _ _ _ (by omega) (by omega) (by omega) (by omega) (by rw [x1, x4]; omega)
        have g3 : good4 one4 = true := by decide
        have b3 : uB (-1) 3 = true := by decide
        simp only [ordI, ordS, ht, Nat.reduceSub, n1, n2, n3, f1, f2, g2, g3, hm, b3, decide_false, Bool.and_false, if_false, if_true, decide_true, Bool.and_true, Bool.false_eq_true]
    · have hb : b = 0 := by rcases Int.mul_eq_zero.1 e2 with h | h; exact absurd h hz; exact h
      have hc : c = 0 := by rcases Int.mul_eq_zero.1 e3 with h | h; exact absurd h hz; exact h
      have had : d = a := by
        have h : (uk (a + d) (6 - j)).2 * (d - a) = 0 := by rw [Int.mul_sub]; omega
        rcases Int.mul_eq_zero.1 h with h | h
        · exact absurd h hz
        · omega
      subst hb hc had
      have h1 : d * d = 1 := by omega
      rcases Int.le_total 0 d with h0 | h0
      · obtain ⟨rfl, _⟩ := one_of_mul h0 h0 h1
        decide
      · have h2 : -d * -d = 1 := by rw [Int.neg_mul_neg]; exact h1
        obtain ⟨h3, _⟩ := one_of_mul (a := -d) (d := -d) (by omega) (by omega) h2
        obtain rfl : d = -1 := by omega
        decide



theorem mm_uk_ne {t : Int} (h : t ≤ -2 ∨ 2 ≤ t) (k : Nat) : (uk t k).1.natAbs < (uk t k).2.natAbs ∨ k = 0 := by
  induction k with
  | zero => exact Or.inr rfl
  | succ k ih =>
    left
    rcases ih with ih | ih
    · have e : (uk t (k + 1)).2 = t * (uk t k).2 - (uk t k).1 := rfl
      have e1 : (uk t (k + 1)).1 = (uk t k).2 := rfl
      rw [e, e1]
      have h2 : 2 * (uk t k).2.natAbs ≤ (t * (uk t k).2).natAbs := by
        rw [Int.natAbs_mul]; exact Nat.mul_le_mul_right _ (by omega)
      omega
    · subst ih; simp [uk]
theorem ordI_find (m : M4) : ∀ n, n ≤ 6 → (ordI m n).2 = true → ∃ k, 7 - n ≤ k ∧ k ≤ 6 ∧ ordI m n = ((k : Int), true) ∧ uB (m.1 + m.2.2.2) k = true ∧ good4 (pOf m (uk (m.1 + m.2.2.2) k)) = true ∧ pOf m (uk (m.1 + m.2.2.2) k) = one4 ∧
    ∀ j, 7 - n ≤ j → j < k → ¬ (uB (m.1 + m.2.2.2) j = true ∧ good4 (pOf m (uk (m.1 + m.2.2.2) j)) = true ∧ pOf m (uk (m.1 + m.2.2.2) j) = one4)
  | 0, _, h => by cases h
  | n + 1, hn, h => by
    rw [ordI] at h ⊢
    by_cases c : (uB (m.1 + m.2.2.2) (6 - n) && good4 (pOf m (uk (m.1 + m.2.2.2) (6 - n))) && decide (pOf m (uk (m.1 + m.2.2.2) (6 - n)) = one4)) = true
    · rw [if_pos c]
      simp only [Bool.and_eq_true, decide_eq_true_eq] at c
      exact ⟨6 - n, by omega, by omega, rfl, c.1.1, c.1.2, c.2, fun j h1 h2 => by omega⟩
    · rw [if_neg c] at h ⊢
      obtain ⟨k, h1, h2, h3, h4, h5, h6, h7⟩ := ordI_find m n (by omega) h
      refine ⟨k, by omega, h2, h3, h4, h5, h6, fun j g1 g2 => ?_⟩
      by_cases e : j = 6 - n
      · subst e
        simpa only [Bool.and_eq_true, decide_eq_true_eq, and_assoc] using c
      · exact h7 j (by omega) g2
theorem ordI_has (m : M4) (k : Nat) (hk : k ≤ 6) (h1 : uB (m.1 + m.2.2.2) k = true) (h2 : pOf m (uk (m.1 + m.2.2.2) k) = one4) : ∀ n, n ≤ 6 → 7 - n ≤ k → (ordI m n).2 = true
  | 0, _, h => by omega
  | n + 1, hn, h => by
    rw [ordI]
    by_cases c : (uB (m.1 + m.2.2.2) (6 - n) && good4 (pOf m (uk (m.1 + m.2.2.2) (6 - n))) && decide (pOf m (uk (m.1 + m.2.2.2) (6 - n)) = one4)) = true
    · rw [if_pos c]
    · rw [if_neg c]
      by_cases e : k = 6 - n
      · subst e
        exfalso; apply c
        rw [h1, h2]; rfl
      · exact ordI_has m k hk h1 h2 n (by omega) (by omega)
theorem mm_sign {m : M4} (h : fsg (m.1 + m.2.2.2) = -1) : (ordI m 6).2 = true := by
  unfold fsg at h
  have ht : m.1 + m.2.2.2 = 0 ∨ m.1 + m.2.2.2 = 1 ∨ m.1 + m.2.2.2 = -1 := by
    by_cases c : -2 < m.1 + m.2.2.2 ∧ m.1 + m.2.2.2 < 2
    · omega
    · rw [if_neg c] at h
      split at h <;> omega
  obtain ⟨a, b, c, d⟩ := m
  simp only [] at ht
  rcases ht with ht | ht | ht
  · exact ordI_has _ 4 (by decide) (by simp only [ht]; decide) (by simp only [ht]; simp [pOf, uk, one4]) 6 (by decide) (by decide)
  · exact ordI_has _ 6 (by decide) (by simp only [ht]; decide) (by simp only [ht]; simp [pOf, uk, one4]) 6 (by decide) (by decide)
  · exact ordI_has _ 3 (by decide) (by simp only [ht]; decide) (by simp only [ht]; simp [pOf, uk, one4]) 6 (by decide) (by decide)
theorem mm_order {m : M4} (hg : good4 m = true) (h : (ordI m 6).2 = true) : powR m (ordI m 6).1 = (one4, true) ∧ (ordI m 6).1 ≠ 5 ∧ ¬ (ordI m 6).1 > 6 ∧ ((ordI m 6).1 > 2 → fsg (m.1 + m.2.2.2) = -1) := by
  obtain ⟨k, h1, h2, h3, h4, h5, h6, h7⟩ := ordI_find m 6 (Nat.le_refl 6) h
  rw [h3]
  have hpow : powR m (k : Int) = (one4, true) := by
    have hb : inB (-20) 20 (k : Int) = true := by rw [inB_iff]; omega
    unfold powR powK
    rw [hg, hb, if_pos (show (true && true) = true from rfl), if_neg (show ¬ (k : Int) < 0 by omega), Int.natAbs_natCast, h4, h5, if_pos (show (true && true) = true from rfl), h6]
  refine ⟨hpow, ?_⟩
  obtain ⟨a, b, c, d⟩ := m
  obtain ⟨ga, gb, gc, gd, det⟩ := good4_iff.1 hg
  have e := h6
  simp only [pOf, one4, Prod.mk.injEq] at e
  obtain ⟨e1, e2, e3, e4⟩ := e
  simp only [] at h4 h5 h6 h7 e1 e2 e3 e4 ⊢
  by_cases hz : (uk (a + d) k).2 = 0
  · have ht : a + d = 0 ∨ a + d = 1 ∨ a + d = -1 := by
      refine Classical.byContradiction fun h => ?_
      have := mm_uk_ne (t := a + d) (by omega) k
      rw [hz] at this
      simp only [Int.natAbs_zero] at this
      omega
    have k5 : k ≠ 5 := by
      rintro rfl
      rcases ht with ht | ht | ht <;> rw [ht] at hz <;> exact absurd hz (by decide)
    refine ⟨by omega, by omega, fun _ => ?_⟩
    unfold fsg
    rw [if_pos (by omega)]
  · have k3 : k < 3 := by
      refine Classical.byContradiction fun hk => ?_
      have b0 : b = 0 := by rcases Int.mul_eq_zero.1 e2 with h | h; exact absurd h hz; exact h
      have c0 : c = 0 := by rcases Int.mul_eq_zero.1 e3 with h | h; exact absurd h hz; exact h
      subst b0; subst c0
      have hd : a * d = 1 := by omega
      have hv : a.natAbs ∣ 1 := ⟨d.natAbs, by rw [← Int.natAbs_mul, hd]; rfl⟩
      have ha := Nat.dvd_one.1 hv
      have ha' : a = 1 ∨ a = -1 := by omega
      have had : (a = 1 ∧ d = 1) ∨ (a = -1 ∧ d = -1) := by
        rcases ha' with rfl | rfl <;> omega
      rcases had with ⟨rfl, rfl⟩ | ⟨rfl, rfl⟩
      · exact h7 1 (by omega) (by omega) (by decide)
      · exact h7 2 (by omega) (by omega) (by decide)
    refine ⟨by omega, by omega, fun f => by omega⟩



theorem s_DrawTimesMatrix_some {code : List Int} (h : bytesOK code) : ∃ m k, s_DrawTimesMatrix code = some (m, k) := by
  obtain ⟨⟨a, b, c, d⟩, ⟨c0, c1, c2⟩, e, hc⟩ := matrix_ok (cur0 h) (by omega)
  obtain ⟨⟨a', b', c', d'⟩, _, e', _⟩ := matrix_ok hc (by omega)
  refine ⟨(a, b, c, d), (a', b', c', d'), ?_⟩
  rw [s_DrawTimesMatrix, s_DrawTimesMatrix_t, T.run_sub, e, Option.bind_some, T.run_sub, e', Option.bind_some, T.run_ret]
theorem s_DrawPowerMatrix_some {code : List Int} (h : bytesOK code) : ∃ m n, s_DrawPowerMatrix code = some (m, n) := by
  obtain ⟨⟨a, b, c, d⟩, ⟨c0, c1, c2⟩, e, hc⟩ := matrix_ok (cur0 h) (by omega)
  obtain ⟨v, _, e', _, _⟩ := among_ok [0, 1, 2, 3, -1, -2, 6, 20, -20, 21, -21] hc (by omega) (by simp)
  refine ⟨(a, b, c, d), v, ?_⟩
  rw [s_DrawPowerMatrix, s_DrawPowerMatrix_t, T.run_sub, e, Option.bind_some, T.run_test, if_pos rfl, T.run_sub]
  have e2 : win (List.set (List.set (List.set (List.set (List.set (List.set (List.set (List.set (List.set (List.set (List.set (List.replicate 11 (0 : Int)) 0 (0 : Int)) 1 (1 : Int)) 2 (2 : Int)) 3 (3 : Int)) 4 (-1)) 5 (-2)) 6 (6 : Int)) 7 (20 : Int)) 8 (-20)) 9 (21 : Int)) 10 (-21)) 0 11 = [0, 1, 2, 3, -1, -2, 6, 20, -20, 21, -21] := rfl
  rw [e2, e', Option.bind_some, T.run_ret]
theorem s_DrawOrderOf_some {code : List Int} (h : bytesOK code) : ∃ m, s_DrawOrderOf code = some m := by
  obtain ⟨⟨a, b, c, d⟩, _, e, _⟩ := matrix_ok (cur0 h) (by omega)
  refine ⟨(a, b, c, d), ?_⟩
  have e1 : s_DrawIsMatrix code = some (a, b, c, d) := by
    rw [s_DrawIsMatrix, s_DrawIsMatrix_t, T.run_sub, e, Option.bind_some, T.run_ret]
  rw [s_DrawOrderOf, s_DrawOrderOf_t, T.run_sub, e1, Option.bind_some, T.run_ret]
theorem s_DrawIsConjugateBy_some {code : List Int} (h : bytesOK code) : ∃ m k g, s_DrawIsConjugateBy code = some (m, k, g) := by
  obtain ⟨⟨a, b, c, d⟩, ⟨c0, c1, c2⟩, e, hc⟩ := matrix_ok (cur0 h) (by omega)
  obtain ⟨⟨a', b', c', d'⟩, ⟨d0, d1, d2⟩, e', hc'⟩ := matrix_ok hc (by omega)
  obtain ⟨⟨p, q, r, s⟩, _, e3, _⟩ := matrix_ok hc' (by omega)
  obtain ⟨v, ⟨g0, g1, g2⟩, e4, hc4⟩ := one_ok 2 hc' (by omega)
  obtain ⟨⟨p', q', r', s'⟩, _, e5, _⟩ := matrix_ok hc4 (by omega)
  rw [s_DrawIsConjugateBy, s_DrawIsConjugateBy_t, T.run_sub, e, Option.bind_some, T.run_sub, e', Option.bind_some, T.run_sub, s_mxGood_eq, Option.bind_some, T.run_test]
  by_cases g1' : good4 (a, b, c, d) = true
  · rw [if_pos g1', T.run_sub, s_mxGood_eq, Option.bind_some, T.run_test]
    by_cases g2' : good4 (a', b', c', d') = true
    · rw [if_pos g2', T.run_sub, e4, Option.bind_some, T.run_test]
      by_cases hv : v = true
      · rw [if_pos hv]
        exact ⟨_, _, _, rfl⟩
      · rw [if_neg hv, T.run_sub, e5, Option.bind_some, T.run_ret]
        exact ⟨_, _, _, rfl⟩
    · rw [if_neg g2', T.run_sub, e3, Option.bind_some, T.run_ret]
      exact ⟨_, _, _, rfl⟩
  · rw [if_neg g1', T.run_sub, e3, Option.bind_some, T.run_ret]
    exact ⟨_, _, _, rfl⟩


end Go.Proofs.W
