/- Functions of the program, walked, and what they compute. -/
import Derived.Test.YtlicdnpbkijhjaaIds
set_option linter.unusedVariables false
set_option linter.unusedSimpArgs false
set_option maxRecDepth 100000
set_option maxHeartbeats 4000000
namespace Go.Proofs.W
open Go Go.Gm Go.Proofs
def l_toMatrix_sh : FSh := ⟨[(.ag [(.si .i64), (.si .i64), (.si .i64), (.si .i64)])], []⟩

def l_toMatrix_fo : List FO := [⟨[(.ag [(.si .i64), (.si .i64), (.si .i64), (.si .i64)])], []⟩]
noncomputable def l_toMatrix_t : (Int × Int × Int × Int) → T (Int × Int × Int × Int) := fun (a_0, a_1, a_2, a_3) =>
  (.ret (a_0, (a_1, (a_2, a_3))))
noncomputable def l_toMatrix (v : (Int × Int × Int × Int)) : Option (Int × Int × Int × Int) := (l_toMatrix_t v).run
noncomputable def l_toMatrix_E : TEnv := E0
theorem l_toMatrix_Eok : (l_toMatrix_E).OK := E0ok
noncomputable def l_toMatrix_told : Nat → Option SealT := fun id => none
theorem l_toMatrix_ok : FOK Try.prog n_l_toMatrix l_toMatrix_sh l_toMatrix_fo l_toMatrix :=
  fn_ok (E := l_toMatrix_E) (l_toMatrix_Eok) (told := l_toMatrix_told) (fl := []) (c := bodyOf fn_l_toMatrix) (s := l_toMatrix_sh) (l := l_toMatrix_fo) (tree := l_toMatrix_t) fnat_l_toMatrix (by kernel_rfl) (by kernel_rfl) (by kernel_rfl) (loopsOK_of (ls := []) (by kernel_rfl) trivial) (fun v => by kernel_rfl)

def s_l1In_sh : FSh := ⟨[(.one (.si .i64)), (.one (.si .i64)), (.one (.si .i64))], []⟩

def s_l1In_fo : List FO := [⟨[(.one .sb)], []⟩]
noncomputable def s_l1In_t : (Int × Int × Int) → T Bool := fun (n, lo, hi) =>
  (.test (decide (n ≥ lo))
  (.ret (decide (n ≤ hi)))
  (.ret false))
noncomputable def s_l1In (v : (Int × Int × Int)) : Option Bool := (s_l1In_t v).run
noncomputable def s_l1In_E : TEnv := E0
theorem s_l1In_Eok : (s_l1In_E).OK := E0ok
noncomputable def s_l1In_told : Nat → Option SealT := fun id => none
theorem s_l1In_ok : FOK Try.prog n_s_l1In s_l1In_sh s_l1In_fo s_l1In :=
  fn_ok (E := s_l1In_E) (s_l1In_Eok) (told := s_l1In_told) (fl := []) (c := bodyOf fn_s_l1In) (s := s_l1In_sh) (l := s_l1In_fo) (tree := s_l1In_t) fnat_s_l1In (by kernel_rfl) (by kernel_rfl) (by kernel_rfl) (loopsOK_of (ls := []) (by kernel_rfl) trivial) (fun v => by kernel_rfl)

theorem s_l1In_eq (n low high : Int) : s_l1In (n, low, high) = some (inB low high n) := by
  simp only [s_l1In, s_l1In_t, T.run, ge_iff_le, decide_eq_true_eq, inB]
  by_cases h : low ≤ n <;> simp [h]


def s_l1All_sh : FSh := ⟨[(.one (.sl (.int .i64) false false)), (.one (.si .i64)), (.one (.si .i64))], []⟩

def s_l1All_L2_sh : LSh := ⟨(fun ex => match ex with | .norm => [(1, none), (2, none), (9, none), (10, none), (11, none)] | .exit i => if i = 0 then [] else [] | .ret => [(6, none)]), [(1, (.one (.si .i64))), (2, (.one (.si .i64))), (9, (.one (.sl (.int .i64) false false))), (10, (.one (.si .i64))), (11, (.one (.si .i64)))], [], [⟨.ret, [(6, (.one .sb))], []⟩, ⟨(.exit 0), [], []⟩]⟩
noncomputable def s_l1All_L2_step : (Int × Int × List (Int) × Int × Int) → T ((Int × Int × List (Int) × Int × Int) ⊕ (Bool ⊕ Unit)) := fun (lo, hi, t9, t10, t11) =>
  (.test (decide (t11 < t10))
  (.test (decide ((0 ≤ t11) ∧ (t11 < ((List.length t9) : Int))))
   (.sub (t9[(Int.toNat t11)]?) fun z0 =>
    (.sub (s_l1In (z0, (lo, hi))) fun z1 =>
    (.test (! z1)
    (.ret (Sum.inr (Sum.inl false)))
    (.ret (Sum.inl (lo, (hi, (t9, (t10, (w64 (t11 + 1)))))))))))
   .fail)
  (.ret (Sum.inr (Sum.inr ()))))
noncomputable def s_l1All_L2 (v : (Int × Int × List (Int) × Int × Int)) : Option (Bool ⊕ Unit) := loopO (fun v => (s_l1All_L2_step v).run) v

def s_l1All_fo : List FO := [⟨[(.one .sb)], []⟩]
noncomputable def s_l1All_t : (List (Int) × Int × Int) → T Bool := fun (l, lo, hi) =>
  (.sub (s_l1All_L2 (lo, (hi, (l, (((List.length l) : Int), (0 : Int)))))) fun z0 =>
  (.test (Sum.isLeft z0)
  (.sub (Sum.getLeft? z0) fun z1 =>
   (.ret z1))
  (.sub (Sum.getRight? z0) fun z2 =>
   (.ret true))))
noncomputable def s_l1All (v : (List (Int) × Int × Int)) : Option Bool := (s_l1All_t v).run
noncomputable def s_l1All_E : TEnv := (E0.add1 n_s_l1In s_l1In_sh s_l1In_fo s_l1In)
theorem s_l1All_Eok : (s_l1All_E).OK := (E0ok.add1 s_l1In_ok)
noncomputable def s_l1All_told : Nat → Option SealT := fun id => if id = 2 then some (LSh.told s_l1All_L2_sh 0 (s_l1All_L2_step)) else none
theorem s_l1All_L2_ok : ToldOK Try.prog 0 (loopAt (bodyOf fn_s_l1All) [0]) (LSh.told s_l1All_L2_sh 0 (s_l1All_L2_step)) :=
  loop_ok (E := s_l1All_E) (s_l1All_Eok) (told := s_l1All_told) (l := s_l1All_L2_sh) (step := s_l1All_L2_step) (loopsOK_of (ls := []) (by kernel_rfl) trivial) (by kernel_rfl) (fun v => by kernel_rfl)
theorem s_l1All_ok : FOK Try.prog n_s_l1All s_l1All_sh s_l1All_fo s_l1All :=
  fn_ok (E := s_l1All_E) (s_l1All_Eok) (told := s_l1All_told) (fl := []) (c := bodyOf fn_s_l1All) (s := s_l1All_sh) (l := s_l1All_fo) (tree := s_l1All_t) fnat_s_l1All (by kernel_rfl) (by kernel_rfl) (by kernel_rfl) (loopsOK_of (ls := [loopAt (bodyOf fn_s_l1All) [0]]) (by kernel_rfl) ⟨.inr ⟨_, by kernel_rfl, s_l1All_L2_ok⟩, trivial⟩) (fun v => by kernel_rfl)

theorem s_l1All_eq (l : List Int) (lo hi : Int) (hl : l.length < 4611686018427387904) : s_l1All (l, lo, hi) = some (l.all (inB lo hi)) := by
  have h := loop_any (step := fun v => (s_l1All_L2_step v).run) (xs := l) (fun n => !inB lo hi n) (fun k => (lo, hi, l, (l.length : Int), (k : Int))) (.inl false) (.inr ())
    (fun k x hx => by
      have hk := getElem?_lt hx
      simp only [s_l1All_L2_step, T.run, s_l1In_eq, Option.bind_some, Int.toNat_natCast, hx]
      rw [w64_id (by omega) (by omega)]
      cases inB lo hi x <;> simp [hk])
    (by simp [s_l1All_L2_step, T.run])
  simp only [s_l1All, s_l1All_t, T.run, s_l1All_L2]
  simp only [Int.natCast_zero] at h
  rw [h, ← all_any]
  cases hb : l.any (fun n => !inB lo hi n) <;> simp


def s_mxGood_sh : FSh := ⟨[(.ag [(.si .i64), (.si .i64), (.si .i64), (.si .i64)])], []⟩

def s_mxGood_fo : List FO := [⟨[(.one .sb)], []⟩]
noncomputable def s_mxGood_t : (Int × Int × Int × Int) → T Bool := fun (m_0, m_1, m_2, m_3) =>
  (.test (decide (4 ≤ (List.length (List.set (List.set (List.set (List.set (List.replicate 4 (0 : Int)) 0 m_0) 1 m_1) 2 m_2) 3 m_3))))
  (.sub (s_l1All ((win (List.set (List.set (List.set (List.set (List.replicate 4 (0 : Int)) 0 m_0) 1 m_1) 2 m_2) 3 m_3) 0 4), ((-1000000000), (1000000000 : Int)))) fun z0 =>
   (.test z0
   (.ret ((w64 ((w64 (m_0 * m_3)) - (w64 (m_1 * m_2)))) == 1))
   (.ret false)))
  .fail)
noncomputable def s_mxGood (v : (Int × Int × Int × Int)) : Option Bool := (s_mxGood_t v).run
noncomputable def s_mxGood_E : TEnv := (E0.add1 n_s_l1All s_l1All_sh s_l1All_fo s_l1All)
theorem s_mxGood_Eok : (s_mxGood_E).OK := (E0ok.add1 s_l1All_ok)
noncomputable def s_mxGood_told : Nat → Option SealT := fun id => none
theorem s_mxGood_ok : FOK Try.prog n_s_mxGood s_mxGood_sh s_mxGood_fo s_mxGood :=
  fn_ok (E := s_mxGood_E) (s_mxGood_Eok) (told := s_mxGood_told) (fl := []) (c := bodyOf fn_s_mxGood) (s := s_mxGood_sh) (l := s_mxGood_fo) (tree := s_mxGood_t) fnat_s_mxGood (by kernel_rfl) (by kernel_rfl) (by kernel_rfl) (loopsOK_of (ls := []) (by kernel_rfl) trivial) (fun v => by kernel_rfl)

theorem s_mxGood_eq (m : M4) : s_mxGood m = some (good4 m) := by
  obtain ⟨a, b, c, d⟩ := m
  simp only [s_mxGood, s_mxGood_t, T.run]
  have e : win (List.set (List.set (List.set (List.set (List.replicate 4 (0 : Int)) 0 a) 1 b) 2 c) 3 d) 0 4 = [a, b, c, d] := rfl
  rw [e, s_l1All_eq _ _ _ (by simp)]
  simp only [List.length_set, List.length_replicate, Option.bind_some, good4, List.all_cons, List.all_nil, Bool.and_true]
  cases h : inB (-1000000000) 1000000000 a && (inB (-1000000000) 1000000000 b && (inB (-1000000000) 1000000000 c && inB (-1000000000) 1000000000 d)) with
  | false => simp
  | true =>
    simp only [Bool.and_eq_true, inB_iff] at h
    rw [det_w h.1 h.2.1 h.2.2.1 h.2.2.2]
    simp [beq_int]


def s_mxOne_sh : FSh := ⟨[], []⟩

def s_mxOne_fo : List FO := [⟨[(.ag [(.si .i64), (.si .i64), (.si .i64), (.si .i64)])], []⟩]
noncomputable def s_mxOne_t : Unit → T (Int × Int × Int × Int) := fun () =>
  (.ret ((1 : Int), ((0 : Int), ((0 : Int), (1 : Int)))))
noncomputable def s_mxOne (v : Unit) : Option (Int × Int × Int × Int) := (s_mxOne_t v).run
noncomputable def s_mxOne_E : TEnv := E0
theorem s_mxOne_Eok : (s_mxOne_E).OK := E0ok
noncomputable def s_mxOne_told : Nat → Option SealT := fun id => none
theorem s_mxOne_ok : FOK Try.prog n_s_mxOne s_mxOne_sh s_mxOne_fo s_mxOne :=
  fn_ok (E := s_mxOne_E) (s_mxOne_Eok) (told := s_mxOne_told) (fl := []) (c := bodyOf fn_s_mxOne) (s := s_mxOne_sh) (l := s_mxOne_fo) (tree := s_mxOne_t) fnat_s_mxOne (by kernel_rfl) (by kernel_rfl) (by kernel_rfl) (loopsOK_of (ls := []) (by kernel_rfl) trivial) (fun v => by kernel_rfl)

theorem s_mxOne_eq : s_mxOne () = some one4 := rfl


def s_WordOfMatrix_sh : FSh := ⟨[(.ag [(.si .i64), (.si .i64), (.si .i64), (.si .i64)])], []⟩

def s_WordOfMatrix_L4_sh : LSh := ⟨(fun ex => match ex with | .norm => [(1, none), (4, none)] | .exit i => if i = 0 then [(4, none)] else [] | .ret => [(2, none), (3, none)]), [(1, (.one (.pf 0 0 0))), (4, (.one .ss))], [(.rcd 0 [(.si .i64), (.si .i64), (.si .i64), (.si .i64)])], [⟨.ret, [(2, (.one .ss)), (3, (.one .sb))], []⟩, ⟨(.exit 0), [(4, (.one .ss))], []⟩]⟩
noncomputable def s_WordOfMatrix_L4_step : ((Unit × List UInt8) × (Int × Int × Int × Int)) → T (((Unit × List UInt8) × (Int × Int × Int × Int)) ⊕ ((List UInt8 × Bool) ⊕ List UInt8)) := fun (((), out), (m_0, m_1, m_2, m_3)) =>
  (.sub (s_mxOne ()) fun z0 =>
  (.test (! ((m_0 == z0.1) && ((m_1 == z0.2.1) && ((m_2 == z0.2.2.1) && ((m_3 == z0.2.2.2) && true)))))
  (.test (((List.length out) : Int) == 40)
   (.ret (Sum.inr (Sum.inl ([], false))))
   (.test (decide (m_0 ≤ m_2))
    (.test (decide (m_1 ≤ m_3))
     (.test (decide (((List.length out) + 1) ≤ 140737488355328))
      (.ret (Sum.inl (((), (out ++ [(108 : UInt8)])), (m_0, (m_1, ((w64 (m_2 - m_0)), (w64 (m_3 - m_1))))))))
      .fail)
     (.test (decide (((List.length out) + 1) ≤ 140737488355328))
      (.ret (Sum.inl (((), (out ++ [(114 : UInt8)])), ((w64 (m_0 - m_2)), ((w64 (m_1 - m_3)), (m_2, m_3))))))
      .fail))
    (.test (decide (((List.length out) + 1) ≤ 140737488355328))
     (.ret (Sum.inl (((), (out ++ [(114 : UInt8)])), ((w64 (m_0 - m_2)), ((w64 (m_1 - m_3)), (m_2, m_3))))))
     .fail)))
  (.ret (Sum.inr (Sum.inr out)))))
noncomputable def s_WordOfMatrix_L4 (v : ((Unit × List UInt8) × (Int × Int × Int × Int))) : Option ((List UInt8 × Bool) ⊕ List UInt8) := loopO (fun v => (s_WordOfMatrix_L4_step v).run) v

def s_WordOfMatrix_fo : List FO := [⟨[(.one .ss), (.one .sb)], []⟩]
noncomputable def s_WordOfMatrix_t : (Int × Int × Int × Int) → T (List UInt8 × Bool) := fun (m_0, m_1, m_2, m_3) =>
  (.sub (s_mxGood (m_0, (m_1, (m_2, m_3)))) fun z0 =>
  (.test (! z0)
  (.ret ([], false))
  (.test (decide (m_0 < 0))
   (.ret ([], false))
   (.test (decide (m_1 < 0))
    (.ret ([], false))
    (.test (decide (m_2 < 0))
     (.ret ([], false))
     (.test (decide (m_3 < 0))
      (.ret ([], false))
      (.sub (s_WordOfMatrix_L4 (((), []), (m_0, (m_1, (m_2, m_3))))) fun z1 =>
       (.test (Sum.isLeft z1)
       (.sub (Sum.getLeft? z1) fun z2 =>
        (.ret (z2.1, z2.2)))
       (.sub (Sum.getRight? z1) fun z3 =>
        (.ret (z3, true)))))))))))
noncomputable def s_WordOfMatrix (v : (Int × Int × Int × Int)) : Option (List UInt8 × Bool) := (s_WordOfMatrix_t v).run
noncomputable def s_WordOfMatrix_E : TEnv := ((E0.add1 n_s_mxGood s_mxGood_sh s_mxGood_fo s_mxGood).add1 n_s_mxOne s_mxOne_sh s_mxOne_fo s_mxOne)
theorem s_WordOfMatrix_Eok : (s_WordOfMatrix_E).OK := ((E0ok.add1 s_mxGood_ok).add1 s_mxOne_ok)
noncomputable def s_WordOfMatrix_told : Nat → Option SealT := fun id => if id = 4 then some (LSh.told s_WordOfMatrix_L4_sh 0 (s_WordOfMatrix_L4_step)) else none
theorem s_WordOfMatrix_L4_ok : ToldOK Try.prog 0 (loopAt (bodyOf fn_s_WordOfMatrix) [0]) (LSh.told s_WordOfMatrix_L4_sh 0 (s_WordOfMatrix_L4_step)) :=
  loop_ok (E := s_WordOfMatrix_E) (s_WordOfMatrix_Eok) (told := s_WordOfMatrix_told) (l := s_WordOfMatrix_L4_sh) (step := s_WordOfMatrix_L4_step) (loopsOK_of (ls := []) (by kernel_rfl) trivial) (by kernel_rfl) (fun v => by kernel_rfl)
theorem s_WordOfMatrix_ok : FOK Try.prog n_s_WordOfMatrix s_WordOfMatrix_sh s_WordOfMatrix_fo s_WordOfMatrix :=
  fn_ok (E := s_WordOfMatrix_E) (s_WordOfMatrix_Eok) (told := s_WordOfMatrix_told) (fl := []) (c := bodyOf fn_s_WordOfMatrix) (s := s_WordOfMatrix_sh) (l := s_WordOfMatrix_fo) (tree := s_WordOfMatrix_t) fnat_s_WordOfMatrix (by kernel_rfl) (by kernel_rfl) (by kernel_rfl) (loopsOK_of (ls := [loopAt (bodyOf fn_s_WordOfMatrix) [0]]) (by kernel_rfl) ⟨.inr ⟨_, by kernel_rfl, s_WordOfMatrix_L4_ok⟩, trivial⟩) (fun v => by kernel_rfl)

theorem s_WordOfMatrix_L4_eq : ∀ (n : Nat) (m : M4) (out : List UInt8), out.length + n = 40 → nn4 m → s_WordOfMatrix_L4 (((), out), m) = some (match wordF n m out with | some o => .inr o | none => .inl ([], false)) := by
  intro n
  induction n with
  | zero =>
    intro m out hl hm
    obtain ⟨a, b, c, d⟩ := m
    simp only [s_WordOfMatrix_L4, wordF]
    by_cases h1 : (a, b, c, d) = (1, 0, 0, 1)
    · rw [if_pos h1]
      simp only [Prod.mk.injEq] at h1
      obtain ⟨rfl, rfl, rfl, rfl⟩ := h1
      exact loopO_done (by simp [s_WordOfMatrix_L4_step, T.run, s_mxOne_eq, one4])
    · have h2 : (a == 1 && (b == 0 && (c == 0 && (d == 1 && true)))) = false := by
        rw [Bool.eq_false_iff]; intro h; apply h1; simp at h; simp [h]
      rw [if_neg h1]
      have h3 : ((out.length : Int) == 40) = true := by rw [beq_int]; simp; omega
      exact loopO_done (by simp only [s_WordOfMatrix_L4_step, T.run, s_mxOne_eq, one4, Option.bind_some, h2, h3]; rfl)
  | succ n ih =>
    intro m out hl hm
    obtain ⟨a, b, c, d⟩ := m
    simp only [s_WordOfMatrix_L4] at ih
    simp only [s_WordOfMatrix_L4, wordF]
    by_cases h1 : (a, b, c, d) = (1, 0, 0, 1)
    · rw [if_pos h1]
      simp only [Prod.mk.injEq] at h1
      obtain ⟨rfl, rfl, rfl, rfl⟩ := h1
      exact loopO_done (by simp [s_WordOfMatrix_L4_step, T.run, s_mxOne_eq, one4])
    · have h2 : (a == 1 && (b == 0 && (c == 0 && (d == 1 && true)))) = false := by
        rw [Bool.eq_false_iff]; intro h; apply h1; simp at h; simp [h]
      have h3 : ((out.length : Int) == 40) = false := by rw [beq_int]; simp; omega
      have hr := nn4_row hm h1
      rw [if_neg h1]
      obtain ⟨g1, g2, g3, g4, g5⟩ := hm
      simp only at g1 g2 g3 g4
      have hk : out.length + 1 ≤ 140737488355328 := by omega
      have hst : ((s_WordOfMatrix_L4_step (((), out), (a, b, c, d))).run) = some (.inl (if a ≤ c ∧ b ≤ d then (((), out ++ [108]), (a, b, c - a, d - b)) else (((), out ++ [114]), (a - c, b - d, c, d)))) := by
        simp only [s_WordOfMatrix_L4_step, T.run, s_mxOne_eq, one4, Option.bind_some, h2, h3, decide_eq_true_eq]
        rw [w64_id (z := c - a) (by omega) (by omega), w64_id (z := d - b) (by omega) (by omega), w64_id (z := a - c) (by omega) (by omega), w64_id (z := b - d) (by omega) (by omega)]
        by_cases u : a ≤ c <;> by_cases v : b ≤ d <;> simp only [u, v, hk] <;> rfl
      rw [loopO_next hst]
      rcases hr with ⟨hac, hbd, hno, hm2⟩ | ⟨hac, hbd, hno, hm2⟩
      · rw [if_pos (show c ≤ a ∧ d ≤ b from ⟨hac, hbd⟩), if_neg hno]
        exact ih _ (out ++ [114]) (by simp; omega) hm2
      · rw [if_neg (show ¬ (c ≤ a ∧ d ≤ b) from hno), if_pos ⟨hac, hbd⟩]
        exact ih _ (out ++ [108]) (by simp; omega) hm2
theorem s_WordOfMatrix_eq (m : M4) : s_WordOfMatrix m = some (if good4 m ∧ 0 ≤ m.1 ∧ 0 ≤ m.2.1 ∧ 0 ≤ m.2.2.1 ∧ 0 ≤ m.2.2.2 then (match wordF 40 m [] with | some o => (o, true) | none => ([], false)) else ([], false)) := by
  obtain ⟨a, b, c, d⟩ := m
  simp only [s_WordOfMatrix, s_WordOfMatrix_t, T.run, s_mxGood_eq, Option.bind_some]
  cases hg : good4 (a, b, c, d) with
  | false => simp
  | true =>
    rw [good4_iff] at hg
    simp only [Bool.not_true, Bool.false_eq_true, if_false, decide_eq_true_eq, true_and]
    by_cases h1 : a < 0
    · rw [if_pos h1, if_neg (by omega)]
    by_cases h2 : b < 0
    · rw [if_neg h1, if_pos h2, if_neg (by omega)]
    by_cases h3 : c < 0
    · rw [if_neg h1, if_neg h2, if_pos h3, if_neg (by omega)]
    by_cases h4 : d < 0
    · rw [if_neg h1, if_neg h2, if_neg h3, if_pos h4, if_neg (by omega)]
    rw [if_neg h1, if_neg h2, if_neg h3, if_neg h4, if_pos (by omega), s_WordOfMatrix_L4_eq 40 (a, b, c, d) [] (by simp) ⟨by simp only []; omega, by simp only []; omega, by simp only []; omega, by simp only []; omega, hg.2.2.2.2⟩]
    cases wordF 40 (a, b, c, d) [] <;> simp


def i_within_sh : FSh := ⟨[(.one (.si .i64)), (.one (.si .i64)), (.one (.si .i64))], []⟩

def i_within_fo : List FO := [⟨[(.one .sb)], []⟩]
noncomputable def i_within_t : (Int × Int × Int) → T Bool := fun (n, low, high) =>
  (.test (decide (n ≥ low))
  (.ret (decide (n ≤ high)))
  (.ret false))
noncomputable def i_within (v : (Int × Int × Int)) : Option Bool := (i_within_t v).run
noncomputable def i_within_E : TEnv := E0
theorem i_within_Eok : (i_within_E).OK := E0ok
noncomputable def i_within_told : Nat → Option SealT := fun id => none
theorem i_within_ok : FOK Try.prog n_i_within i_within_sh i_within_fo i_within :=
  fn_ok (E := i_within_E) (i_within_Eok) (told := i_within_told) (fl := []) (c := bodyOf fn_i_within) (s := i_within_sh) (l := i_within_fo) (tree := i_within_t) fnat_i_within (by kernel_rfl) (by kernel_rfl) (by kernel_rfl) (loopsOK_of (ls := []) (by kernel_rfl) trivial) (fun v => by kernel_rfl)

theorem i_within_eq (n low high : Int) : i_within (n, low, high) = some (inB low high n) := by
  simp only [i_within, i_within_t, T.run, ge_iff_le, decide_eq_true_eq, inB]
  by_cases h : low ≤ n <;> simp [h]


def i_isEntry_sh : FSh := ⟨[(.one (.si .i64))], []⟩

def i_isEntry_fo : List FO := [⟨[(.one .sb)], []⟩]
noncomputable def i_isEntry_t : Int → T Bool := fun n =>
  (.sub (i_within (n, ((-1000000000), (1000000000 : Int)))) fun z0 =>
  (.ret z0))
noncomputable def i_isEntry (v : Int) : Option Bool := (i_isEntry_t v).run
noncomputable def i_isEntry_E : TEnv := (E0.add1 n_i_within i_within_sh i_within_fo i_within)
theorem i_isEntry_Eok : (i_isEntry_E).OK := (E0ok.add1 i_within_ok)
noncomputable def i_isEntry_told : Nat → Option SealT := fun id => none
theorem i_isEntry_ok : FOK Try.prog n_i_isEntry i_isEntry_sh i_isEntry_fo i_isEntry :=
  fn_ok (E := i_isEntry_E) (i_isEntry_Eok) (told := i_isEntry_told) (fl := []) (c := bodyOf fn_i_isEntry) (s := i_isEntry_sh) (l := i_isEntry_fo) (tree := i_isEntry_t) fnat_i_isEntry (by kernel_rfl) (by kernel_rfl) (by kernel_rfl) (loopsOK_of (ls := []) (by kernel_rfl) trivial) (fun v => by kernel_rfl)

theorem i_isEntry_eq (n : Int) : i_isEntry n = some (inB (-1000000000) 1000000000 n) := by
  simp only [i_isEntry, i_isEntry_t, T.run, i_within_eq, Option.bind_some]


def i_IsMatrix_sh : FSh := ⟨[(.ag [(.si .i64), (.si .i64), (.si .i64), (.si .i64)])], []⟩

def i_IsMatrix_fo : List FO := [⟨[(.one .sb)], []⟩]
noncomputable def i_IsMatrix_t : (Int × Int × Int × Int) → T Bool := fun (m_0, m_1, m_2, m_3) =>
  (.sub (i_isEntry m_0) fun z0 =>
  (.test z0
  (.sub (i_isEntry m_1) fun z1 =>
   (.test z1
   (.sub (i_isEntry m_2) fun z2 =>
    (.test z2
    (.sub (i_isEntry m_3) fun z3 =>
     (.test z3
     (.ret ((w64 ((w64 (m_0 * m_3)) - (w64 (m_1 * m_2)))) == 1))
     (.ret false)))
    (.ret false)))
   (.ret false)))
  (.ret false)))
noncomputable def i_IsMatrix (v : (Int × Int × Int × Int)) : Option Bool := (i_IsMatrix_t v).run
noncomputable def i_IsMatrix_E : TEnv := (E0.add1 n_i_isEntry i_isEntry_sh i_isEntry_fo i_isEntry)
theorem i_IsMatrix_Eok : (i_IsMatrix_E).OK := (E0ok.add1 i_isEntry_ok)
noncomputable def i_IsMatrix_told : Nat → Option SealT := fun id => none
theorem i_IsMatrix_ok : FOK Try.prog n_i_IsMatrix i_IsMatrix_sh i_IsMatrix_fo i_IsMatrix :=
  fn_ok (E := i_IsMatrix_E) (i_IsMatrix_Eok) (told := i_IsMatrix_told) (fl := []) (c := bodyOf fn_i_IsMatrix) (s := i_IsMatrix_sh) (l := i_IsMatrix_fo) (tree := i_IsMatrix_t) fnat_i_IsMatrix (by kernel_rfl) (by kernel_rfl) (by kernel_rfl) (loopsOK_of (ls := []) (by kernel_rfl) trivial) (fun v => by kernel_rfl)

theorem i_IsMatrix_eq (m : M4) : i_IsMatrix m = some (good4 m) := by
  obtain ⟨a, b, c, d⟩ := m
  simp only [i_IsMatrix, i_IsMatrix_t, T.run, i_isEntry_eq, Option.bind_some, good4]
  cases ha : inB (-1000000000) 1000000000 a <;> cases hb : inB (-1000000000) 1000000000 b <;> cases hc : inB (-1000000000) 1000000000 c <;> cases hd : inB (-1000000000) 1000000000 d <;> simp
  rw [inB_iff] at ha hb hc hd
  rw [det_w ha hb hc hd, beq_int]


def i_one_sh : FSh := ⟨[], []⟩

def i_one_fo : List FO := [⟨[(.ag [(.si .i64), (.si .i64), (.si .i64), (.si .i64)])], []⟩]
noncomputable def i_one_t : Unit → T (Int × Int × Int × Int) := fun () =>
  (.ret ((1 : Int), ((0 : Int), ((0 : Int), (1 : Int)))))
noncomputable def i_one (v : Unit) : Option (Int × Int × Int × Int) := (i_one_t v).run
noncomputable def i_one_E : TEnv := E0
theorem i_one_Eok : (i_one_E).OK := E0ok
noncomputable def i_one_told : Nat → Option SealT := fun id => none
theorem i_one_ok : FOK Try.prog n_i_one i_one_sh i_one_fo i_one :=
  fn_ok (E := i_one_E) (i_one_Eok) (told := i_one_told) (fl := []) (c := bodyOf fn_i_one) (s := i_one_sh) (l := i_one_fo) (tree := i_one_t) fnat_i_one (by kernel_rfl) (by kernel_rfl) (by kernel_rfl) (loopsOK_of (ls := []) (by kernel_rfl) trivial) (fun v => by kernel_rfl)

theorem i_one_eq : i_one () = some one4 := rfl


def i_WordOfMatrix_sh : FSh := ⟨[(.ag [(.si .i64), (.si .i64), (.si .i64), (.si .i64)])], []⟩

def i_WordOfMatrix_L4_sh : LSh := ⟨(fun ex => match ex with | .norm => [(1, none), (4, none)] | .exit i => if i = 0 then [(4, none)] else [] | .ret => [(2, none), (3, none)]), [(1, (.one (.pf 0 0 0))), (4, (.one (.rw 1 0)))], [(.rcd 0 [(.si .i64), (.si .i64), (.si .i64), (.si .i64)]), (.row 0 (.int .u8))], [⟨.ret, [(2, (.one .ss)), (3, (.one .sb))], []⟩, ⟨(.exit 0), [(4, (.one (.rw 0 0)))], [(.row 0 (.int .u8))]⟩]⟩
noncomputable def i_WordOfMatrix_L4_step : ((Unit × Unit) × ((Int × Int × Int × Int) × List (Int))) → T (((Unit × Unit) × ((Int × Int × Int × Int) × List (Int))) ⊕ ((List UInt8 × Bool) ⊕ (Unit × List (Int)))) := fun (((), ()), ((m_0, m_1, m_2, m_3), out)) =>
  (.sub (i_one ()) fun z0 =>
  (.test (! ((m_0 == z0.1) && ((m_1 == z0.2.1) && ((m_2 == z0.2.2.1) && ((m_3 == z0.2.2.2) && true)))))
  (.test (((List.length out) : Int) == 40)
   (.ret (Sum.inr (Sum.inl ([], false))))
   (.test (decide (m_0 ≥ m_2))
    (.test (decide (m_1 ≥ m_3))
     (.test true
      (.test (decide ((0 + (List.length out)) ≤ (List.length out)))
       (.test (decide ((2 * (((List.length out) + 1) * 2)) ≤ 140737488355328))
        (.test (decide ((0 = 0) ∧ (((List.length out) + 1) = (List.length ((win out 0 (List.length out)) ++ (win (List.set (List.replicate 1 (0 : Int)) 0 (114 : Int)) 0 1))))))
         (.ret (Sum.inl (((), ()), (((w64 (m_0 - m_2)), ((w64 (m_1 - m_3)), (m_2, m_3))), ((win out 0 (List.length out)) ++ (win (List.set (List.replicate 1 (0 : Int)) 0 (114 : Int)) 0 1))))))
         .fail)
        .fail)
       .fail)
      .fail)
     (.test true
      (.test (decide ((0 + (List.length out)) ≤ (List.length out)))
       (.test (decide ((2 * (((List.length out) + 1) * 2)) ≤ 140737488355328))
        (.test (decide ((0 = 0) ∧ (((List.length out) + 1) = (List.length ((win out 0 (List.length out)) ++ (win (List.set (List.replicate 1 (0 : Int)) 0 (108 : Int)) 0 1))))))
         (.ret (Sum.inl (((), ()), ((m_0, (m_1, ((w64 (m_2 - m_0)), (w64 (m_3 - m_1))))), ((win out 0 (List.length out)) ++ (win (List.set (List.replicate 1 (0 : Int)) 0 (108 : Int)) 0 1))))))
         .fail)
        .fail)
       .fail)
      .fail))
    (.test true
     (.test (decide ((0 + (List.length out)) ≤ (List.length out)))
      (.test (decide ((2 * (((List.length out) + 1) * 2)) ≤ 140737488355328))
       (.test (decide ((0 = 0) ∧ (((List.length out) + 1) = (List.length ((win out 0 (List.length out)) ++ (win (List.set (List.replicate 1 (0 : Int)) 0 (108 : Int)) 0 1))))))
        (.ret (Sum.inl (((), ()), ((m_0, (m_1, ((w64 (m_2 - m_0)), (w64 (m_3 - m_1))))), ((win out 0 (List.length out)) ++ (win (List.set (List.replicate 1 (0 : Int)) 0 (108 : Int)) 0 1))))))
        .fail)
       .fail)
      .fail)
     .fail)))
  (.test (decide ((0 = 0) ∧ ((List.length out) = (List.length out))))
   (.ret (Sum.inr (Sum.inr ((), out))))
   .fail)))
noncomputable def i_WordOfMatrix_L4 (v : ((Unit × Unit) × ((Int × Int × Int × Int) × List (Int)))) : Option ((List UInt8 × Bool) ⊕ (Unit × List (Int))) := loopO (fun v => (i_WordOfMatrix_L4_step v).run) v

def i_WordOfMatrix_fo : List FO := [⟨[(.one .ss), (.one .sb)], []⟩]
noncomputable def i_WordOfMatrix_t : (Int × Int × Int × Int) → T (List UInt8 × Bool) := fun (m_0, m_1, m_2, m_3) =>
  (.sub (i_IsMatrix (m_0, (m_1, (m_2, m_3)))) fun z0 =>
  (.test (! z0)
  (.ret ([], false))
  (.test (decide ((if (m_3 < (if (m_2 < (if (m_1 < m_0) then m_1 else m_0)) then m_2 else (if (m_1 < m_0) then m_1 else m_0))) then m_3 else (if (m_2 < (if (m_1 < m_0) then m_1 else m_0)) then m_2 else (if (m_1 < m_0) then m_1 else m_0))) < 0))
   (.ret ([], false))
   (.test (decide ((0 = 0) ∧ (0 = (List.length (List.replicate 0 (0 : Int))))))
    (.sub (i_WordOfMatrix_L4 (((), ()), ((m_0, (m_1, (m_2, m_3))), (List.replicate 0 (0 : Int))))) fun z1 =>
     (.test (Sum.isLeft z1)
     (.sub (Sum.getLeft? z1) fun z2 =>
      (.ret (z2.1, z2.2)))
     (.sub (Sum.getRight? z1) fun z3 =>
      (.test (decide ((0 + (List.length z3.2)) ≤ (List.length z3.2)))
      (.ret ((List.map (fun z => UInt8.ofNat z.toNat) (win z3.2 0 (List.length z3.2))), true))
      .fail))))
    .fail))))
noncomputable def i_WordOfMatrix (v : (Int × Int × Int × Int)) : Option (List UInt8 × Bool) := (i_WordOfMatrix_t v).run
noncomputable def i_WordOfMatrix_E : TEnv := ((E0.add1 n_i_IsMatrix i_IsMatrix_sh i_IsMatrix_fo i_IsMatrix).add1 n_i_one i_one_sh i_one_fo i_one)
theorem i_WordOfMatrix_Eok : (i_WordOfMatrix_E).OK := ((E0ok.add1 i_IsMatrix_ok).add1 i_one_ok)
noncomputable def i_WordOfMatrix_told : Nat → Option SealT := fun id => if id = 4 then some (LSh.told i_WordOfMatrix_L4_sh 0 (i_WordOfMatrix_L4_step)) else none
theorem i_WordOfMatrix_L4_ok : ToldOK Try.prog 0 (loopAt (bodyOf fn_i_WordOfMatrix) [0]) (LSh.told i_WordOfMatrix_L4_sh 0 (i_WordOfMatrix_L4_step)) :=
  loop_ok (E := i_WordOfMatrix_E) (i_WordOfMatrix_Eok) (told := i_WordOfMatrix_told) (l := i_WordOfMatrix_L4_sh) (step := i_WordOfMatrix_L4_step) (loopsOK_of (ls := []) (by kernel_rfl) trivial) (by kernel_rfl) (fun v => by kernel_rfl)
theorem i_WordOfMatrix_ok : FOK Try.prog n_i_WordOfMatrix i_WordOfMatrix_sh i_WordOfMatrix_fo i_WordOfMatrix :=
  fn_ok (E := i_WordOfMatrix_E) (i_WordOfMatrix_Eok) (told := i_WordOfMatrix_told) (fl := []) (c := bodyOf fn_i_WordOfMatrix) (s := i_WordOfMatrix_sh) (l := i_WordOfMatrix_fo) (tree := i_WordOfMatrix_t) fnat_i_WordOfMatrix (by kernel_rfl) (by kernel_rfl) (by kernel_rfl) (loopsOK_of (ls := [loopAt (bodyOf fn_i_WordOfMatrix) [0]]) (by kernel_rfl) ⟨.inr ⟨_, by kernel_rfl, i_WordOfMatrix_L4_ok⟩, trivial⟩) (fun v => by kernel_rfl)

theorem i_WordOfMatrix_L4_eq : ∀ (n : Nat) (m : M4) (out : List UInt8), out.length + n = 40 → nn4 m → i_WordOfMatrix_L4 (((), ()), (m, toI out)) = some (match wordF n m out with | some o => .inr ((), toI o) | none => .inl ([], false)) := by
  intro n
  induction n with
  | zero =>
    intro m out hl hm
    obtain ⟨a, b, c, d⟩ := m
    simp only [i_WordOfMatrix_L4, wordF]
    by_cases h1 : (a, b, c, d) = (1, 0, 0, 1)
    · rw [if_pos h1]
      simp only [Prod.mk.injEq] at h1
      obtain ⟨rfl, rfl, rfl, rfl⟩ := h1
      exact loopO_done (by simp [i_WordOfMatrix_L4_step, T.run, i_one_eq, one4])
    · have h2 : (a == 1 && (b == 0 && (c == 0 && (d == 1 && true)))) = false := by
        rw [Bool.eq_false_iff]; intro h; apply h1; simp at h; simp [h]
      rw [if_neg h1]
      have h3 : (((toI out).length : Int) == 40) = true := by rw [beq_int]; simp [toI]; omega
      exact loopO_done (by simp only [i_WordOfMatrix_L4_step, T.run, i_one_eq, one4, Option.bind_some, h2, h3]; rfl)
  | succ n ih =>
    intro m out hl hm
    obtain ⟨a, b, c, d⟩ := m
    simp only [i_WordOfMatrix_L4] at ih
    simp only [i_WordOfMatrix_L4, wordF]
    by_cases h1 : (a, b, c, d) = (1, 0, 0, 1)
    · rw [if_pos h1]
      simp only [Prod.mk.injEq] at h1
      obtain ⟨rfl, rfl, rfl, rfl⟩ := h1
      exact loopO_done (by simp [i_WordOfMatrix_L4_step, T.run, i_one_eq, one4])
    · have h2 : (a == 1 && (b == 0 && (c == 0 && (d == 1 && true)))) = false := by
        rw [Bool.eq_false_iff]; intro h; apply h1; simp at h; simp [h]
      have hlen : (toI out).length = out.length := by simp [toI]
      have h3 : (((toI out).length : Int) == 40) = false := by rw [beq_int, hlen]; simp; omega
      have hr := nn4_row hm h1
      rw [if_neg h1]
      obtain ⟨g1, g2, g3, g4, g5⟩ := hm
      simp only at g1 g2 g3 g4
      have hk : 2 * ((out.length + 1) * 2) ≤ 140737488355328 := by omega
      have e1 : toI out ++ [114] = toI (out ++ [114]) := by simp [toI]
      have e2 : toI out ++ [108] = toI (out ++ [108]) := by simp [toI]
      have el1 : (toI (out ++ [114])).length = out.length + 1 := by simp [toI]
      have el2 : (toI (out ++ [108])).length = out.length + 1 := by simp [toI]
      have hst : ((i_WordOfMatrix_L4_step (((), ()), ((a, b, c, d), toI out))).run) = some (.inl (if c ≤ a ∧ d ≤ b then (((), ()), ((a - c, b - d, c, d), toI (out ++ [114]))) else (((), ()), ((a, b, c - a, d - b), toI (out ++ [108]))))) := by
        simp only [i_WordOfMatrix_L4_step, T.run, i_one_eq, one4, Option.bind_some, h2, h3, decide_eq_true_eq, win_all, win_one, ge_iff_le, e1, e2, Nat.zero_add, Nat.le_refl, true_and]
        simp only [hlen, el1, el2]
        rw [w64_id (z := c - a) (by omega) (by omega), w64_id (z := d - b) (by omega) (by omega), w64_id (z := a - c) (by omega) (by omega), w64_id (z := b - d) (by omega) (by omega)]
        by_cases u : c ≤ a <;> by_cases v : d ≤ b <;> simp only [u, v, hk] <;> rfl
      rw [loopO_next hst]
      rcases hr with ⟨hac, hbd, hno, hm2⟩ | ⟨hac, hbd, hno, hm2⟩
      · rw [if_pos (show c ≤ a ∧ d ≤ b from ⟨hac, hbd⟩), if_pos (show c ≤ a ∧ d ≤ b from ⟨hac, hbd⟩)]
        exact ih _ (out ++ [114]) (by simp; omega) hm2
      · rw [if_neg (show ¬ (c ≤ a ∧ d ≤ b) from hno), if_neg (show ¬ (c ≤ a ∧ d ≤ b) from hno)]
        exact ih _ (out ++ [108]) (by simp; omega) hm2
theorem i_WordOfMatrix_eq (m : M4) : i_WordOfMatrix m = some (if good4 m ∧ 0 ≤ m.1 ∧ 0 ≤ m.2.1 ∧ 0 ≤ m.2.2.1 ∧ 0 ≤ m.2.2.2 then (match wordF 40 m [] with | some o => (o, true) | none => ([], false)) else ([], false)) := by
  obtain ⟨a, b, c, d⟩ := m
  simp only [i_WordOfMatrix, i_WordOfMatrix_t, T.run, i_IsMatrix_eq, Option.bind_some]
  cases hg : good4 (a, b, c, d) with
  | false => simp
  | true =>
    rw [good4_iff] at hg
    simp only [Bool.not_true, Bool.false_eq_true, if_false, decide_eq_true_eq, true_and]
    by_cases h : 0 ≤ a ∧ 0 ≤ b ∧ 0 ≤ c ∧ 0 ≤ d
    · rw [if_neg (by split <;> split <;> split <;> omega), if_pos h]
      have := i_WordOfMatrix_L4_eq 40 (a, b, c, d) [] (by simp) ⟨by simp only []; omega, by simp only []; omega, by simp only []; omega, by simp only []; omega, hg.2.2.2.2⟩
      simp only [toI, List.map_nil] at this
      simp only [List.replicate_zero, List.length_nil, and_self, if_true, this, Option.bind_some]
      cases h2 : wordF 40 (a, b, c, d) [] with
      | none => simp
      | some o =>
        have e := toI_back o
        unfold toI at e
        simp [win_all]
        simpa using e
    · rw [if_pos (by split <;> split <;> split <;> omega), if_neg h]


def l_FnExactWordOfMatrix_sh : FSh := ⟨[(.ag [(.si .i64), (.si .i64), (.si .i64), (.si .i64)])], []⟩

def l_FnExactWordOfMatrix_fo : List FO := [⟨[(.one .sb)], []⟩]
noncomputable def l_FnExactWordOfMatrix_t : (Int × Int × Int × Int) → T Bool := fun (aM_0, aM_1, aM_2, aM_3) =>
  (.sub (l_toMatrix (aM_0, (aM_1, (aM_2, aM_3)))) fun z0 =>
  (.sub (s_WordOfMatrix (z0.1, (z0.2.1, (z0.2.2.1, z0.2.2.2)))) fun z1 =>
  (.sub (l_toMatrix (aM_0, (aM_1, (aM_2, aM_3)))) fun z2 =>
  (.sub (i_WordOfMatrix (z2.1, (z2.2.1, (z2.2.2.1, z2.2.2.2)))) fun z3 =>
  (.test (! (z3.1 == z1.1))
  (.ret false)
  (.test (! (z3.2 == z1.2))
   (.ret false)
   (.ret true)))))))
noncomputable def l_FnExactWordOfMatrix (v : (Int × Int × Int × Int)) : Option Bool := (l_FnExactWordOfMatrix_t v).run
noncomputable def l_FnExactWordOfMatrix_E : TEnv := (((E0.add1 n_l_toMatrix l_toMatrix_sh l_toMatrix_fo l_toMatrix).add1 n_s_WordOfMatrix s_WordOfMatrix_sh s_WordOfMatrix_fo s_WordOfMatrix).add1 n_i_WordOfMatrix i_WordOfMatrix_sh i_WordOfMatrix_fo i_WordOfMatrix)
theorem l_FnExactWordOfMatrix_Eok : (l_FnExactWordOfMatrix_E).OK := (((E0ok.add1 l_toMatrix_ok).add1 s_WordOfMatrix_ok).add1 i_WordOfMatrix_ok)
noncomputable def l_FnExactWordOfMatrix_told : Nat → Option SealT := fun id => none
theorem l_FnExactWordOfMatrix_ok : FOK Try.prog n_l_FnExactWordOfMatrix l_FnExactWordOfMatrix_sh l_FnExactWordOfMatrix_fo l_FnExactWordOfMatrix :=
  fn_ok (E := l_FnExactWordOfMatrix_E) (l_FnExactWordOfMatrix_Eok) (told := l_FnExactWordOfMatrix_told) (fl := []) (c := bodyOf fn_l_FnExactWordOfMatrix) (s := l_FnExactWordOfMatrix_sh) (l := l_FnExactWordOfMatrix_fo) (tree := l_FnExactWordOfMatrix_t) fnat_l_FnExactWordOfMatrix (by kernel_rfl) (by kernel_rfl) (by kernel_rfl) (loopsOK_of (ls := []) (by kernel_rfl) trivial) (fun v => by kernel_rfl)

theorem l_FnExactWordOfMatrix_true (m : M4) (hs : smallL ASh.small [.ag [.si .i64, .si .i64, .si .i64, .si .i64]] m) : l_FnExactWordOfMatrix m = some true := by
  obtain ⟨a, b, c, d⟩ := m
  simp [l_FnExactWordOfMatrix, l_FnExactWordOfMatrix_t, T.run, l_toMatrix, l_toMatrix_t, s_WordOfMatrix_eq, i_WordOfMatrix_eq]


def l_toIntS_sh : FSh := ⟨[(.one (.sl (.int .i64) false false))], []⟩

def l_toIntS_L3_sh : LSh := ⟨(fun ex => match ex with | .norm => [(0, none), (3, none), (4, none)] | .exit i => if i = 0 then [(3, none)] else [] | .ret => [(2, none)]), [(0, (.one (.sl (.int .i64) false false))), (3, (.one (.rw 0 0))), (4, (.one (.si .i64)))], [(.row 0 (.int .i64))], [⟨(.exit 0), [(3, (.one (.rw 0 0)))], [(.row 0 (.int .i64))]⟩]⟩
noncomputable def l_toIntS_L3_step : ((List (Int) × Unit × Int) × List (Int)) → T (((List (Int) × Unit × Int) × List (Int)) ⊕ (Unit × List (Int))) := fun ((a, (), i), out) =>
  (.test (decide (i < ((List.length a) : Int)))
  (.test (decide ((0 ≤ i) ∧ (i < ((List.length a) : Int))))
   (.sub (a[(Int.toNat i)]?) fun z0 =>
    (.test (decide ((0 ≤ i) ∧ (i < ((List.length out) : Int))))
    (.sub (out[(0 + (Int.toNat i))]?) fun z1 =>
     (.test (decide ((0 = 0) ∧ ((List.length out) = (List.length (List.set out (0 + (Int.toNat i)) z0)))))
     (.ret (Sum.inl ((a, ((), (w64 (i + 1)))), (List.set out (0 + (Int.toNat i)) z0))))
     .fail))
    .fail))
   .fail)
  (.test (decide ((0 = 0) ∧ ((List.length out) = (List.length out))))
   (.ret (Sum.inr ((), out)))
   .fail))
noncomputable def l_toIntS_L3 (v : ((List (Int) × Unit × Int) × List (Int))) : Option (Unit × List (Int)) := loopO (fun v => (l_toIntS_L3_step v).run) v

def l_toIntS_fo : List FO := [⟨[(.one (.rw 0 0))], [(.row 0 (.int .i64))]⟩]
noncomputable def l_toIntS_t : List (Int) → T (Unit × List (Int)) := fun a =>
  (.test (decide ((0 ≤ ((List.length a) : Int)) ∧ ((((List.length a) : Int) ≤ ((List.length a) : Int)) ∧ (((Int.toNat ((List.length a) : Int)) * 9) ≤ 140737488355328))))
  (.test (decide ((0 = 0) ∧ ((Int.toNat ((List.length a) : Int)) = (List.length (List.replicate (Int.toNat ((List.length a) : Int)) (0 : Int))))))
   (.sub (l_toIntS_L3 ((a, ((), (0 : Int))), (List.replicate (Int.toNat ((List.length a) : Int)) (0 : Int)))) fun z0 =>
    (.test (decide ((0 = 0) ∧ ((List.length z0.2) = (List.length z0.2))))
    (.ret ((), z0.2))
    .fail))
   .fail)
  .fail)
noncomputable def l_toIntS (v : List (Int)) : Option (Unit × List (Int)) := (l_toIntS_t v).run
noncomputable def l_toIntS_E : TEnv := E0
theorem l_toIntS_Eok : (l_toIntS_E).OK := E0ok
noncomputable def l_toIntS_told : Nat → Option SealT := fun id => if id = 3 then some (LSh.told l_toIntS_L3_sh 0 (l_toIntS_L3_step)) else none
theorem l_toIntS_L3_ok : ToldOK Try.prog 0 (loopAt (bodyOf fn_l_toIntS) [0]) (LSh.told l_toIntS_L3_sh 0 (l_toIntS_L3_step)) :=
  loop_ok (E := l_toIntS_E) (l_toIntS_Eok) (told := l_toIntS_told) (l := l_toIntS_L3_sh) (step := l_toIntS_L3_step) (loopsOK_of (ls := []) (by kernel_rfl) trivial) (by kernel_rfl) (fun v => by kernel_rfl)
theorem l_toIntS_ok : FOK Try.prog n_l_toIntS l_toIntS_sh l_toIntS_fo l_toIntS :=
  fn_ok (E := l_toIntS_E) (l_toIntS_Eok) (told := l_toIntS_told) (fl := []) (c := bodyOf fn_l_toIntS) (s := l_toIntS_sh) (l := l_toIntS_fo) (tree := l_toIntS_t) fnat_l_toIntS (by kernel_rfl) (by kernel_rfl) (by kernel_rfl) (loopsOK_of (ls := [loopAt (bodyOf fn_l_toIntS) [0]]) (by kernel_rfl) ⟨.inr ⟨_, by kernel_rfl, l_toIntS_L3_ok⟩, trivial⟩) (fun v => by kernel_rfl)

theorem l_toIntS_eq (a : List Int) (hl : a.length < 10000000000000) : l_toIntS a = some ((), a) := by
  have h := loop_eq (step := fun v => (l_toIntS_L3_step v).run) (fun v => a.length - v.1.2.2.toNat) (fun v => v.1.1 = a ∧ ∃ k : Nat, k ≤ a.length ∧ v.1.2.2 = k ∧ v.2.length = a.length ∧ v.2.take k = a.take k) (fun _ => ((), a)) (by
    rintro ⟨⟨a', ⟨⟩, i⟩, out⟩ ⟨e, k, hk, e2, hlen, ht⟩
    simp only at e e2 hlen ht
    subst e e2
    by_cases hlt : k < a'.length
    · left
      refine ⟨((a', (), (k + 1 : Nat)), out.set k a'[k]), ?_, ⟨rfl, k + 1, by omega, rfl, by simp [hlen], ?_⟩, by simp only [Int.toNat_natCast]; omega, rfl⟩
      · simp only [l_toIntS_L3_step, T.run, Int.toNat_natCast, Option.bind_some, List.getElem?_eq_getElem hlt, Nat.zero_add, List.getElem?_eq_getElem (show k < out.length by omega)]
        rw [w64_id (by omega) (by omega)]
        simp [hlen, hlt]
      · rw [List.take_succ_eq_append_getElem (by simp; omega), List.take_succ_eq_append_getElem hlt, List.take_set_of_le (Nat.le_refl _), ht]
        simp
    · right
      have : k = a'.length := by omega
      subst this
      rw [List.take_length, ← hlen, List.take_length] at ht
      subst ht
      simp [l_toIntS_L3_step, T.run])
    ((a, (), 0), List.replicate a.length 0) ⟨rfl, 0, Nat.zero_le _, rfl, by simp, by simp⟩
  simp only [l_toIntS, l_toIntS_t, T.run, l_toIntS_L3, Int.toNat_natCast]
  rw [h]
  simp
  omega


def s_ctGood_sh : FSh := ⟨[(.one (.sl (.int .i64) false false))], []⟩

def s_ctGood_fo : List FO := [⟨[(.one .sb)], []⟩]
noncomputable def s_ctGood_t : List (Int) → T Bool := fun list =>
  (.test (decide (((List.length list) : Int) ≤ 10))
  (.sub (s_l1All (list, ((-30), (30 : Int)))) fun z0 =>
   (.ret z0))
  (.ret false))
noncomputable def s_ctGood (v : List (Int)) : Option Bool := (s_ctGood_t v).run
noncomputable def s_ctGood_E : TEnv := (E0.add1 n_s_l1All s_l1All_sh s_l1All_fo s_l1All)
theorem s_ctGood_Eok : (s_ctGood_E).OK := (E0ok.add1 s_l1All_ok)
noncomputable def s_ctGood_told : Nat → Option SealT := fun id => none
theorem s_ctGood_ok : FOK Try.prog n_s_ctGood s_ctGood_sh s_ctGood_fo s_ctGood :=
  fn_ok (E := s_ctGood_E) (s_ctGood_Eok) (told := s_ctGood_told) (fl := []) (c := bodyOf fn_s_ctGood) (s := s_ctGood_sh) (l := s_ctGood_fo) (tree := s_ctGood_t) fnat_s_ctGood (by kernel_rfl) (by kernel_rfl) (by kernel_rfl) (loopsOK_of (ls := []) (by kernel_rfl) trivial) (fun v => by kernel_rfl)

theorem s_ctGood_eq (l : List Int) (hl : l.length < 4611686018427387904) : s_ctGood l = some (isTerms l) := by
  simp only [s_ctGood, s_ctGood_t, T.run, s_l1All_eq _ _ _ hl, Option.bind_some, isTerms, decide_eq_true_eq]
  by_cases h : l.length ≤ 10
  · rw [if_pos (by omega)]; simp [h]
  · rw [if_neg (by omega)]; simp [h]


def s_ctValue_sh : FSh := ⟨[(.one (.sl (.int .i64) false false)), (.one (.si .i64))], []⟩

def s_ctValue_L3_sh : LSh := ⟨(fun ex => match ex with | .norm => [(1, none), (5, none), (6, none), (10, none), (11, none), (12, none)] | .exit i => if i = 0 then [(6, none)] else [] | .ret => [(4, none)]), [(1, (.one (.si .i64))), (5, (.one (.si .i64))), (6, (.one (.si .i64))), (10, (.one (.sl (.int .i64) false false))), (11, (.one (.si .i64))), (12, (.one (.si .i64)))], [], [⟨(.exit 0), [(6, (.one (.si .i64)))], []⟩]⟩
noncomputable def s_ctValue_L3_step : (Int × Int × Int × List (Int) × Int × Int) → T ((Int × Int × Int × List (Int) × Int × Int) ⊕ Int) := fun (sign, before, at', t10, t11, t12) =>
  (.test (decide (t12 < t11))
  (.test (decide ((0 ≤ t12) ∧ (t12 < ((List.length t10) : Int))))
   (.sub (t10[(Int.toNat t12)]?) fun z0 =>
    (.ret (Sum.inl (sign, (at', ((w64 ((w64 (z0 * at')) + (w64 (sign * before)))), (t10, (t11, (w64 (t12 + 1))))))))))
   .fail)
  (.ret (Sum.inr at')))
noncomputable def s_ctValue_L3 (v : (Int × Int × Int × List (Int) × Int × Int)) : Option Int := loopO (fun v => (s_ctValue_L3_step v).run) v

def s_ctValue_fo : List FO := [⟨[(.one (.si .i64))], []⟩]
noncomputable def s_ctValue_t : (List (Int) × Int) → T Int := fun (list, sign) =>
  (.sub (s_ctValue_L3 (sign, ((0 : Int), ((1 : Int), (list, (((List.length list) : Int), (0 : Int))))))) fun z0 =>
  (.ret z0))
noncomputable def s_ctValue (v : (List (Int) × Int)) : Option Int := (s_ctValue_t v).run
noncomputable def s_ctValue_E : TEnv := E0
theorem s_ctValue_Eok : (s_ctValue_E).OK := E0ok
noncomputable def s_ctValue_told : Nat → Option SealT := fun id => if id = 3 then some (LSh.told s_ctValue_L3_sh 0 (s_ctValue_L3_step)) else none
theorem s_ctValue_L3_ok : ToldOK Try.prog 0 (loopAt (bodyOf fn_s_ctValue) [0]) (LSh.told s_ctValue_L3_sh 0 (s_ctValue_L3_step)) :=
  loop_ok (E := s_ctValue_E) (s_ctValue_Eok) (told := s_ctValue_told) (l := s_ctValue_L3_sh) (step := s_ctValue_L3_step) (loopsOK_of (ls := []) (by kernel_rfl) trivial) (by kernel_rfl) (fun v => by kernel_rfl)
theorem s_ctValue_ok : FOK Try.prog n_s_ctValue s_ctValue_sh s_ctValue_fo s_ctValue :=
  fn_ok (E := s_ctValue_E) (s_ctValue_Eok) (told := s_ctValue_told) (fl := []) (c := bodyOf fn_s_ctValue) (s := s_ctValue_sh) (l := s_ctValue_fo) (tree := s_ctValue_t) fnat_s_ctValue (by kernel_rfl) (by kernel_rfl) (by kernel_rfl) (loopsOK_of (ls := [loopAt (bodyOf fn_s_ctValue) [0]]) (by kernel_rfl) ⟨.inr ⟨_, by kernel_rfl, s_ctValue_L3_ok⟩, trivial⟩) (fun v => by kernel_rfl)

theorem s_ctValue_eq (l : List Int) (sign : Int) (hs : sign = 1 ∨ sign = -1) (hl : l.length ≤ 10) (ht : ∀ x ∈ l, -30 ≤ x ∧ x ≤ 30) : s_ctValue (l, sign) = some (cont sign l) := by
  have h := loop_fold (step := fun v => (s_ctValue_L3_step v).run) (xs := l) (fun k p => cfB k p) (fun k p => (sign, p.1, p.2, l, (l.length : Int), (k : Int))) (cf sign) (fun p => p.2)
    (fun k p x hP hx => by
      have hk := getElem?_lt hx
      have hb := cfB_step hs hP (ht x (List.mem_of_getElem? hx))
      have hp := pw_le (k := k + 1) (by omega)
      have hp2 := pw_succ k
      obtain ⟨h1, h2, h3, h4⟩ := hP
      obtain ⟨⟨g1, g2, g3, g4⟩, g5, g6⟩ := hb
      simp only [s_ctValue_L3_step, T.run, Option.bind_some, Int.toNat_natCast, hx]
      simp only [cf] at g3 g4
      have e1 : w64 (x * p.2) = x * p.2 := w64_id (by omega) (by omega)
      have e2 : w64 (sign * p.1) = sign * p.1 := by rcases hs with rfl | rfl <;> exact w64_id (by omega) (by omega)
      rw [e1, e2, w64_id (by omega) (by omega), w64_id (by omega) (by omega)]
      exact ⟨by simp [hk, cf], ⟨g1, g2, g3, g4⟩⟩)
    (fun s hP => by simp [s_ctValue_L3_step, T.run]) (0, 1) (by simp [cfB, pw])
  simp only [s_ctValue, s_ctValue_t, T.run, s_ctValue_L3]
  simp only [Int.natCast_zero] at h
  rw [h.1]
  rfl


def s_mxList_sh : FSh := ⟨[(.one (.sl (.int .i64) false false))], []⟩

def s_mxList_fo : List FO := [⟨[(.ag [(.si .i64), (.si .i64), (.si .i64), (.si .i64)])], []⟩]
noncomputable def s_mxList_t : List (Int) → T (Int × Int × Int × Int) := fun list =>
  (.test (((List.length list) : Int) == 0)
  (.sub (s_mxOne ()) fun z0 =>
   (.ret (z0.1, (z0.2.1, (z0.2.2.1, z0.2.2.2)))))
  (.sub (s_ctValue (list, (-1))) fun z1 =>
   (.test (decide (0 ≤ (w64 (((List.length list) : Int) - 1))))
   (.test (decide ((0 ≤ (Int.toNat (w64 (((List.length list) : Int) - 1)))) ∧ ((Int.toNat (w64 (((List.length list) : Int) - 1))) ≤ (List.length list))))
    (.sub (s_ctValue ((win list 0 ((Int.toNat (w64 (((List.length list) : Int) - 1))) - 0)), (-1))) fun z2 =>
     (.test true
     (.test (decide ((1 ≤ (List.length list)) ∧ ((List.length list) ≤ (List.length list))))
      (.sub (s_ctValue ((win list 1 ((List.length list) - 1)), (-1))) fun z3 =>
       (.test (decide (((List.length list) : Int) > 1))
       (.test true
        (.test (decide (0 ≤ (w64 (((List.length list) : Int) - 1))))
         (.test (decide ((1 ≤ (Int.toNat (w64 (((List.length list) : Int) - 1)))) ∧ ((Int.toNat (w64 (((List.length list) : Int) - 1))) ≤ (List.length list))))
          (.sub (s_ctValue ((win list 1 ((Int.toNat (w64 (((List.length list) : Int) - 1))) - 1)), (-1))) fun z4 =>
           (.ret (z1, ((w64 (0 - z2)), (z3, (w64 (0 - z4)))))))
          .fail)
         .fail)
        .fail)
       (.ret (z1, ((w64 (0 - z2)), (z3, (0 : Int)))))))
      .fail)
     .fail))
    .fail)
   .fail)))
noncomputable def s_mxList (v : List (Int)) : Option (Int × Int × Int × Int) := (s_mxList_t v).run
noncomputable def s_mxList_E : TEnv := ((E0.add1 n_s_mxOne s_mxOne_sh s_mxOne_fo s_mxOne).add1 n_s_ctValue s_ctValue_sh s_ctValue_fo s_ctValue)
theorem s_mxList_Eok : (s_mxList_E).OK := ((E0ok.add1 s_mxOne_ok).add1 s_ctValue_ok)
noncomputable def s_mxList_told : Nat → Option SealT := fun id => none
theorem s_mxList_ok : FOK Try.prog n_s_mxList s_mxList_sh s_mxList_fo s_mxList :=
  fn_ok (E := s_mxList_E) (s_mxList_Eok) (told := s_mxList_told) (fl := []) (c := bodyOf fn_s_mxList) (s := s_mxList_sh) (l := s_mxList_fo) (tree := s_mxList_t) fnat_s_mxList (by kernel_rfl) (by kernel_rfl) (by kernel_rfl) (loopsOK_of (ls := []) (by kernel_rfl) trivial) (fun v => by kernel_rfl)

theorem s_mxList_eq (l : List Int) (h : isTerms l = true) : s_mxList l = some (mOf l) := by
  obtain ⟨hl, ht⟩ := isTerms_iff.1 h
  cases l with
  | nil => simp [s_mxList, s_mxList_t, T.run, s_mxOne_eq, mOf, one4]
  | cons b t =>
    have hb := mOf_B (b :: t) ht
    have hp := pw_le (k := (b :: t).length) (by omega)
    have ht' : ∀ x ∈ t, -30 ≤ x ∧ x ≤ 30 := fun x hx => ht x (List.mem_cons_of_mem _ hx)
    simp only [List.length_cons] at hl hp hb
    have e2 : w64 (((t.length + 1 : Nat) : Int) - 1) = (t.length : Int) := by rw [w64_id (by omega) (by omega)]; omega
    have e3 : win (b :: t) 0 t.length = (b :: t).dropLast := by rw [win_take, List.dropLast_eq_take]; simp
    have e4 : win (b :: t) 1 t.length = t := by unfold win; simp
    have e5 : win (b :: t) 1 (t.length - 1) = t.dropLast := by unfold win; simp [List.dropLast_eq_take]
    have hd : ∀ x ∈ (b :: t).dropLast, -30 ≤ x ∧ x ≤ 30 := fun x hx => ht x (by rw [List.dropLast_eq_take] at hx; exact List.mem_of_mem_take hx)
    have hd2 : ∀ x ∈ t.dropLast, -30 ≤ x ∧ x ≤ 30 := fun x hx => ht' x (by rw [List.dropLast_eq_take] at hx; exact List.mem_of_mem_take hx)
    have hc1 := s_ctValue_eq (b :: t) (-1) (.inr rfl) (by simpa using hl) ht
    have hc2 := s_ctValue_eq (b :: t).dropLast (-1) (.inr rfl) (by simp; omega) hd
    have hc3 := s_ctValue_eq t (-1) (.inr rfl) (by omega) ht'
    have hc4 := s_ctValue_eq t.dropLast (-1) (.inr rfl) (by simp; omega) hd2
    have f1 := cont2_fst (-1) (b :: t)
    have f2 := cont2_fst (-1) t
    simp only [mOf, f1, f2, reduceCtorEq, if_false, in4] at hb ⊢
    simp only [s_mxList, s_mxList_t, T.run, List.length_cons, e2, Int.toNat_natCast, Nat.sub_zero, Nat.add_sub_cancel, hc1, Option.bind_some, e3, e4, e5, hc2, hc3, hc4]
    have n1 : w64 (0 - cont (-1) (b :: t).dropLast) = -cont (-1) (b :: t).dropLast := by rw [w64_id (by omega) (by omega)]; omega
    by_cases h0 : t = []
    · subst h0
      rw [n1]
      simp
    · have hpos : 0 < t.length := List.length_pos_iff.2 h0
      simp only [if_neg h0] at hb ⊢
      have n2 : w64 (0 - cont (-1) t.dropLast) = -cont (-1) t.dropLast := by rw [w64_id (by omega) (by omega)]; omega
      rw [n1, n2]
      simp [show ¬ ((t.length : Int) + 1 = 0) by omega, show 1 < (t.length : Int) + 1 by omega, show 1 ≤ t.length by omega]


def s_ClosesUp_sh : FSh := ⟨[(.one (.sl (.int .i64) false false))], []⟩

def s_ClosesUp_fo : List FO := [⟨[(.one .sb), (.one .sb)], []⟩]
noncomputable def s_ClosesUp_t : List (Int) → T (Bool × Bool) := fun list =>
  (.sub (s_ctGood list) fun z0 =>
  (.test (! z0)
  (.ret (false, false))
  (.sub (s_mxList list) fun z1 =>
   (.ret (((z1.1 == (-1)) && ((z1.2.1 == 0) && ((z1.2.2.1 == 0) && ((z1.2.2.2 == (-1)) && true)))), true)))))
noncomputable def s_ClosesUp (v : List (Int)) : Option (Bool × Bool) := (s_ClosesUp_t v).run
noncomputable def s_ClosesUp_E : TEnv := ((E0.add1 n_s_ctGood s_ctGood_sh s_ctGood_fo s_ctGood).add1 n_s_mxList s_mxList_sh s_mxList_fo s_mxList)
theorem s_ClosesUp_Eok : (s_ClosesUp_E).OK := ((E0ok.add1 s_ctGood_ok).add1 s_mxList_ok)
noncomputable def s_ClosesUp_told : Nat → Option SealT := fun id => none
theorem s_ClosesUp_ok : FOK Try.prog n_s_ClosesUp s_ClosesUp_sh s_ClosesUp_fo s_ClosesUp :=
  fn_ok (E := s_ClosesUp_E) (s_ClosesUp_Eok) (told := s_ClosesUp_told) (fl := []) (c := bodyOf fn_s_ClosesUp) (s := s_ClosesUp_sh) (l := s_ClosesUp_fo) (tree := s_ClosesUp_t) fnat_s_ClosesUp (by kernel_rfl) (by kernel_rfl) (by kernel_rfl) (loopsOK_of (ls := []) (by kernel_rfl) trivial) (fun v => by kernel_rfl)

theorem s_ClosesUp_eq (l : List Int) (hl : l.length < 4611686018427387904) : s_ClosesUp l = some (isTerms l && decide (mOf l = (-1, 0, 0, -1)), isTerms l) := by
  simp only [s_ClosesUp, s_ClosesUp_t, T.run, s_ctGood_eq l hl, Option.bind_some]
  cases h : isTerms l with
  | false => simp
  | true =>
    rw [s_mxList_eq l h]
    generalize mOf l = m
    obtain ⟨a, b, c, d⟩ := m
    simp [beq_int]


def i_IsTermList_1_sh : FSh := ⟨[(.one (.si .i64))], []⟩

def i_IsTermList_1_fo : List FO := [⟨[(.one .sb)], []⟩]
noncomputable def i_IsTermList_1_t : Int → T Bool := fun n =>
  (.sub (i_within (n, ((-30), (30 : Int)))) fun z0 =>
  (.ret (! z0)))
noncomputable def i_IsTermList_1 (v : Int) : Option Bool := (i_IsTermList_1_t v).run
noncomputable def i_IsTermList_1_E : TEnv := (E0.add1 n_i_within i_within_sh i_within_fo i_within)
theorem i_IsTermList_1_Eok : (i_IsTermList_1_E).OK := (E0ok.add1 i_within_ok)
noncomputable def i_IsTermList_1_told : Nat → Option SealT := fun id => none
theorem i_IsTermList_1_ok : FOK Try.prog n_i_IsTermList_1 i_IsTermList_1_sh i_IsTermList_1_fo i_IsTermList_1 :=
  fn_ok (E := i_IsTermList_1_E) (i_IsTermList_1_Eok) (told := i_IsTermList_1_told) (fl := []) (c := bodyOf fn_i_IsTermList_1) (s := i_IsTermList_1_sh) (l := i_IsTermList_1_fo) (tree := i_IsTermList_1_t) fnat_i_IsTermList_1 (by kernel_rfl) (by kernel_rfl) (by kernel_rfl) (loopsOK_of (ls := []) (by kernel_rfl) trivial) (fun v => by kernel_rfl)

theorem i_IsTermList_1_eq (k : Int) : i_IsTermList_1 k = some (!inB (-30) 30 k) := by
  simp only [i_IsTermList_1, i_IsTermList_1_t, T.run, i_within_eq, Option.bind_some]


def slices_IndexFunc_int__i_IsTermList_1_sh : FSh := ⟨[(.one (.sl (.int .i64) false false)), (.one (.fn n_i_IsTermList_1))], []⟩

def slices_IndexFunc_int__i_IsTermList_1_L2_sh : LSh := ⟨(fun ex => match ex with | .norm => [(0, none), (1, none), (7, none), (8, none)] | .exit i => if i = 0 then [] else [] | .ret => [(4, none)]), [(0, (.one (.sl (.int .i64) false false))), (1, (.one (.fn n_i_IsTermList_1))), (7, (.one (.si .i64))), (8, (.one (.si .i64)))], [], [⟨.ret, [(4, (.one (.si .i64)))], []⟩, ⟨(.exit 0), [], []⟩]⟩
noncomputable def slices_IndexFunc_int__i_IsTermList_1_L2_step : (List (Int) × Unit × Int × Int) → T ((List (Int) × Unit × Int × Int) ⊕ (Int ⊕ Unit)) := fun (s, (), t7, t8) =>
  (.test (decide (t8 < t7))
  (.test (decide ((0 ≤ t8) ∧ (t8 < ((List.length s) : Int))))
   (.sub (s[(Int.toNat t8)]?) fun z0 =>
    (.sub (i_IsTermList_1 z0) fun z1 =>
    (.test z1
    (.ret (Sum.inr (Sum.inl t8)))
    (.ret (Sum.inl (s, ((), (t7, (w64 (t8 + 1))))))))))
   .fail)
  (.ret (Sum.inr (Sum.inr ()))))
noncomputable def slices_IndexFunc_int__i_IsTermList_1_L2 (v : (List (Int) × Unit × Int × Int)) : Option (Int ⊕ Unit) := loopO (fun v => (slices_IndexFunc_int__i_IsTermList_1_L2_step v).run) v

def slices_IndexFunc_int__i_IsTermList_1_fo : List FO := [⟨[(.one (.si .i64))], []⟩]
noncomputable def slices_IndexFunc_int__i_IsTermList_1_t : (List (Int) × Unit) → T Int := fun (s, ()) =>
  (.sub (slices_IndexFunc_int__i_IsTermList_1_L2 (s, ((), (((List.length s) : Int), (0 : Int))))) fun z0 =>
  (.test (Sum.isLeft z0)
  (.sub (Sum.getLeft? z0) fun z1 =>
   (.ret z1))
  (.sub (Sum.getRight? z0) fun z2 =>
   (.ret (-1)))))
noncomputable def slices_IndexFunc_int__i_IsTermList_1 (v : (List (Int) × Unit)) : Option Int := (slices_IndexFunc_int__i_IsTermList_1_t v).run
noncomputable def slices_IndexFunc_int__i_IsTermList_1_E : TEnv := (E0.add1 n_i_IsTermList_1 i_IsTermList_1_sh i_IsTermList_1_fo i_IsTermList_1)
theorem slices_IndexFunc_int__i_IsTermList_1_Eok : (slices_IndexFunc_int__i_IsTermList_1_E).OK := (E0ok.add1 i_IsTermList_1_ok)
noncomputable def slices_IndexFunc_int__i_IsTermList_1_told : Nat → Option SealT := fun id => if id = 2 then some (LSh.told slices_IndexFunc_int__i_IsTermList_1_L2_sh 0 (slices_IndexFunc_int__i_IsTermList_1_L2_step)) else none
theorem slices_IndexFunc_int__i_IsTermList_1_L2_ok : ToldOK Try.prog 0 (loopAt (bodyOf fn_slices_IndexFunc_int) [0]) (LSh.told slices_IndexFunc_int__i_IsTermList_1_L2_sh 0 (slices_IndexFunc_int__i_IsTermList_1_L2_step)) :=
  loop_ok (E := slices_IndexFunc_int__i_IsTermList_1_E) (slices_IndexFunc_int__i_IsTermList_1_Eok) (told := slices_IndexFunc_int__i_IsTermList_1_told) (l := slices_IndexFunc_int__i_IsTermList_1_L2_sh) (step := slices_IndexFunc_int__i_IsTermList_1_L2_step) (loopsOK_of (ls := []) (by kernel_rfl) trivial) (by kernel_rfl) (fun v => by kernel_rfl)
theorem slices_IndexFunc_int__i_IsTermList_1_ok : FOK Try.prog n_slices_IndexFunc_int slices_IndexFunc_int__i_IsTermList_1_sh slices_IndexFunc_int__i_IsTermList_1_fo slices_IndexFunc_int__i_IsTermList_1 :=
  fn_ok (E := slices_IndexFunc_int__i_IsTermList_1_E) (slices_IndexFunc_int__i_IsTermList_1_Eok) (told := slices_IndexFunc_int__i_IsTermList_1_told) (fl := []) (c := bodyOf fn_slices_IndexFunc_int) (s := slices_IndexFunc_int__i_IsTermList_1_sh) (l := slices_IndexFunc_int__i_IsTermList_1_fo) (tree := slices_IndexFunc_int__i_IsTermList_1_t) fnat_slices_IndexFunc_int (by kernel_rfl) (by kernel_rfl) (by kernel_rfl) (loopsOK_of (ls := [loopAt (bodyOf fn_slices_IndexFunc_int) [0]]) (by kernel_rfl) ⟨.inr ⟨_, by kernel_rfl, slices_IndexFunc_int__i_IsTermList_1_L2_ok⟩, trivial⟩) (fun v => by kernel_rfl)

theorem slices_IndexFunc_int__i_IsTermList_1_eq (l : List Int) (hl : l.length < 4611686018427387904) : slices_IndexFunc_int__i_IsTermList_1 (l, ()) = some (idxI (fun k => !inB (-30) 30 k) l) := by
  have h := loop_find (step := fun v => (slices_IndexFunc_int__i_IsTermList_1_L2_step v).run) (xs := l) (fun k => !inB (-30) 30 k) (fun k => (l, (), (l.length : Int), (k : Int))) (fun k => .inl (k : Int)) (.inr ())
    (fun k x hx => by
      have hk := getElem?_lt hx
      simp only [slices_IndexFunc_int__i_IsTermList_1_L2_step, T.run, i_IsTermList_1_eq, Option.bind_some, Int.toNat_natCast, hx]
      rw [w64_id (by omega) (by omega)]
      cases inB (-30) 30 x <;> simp [hk])
    (by simp [slices_IndexFunc_int__i_IsTermList_1_L2_step, T.run])
  simp only [slices_IndexFunc_int__i_IsTermList_1, slices_IndexFunc_int__i_IsTermList_1_t, T.run, slices_IndexFunc_int__i_IsTermList_1_L2]
  simp only [Int.natCast_zero] at h
  rw [h, idxI]
  cases l.findIdx? (fun k => !inB (-30) 30 k) <;> simp


def slices_ContainsFunc_int__i_IsTermList_1_sh : FSh := ⟨[(.one (.sl (.int .i64) false false)), (.one (.fn n_i_IsTermList_1))], []⟩

def slices_ContainsFunc_int__i_IsTermList_1_fo : List FO := [⟨[(.one .sb)], []⟩]
noncomputable def slices_ContainsFunc_int__i_IsTermList_1_t : (List (Int) × Unit) → T Bool := fun (s, ()) =>
  (.sub (slices_IndexFunc_int__i_IsTermList_1 (s, ())) fun z0 =>
  (.ret (decide (z0 ≥ 0))))
noncomputable def slices_ContainsFunc_int__i_IsTermList_1 (v : (List (Int) × Unit)) : Option Bool := (slices_ContainsFunc_int__i_IsTermList_1_t v).run
noncomputable def slices_ContainsFunc_int__i_IsTermList_1_E : TEnv := (E0.add1 n_slices_IndexFunc_int slices_IndexFunc_int__i_IsTermList_1_sh slices_IndexFunc_int__i_IsTermList_1_fo slices_IndexFunc_int__i_IsTermList_1)
theorem slices_ContainsFunc_int__i_IsTermList_1_Eok : (slices_ContainsFunc_int__i_IsTermList_1_E).OK := (E0ok.add1 slices_IndexFunc_int__i_IsTermList_1_ok)
noncomputable def slices_ContainsFunc_int__i_IsTermList_1_told : Nat → Option SealT := fun id => none
theorem slices_ContainsFunc_int__i_IsTermList_1_ok : FOK Try.prog n_slices_ContainsFunc_int slices_ContainsFunc_int__i_IsTermList_1_sh slices_ContainsFunc_int__i_IsTermList_1_fo slices_ContainsFunc_int__i_IsTermList_1 :=
  fn_ok (E := slices_ContainsFunc_int__i_IsTermList_1_E) (slices_ContainsFunc_int__i_IsTermList_1_Eok) (told := slices_ContainsFunc_int__i_IsTermList_1_told) (fl := []) (c := bodyOf fn_slices_ContainsFunc_int) (s := slices_ContainsFunc_int__i_IsTermList_1_sh) (l := slices_ContainsFunc_int__i_IsTermList_1_fo) (tree := slices_ContainsFunc_int__i_IsTermList_1_t) fnat_slices_ContainsFunc_int (by kernel_rfl) (by kernel_rfl) (by kernel_rfl) (loopsOK_of (ls := []) (by kernel_rfl) trivial) (fun v => by kernel_rfl)

theorem slices_ContainsFunc_int__i_IsTermList_1_eq (l : List Int) (hl : l.length < 4611686018427387904) : slices_ContainsFunc_int__i_IsTermList_1 (l, ()) = some (l.any (fun k => !inB (-30) 30 k)) := by
  simp only [slices_ContainsFunc_int__i_IsTermList_1, slices_ContainsFunc_int__i_IsTermList_1_t, T.run, slices_IndexFunc_int__i_IsTermList_1_eq _ hl, Option.bind_some, idxI_ge]


def i_IsTermList_sh : FSh := ⟨[(.one (.sl (.int .i64) false false))], []⟩

def i_IsTermList_fo : List FO := [⟨[(.one .sb)], []⟩]
noncomputable def i_IsTermList_t : List (Int) → T Bool := fun list =>
  (.test (decide (((List.length list) : Int) ≤ 10))
  (.sub (slices_ContainsFunc_int__i_IsTermList_1 (list, ())) fun z0 =>
   (.ret (! z0)))
  (.ret false))
noncomputable def i_IsTermList (v : List (Int)) : Option Bool := (i_IsTermList_t v).run
noncomputable def i_IsTermList_E : TEnv := (E0.add1 n_slices_ContainsFunc_int slices_ContainsFunc_int__i_IsTermList_1_sh slices_ContainsFunc_int__i_IsTermList_1_fo slices_ContainsFunc_int__i_IsTermList_1)
theorem i_IsTermList_Eok : (i_IsTermList_E).OK := (E0ok.add1 slices_ContainsFunc_int__i_IsTermList_1_ok)
noncomputable def i_IsTermList_told : Nat → Option SealT := fun id => none
theorem i_IsTermList_ok : FOK Try.prog n_i_IsTermList i_IsTermList_sh i_IsTermList_fo i_IsTermList :=
  fn_ok (E := i_IsTermList_E) (i_IsTermList_Eok) (told := i_IsTermList_told) (fl := []) (c := bodyOf fn_i_IsTermList) (s := i_IsTermList_sh) (l := i_IsTermList_fo) (tree := i_IsTermList_t) fnat_i_IsTermList (by kernel_rfl) (by kernel_rfl) (by kernel_rfl) (loopsOK_of (ls := []) (by kernel_rfl) trivial) (fun v => by kernel_rfl)

theorem i_IsTermList_eq (l : List Int) (hl : l.length < 4611686018427387904) : i_IsTermList l = some (isTerms l) := by
  simp only [i_IsTermList, i_IsTermList_t, T.run, slices_ContainsFunc_int__i_IsTermList_1_eq _ hl, Option.bind_some, isTerms, decide_eq_true_eq, all_any]
  by_cases h : l.length ≤ 10
  · rw [if_pos (by omega)]; simp [h]
  · rw [if_neg (by omega)]; simp [h]


def i_times_sh : FSh := ⟨[(.ag [(.si .i64), (.si .i64), (.si .i64), (.si .i64)]), (.ag [(.si .i64), (.si .i64), (.si .i64), (.si .i64)])], []⟩

def i_times_fo : List FO := [⟨[(.ag [(.si .i64), (.si .i64), (.si .i64), (.si .i64)])], []⟩]
noncomputable def i_times_t : ((Int × Int × Int × Int) × (Int × Int × Int × Int)) → T (Int × Int × Int × Int) := fun ((m_0, m_1, m_2, m_3), (k_0, k_1, k_2, k_3)) =>
  (.ret ((w64 ((w64 (m_0 * k_0)) + (w64 (m_1 * k_2)))), ((w64 ((w64 (m_0 * k_1)) + (w64 (m_1 * k_3)))), ((w64 ((w64 (m_2 * k_0)) + (w64 (m_3 * k_2)))), (w64 ((w64 (m_2 * k_1)) + (w64 (m_3 * k_3))))))))
noncomputable def i_times (v : ((Int × Int × Int × Int) × (Int × Int × Int × Int))) : Option (Int × Int × Int × Int) := (i_times_t v).run
noncomputable def i_times_E : TEnv := E0
theorem i_times_Eok : (i_times_E).OK := E0ok
noncomputable def i_times_told : Nat → Option SealT := fun id => none
theorem i_times_ok : FOK Try.prog n_i_times i_times_sh i_times_fo i_times :=
  fn_ok (E := i_times_E) (i_times_Eok) (told := i_times_told) (fl := []) (c := bodyOf fn_i_times) (s := i_times_sh) (l := i_times_fo) (tree := i_times_t) fnat_i_times (by kernel_rfl) (by kernel_rfl) (by kernel_rfl) (loopsOK_of (ls := []) (by kernel_rfl) trivial) (fun v => by kernel_rfl)

theorem i_times_eq (m k : M4) {A B : Int} (h : in4 A m) (h2 : in4 B k) (hAB : 2 * (A * B) ≤ 9223372036854775807) : i_times (m, k) = some (mul4 m k) := by
  obtain ⟨m0, m1, m2, m3⟩ := m
  obtain ⟨k0, k1, k2, k3⟩ := k
  simp only [in4] at h h2
  have a1 := mul_le (a := m0) (b := k0) (A := A) (B := B) (by omega) (by omega) (by omega) (by omega)
  have a2 := mul_le (a := m1) (b := k2) (A := A) (B := B) (by omega) (by omega) (by omega) (by omega)
  have a3 := mul_le (a := m0) (b := k1) (A := A) (B := B) (by omega) (by omega) (by omega) (by omega)
  have a4 := mul_le (a := m1) (b := k3) (A := A) (B := B) (by omega) (by omega) (by omega) (by omega)
  have a5 := mul_le (a := m2) (b := k0) (A := A) (B := B) (by omega) (by omega) (by omega) (by omega)
  have a6 := mul_le (a := m3) (b := k2) (A := A) (B := B) (by omega) (by omega) (by omega) (by omega)
  have a7 := mul_le (a := m2) (b := k1) (A := A) (B := B) (by omega) (by omega) (by omega) (by omega)
  have a8 := mul_le (a := m3) (b := k3) (A := A) (B := B) (by omega) (by omega) (by omega) (by omega)
  simp only [i_times, i_times_t, T.run]
  rw [w64_id (z := m0 * k0) (by omega) (by omega), w64_id (z := m1 * k2) (by omega) (by omega), w64_id (z := m0 * k1) (by omega) (by omega), w64_id (z := m1 * k3) (by omega) (by omega),
    w64_id (z := m2 * k0) (by omega) (by omega), w64_id (z := m3 * k2) (by omega) (by omega), w64_id (z := m2 * k1) (by omega) (by omega), w64_id (z := m3 * k3) (by omega) (by omega),
    w64_id (by omega) (by omega), w64_id (by omega) (by omega), w64_id (by omega) (by omega), w64_id (by omega) (by omega)]
  rfl


def i_matrixOfList_sh : FSh := ⟨[(.one (.sl (.int .i64) false false))], []⟩

def i_matrixOfList_L3_sh : LSh := ⟨(fun ex => match ex with | .norm => [(2, none), (3, none), (7, none), (8, none), (9, none)] | .exit i => if i = 0 then [(2, none), (3, none)] else [] | .ret => [(2, none)]), [(2, (.one (.pf 0 0 0))), (3, (.one (.pf 1 0 0))), (7, (.one (.sl (.int .i64) false false))), (8, (.one (.si .i64))), (9, (.one (.si .i64)))], [(.rcd 0 [(.si .i64), (.si .i64), (.si .i64), (.si .i64)]), (.rcd 0 [(.si .i64), (.si .i64), (.si .i64), (.si .i64)])], [⟨(.exit 0), [(2, (.one (.pf 0 0 0))), (3, (.one (.pf 1 0 0)))], [(.rcd 0 [(.si .i64), (.si .i64), (.si .i64), (.si .i64)]), (.rcd 0 [(.si .i64), (.si .i64), (.si .i64), (.si .i64)])]⟩]⟩
noncomputable def i_matrixOfList_L3_step : ((Unit × Unit × List (Int) × Int × Int) × ((Int × Int × Int × Int) × (Int × Int × Int × Int))) → T (((Unit × Unit × List (Int) × Int × Int) × ((Int × Int × Int × Int) × (Int × Int × Int × Int))) ⊕ ((Unit × Unit) × ((Int × Int × Int × Int) × (Int × Int × Int × Int)))) := fun (((), (), t7, t8, t9), ((t2_0, t2_1, t2_2, t2_3), (out_0, out_1, out_2, out_3))) =>
  (.test (decide (t9 < t8))
  (.test (decide ((0 ≤ t9) ∧ (t9 < ((List.length t7) : Int))))
   (.sub (t7[(Int.toNat t9)]?) fun z0 =>
    (.sub (i_times ((out_0, (out_1, (out_2, out_3))), (z0, ((-1), ((1 : Int), (0 : Int)))))) fun z1 =>
    (.ret (Sum.inl (((), ((), (t7, (t8, (w64 (t9 + 1)))))), ((t2_0, (t2_1, (t2_2, t2_3))), (z1.1, (z1.2.1, (z1.2.2.1, z1.2.2.2)))))))))
   .fail)
  (.ret (Sum.inr (((), ()), ((t2_0, (t2_1, (t2_2, t2_3))), (out_0, (out_1, (out_2, out_3))))))))
noncomputable def i_matrixOfList_L3 (v : ((Unit × Unit × List (Int) × Int × Int) × ((Int × Int × Int × Int) × (Int × Int × Int × Int)))) : Option ((Unit × Unit) × ((Int × Int × Int × Int) × (Int × Int × Int × Int))) := loopO (fun v => (i_matrixOfList_L3_step v).run) v

def i_matrixOfList_fo : List FO := [⟨[(.ag [(.si .i64), (.si .i64), (.si .i64), (.si .i64)])], []⟩]
noncomputable def i_matrixOfList_t : List (Int) → T (Int × Int × Int × Int) := fun list =>
  (.sub (i_one ()) fun z0 =>
  (.sub (i_matrixOfList_L3 (((), ((), (list, (((List.length list) : Int), (0 : Int))))), (((0 : Int), ((0 : Int), ((0 : Int), (0 : Int)))), (z0.1, (z0.2.1, (z0.2.2.1, z0.2.2.2)))))) fun z1 =>
  (.ret (z1.2.2.1, (z1.2.2.2.1, (z1.2.2.2.2.1, z1.2.2.2.2.2))))))
noncomputable def i_matrixOfList (v : List (Int)) : Option (Int × Int × Int × Int) := (i_matrixOfList_t v).run
noncomputable def i_matrixOfList_E : TEnv := ((E0.add1 n_i_one i_one_sh i_one_fo i_one).add1 n_i_times i_times_sh i_times_fo i_times)
theorem i_matrixOfList_Eok : (i_matrixOfList_E).OK := ((E0ok.add1 i_one_ok).add1 i_times_ok)
noncomputable def i_matrixOfList_told : Nat → Option SealT := fun id => if id = 3 then some (LSh.told i_matrixOfList_L3_sh 0 (i_matrixOfList_L3_step)) else none
theorem i_matrixOfList_L3_ok : ToldOK Try.prog 0 (loopAt (bodyOf fn_i_matrixOfList) [0]) (LSh.told i_matrixOfList_L3_sh 0 (i_matrixOfList_L3_step)) :=
  loop_ok (E := i_matrixOfList_E) (i_matrixOfList_Eok) (told := i_matrixOfList_told) (l := i_matrixOfList_L3_sh) (step := i_matrixOfList_L3_step) (loopsOK_of (ls := []) (by kernel_rfl) trivial) (by kernel_rfl) (fun v => by kernel_rfl)
theorem i_matrixOfList_ok : FOK Try.prog n_i_matrixOfList i_matrixOfList_sh i_matrixOfList_fo i_matrixOfList :=
  fn_ok (E := i_matrixOfList_E) (i_matrixOfList_Eok) (told := i_matrixOfList_told) (fl := []) (c := bodyOf fn_i_matrixOfList) (s := i_matrixOfList_sh) (l := i_matrixOfList_fo) (tree := i_matrixOfList_t) fnat_i_matrixOfList (by kernel_rfl) (by kernel_rfl) (by kernel_rfl) (loopsOK_of (ls := [loopAt (bodyOf fn_i_matrixOfList) [0]]) (by kernel_rfl) ⟨.inr ⟨_, by kernel_rfl, i_matrixOfList_L3_ok⟩, trivial⟩) (fun v => by kernel_rfl)

theorem i_matrixOfList_eq (l : List Int) (h : isTerms l = true) : i_matrixOfList l = some (mOf l) := by
  obtain ⟨hl, ht⟩ := isTerms_iff.1 h
  have h := loop_fold (step := fun v => (i_matrixOfList_L3_step v).run) (xs := l) (fun k (m : M4) => m = mOf (l.take k)) (fun k (m : M4) => (((), (), l, (l.length : Int), (k : Int)), ((0, 0, 0, 0), m))) (fun m a => mul4 m (a, -1, 1, 0)) (fun m => (((), ()), ((0, 0, 0, 0), m)))
    (fun k m x hP hx => by
      have hk := getElem?_lt hx
      subst hP
      have hx2 := ht x (List.mem_of_getElem? hx)
      have hb := mOf_B (l.take k) (fun y hy => ht y (List.mem_of_mem_take hy))
      have hp := pw_le (k := (l.take k).length) (by simp; omega)
      have hp2 := pw_pos (l.take k).length
      have hm := i_times_eq (mOf (l.take k)) (x, -1, 1, 0) (A := pw (l.take k).length) (B := 30) hb (by simp only [in4]; omega) (by omega)
      constructor
      · simp only [i_matrixOfList_L3_step, T.run, Option.bind_some, Int.toNat_natCast, hx]
        have e : ((mOf (l.take k)).1, (mOf (l.take k)).2.1, (mOf (l.take k)).2.2.1, (mOf (l.take k)).2.2.2) = mOf (l.take k) := rfl
        rw [w64_id (by omega) (by omega), e, hm]
        simp [hk]
      · rw [← mOf_snoc]
        rw [List.take_succ_eq_append_getElem hk, (List.getElem?_eq_some_iff.1 hx).2])
    (fun m hP => by simp [i_matrixOfList_L3_step, T.run]) one4 (by simp [mOf])
  simp only [i_matrixOfList, i_matrixOfList_t, T.run, i_matrixOfList_L3, i_one_eq, Option.bind_some, one4]
  simp only [Int.natCast_zero, one4] at h
  rw [h.1, Option.bind_some]
  have h2 := h.2
  rw [List.take_length] at h2
  simp only [h2]


def i_ClosesUp_sh : FSh := ⟨[(.one (.sl (.int .i64) false false))], []⟩

def i_ClosesUp_fo : List FO := [⟨[(.one .sb), (.one .sb)], []⟩]
noncomputable def i_ClosesUp_t : List (Int) → T (Bool × Bool) := fun list =>
  (.sub (i_IsTermList list) fun z0 =>
  (.test (! z0)
  (.ret (false, false))
  (.sub (i_matrixOfList list) fun z1 =>
   (.ret (((z1.1 == (-1)) && ((z1.2.1 == 0) && ((z1.2.2.1 == 0) && ((z1.2.2.2 == (-1)) && true)))), true)))))
noncomputable def i_ClosesUp (v : List (Int)) : Option (Bool × Bool) := (i_ClosesUp_t v).run
noncomputable def i_ClosesUp_E : TEnv := ((E0.add1 n_i_IsTermList i_IsTermList_sh i_IsTermList_fo i_IsTermList).add1 n_i_matrixOfList i_matrixOfList_sh i_matrixOfList_fo i_matrixOfList)
theorem i_ClosesUp_Eok : (i_ClosesUp_E).OK := ((E0ok.add1 i_IsTermList_ok).add1 i_matrixOfList_ok)
noncomputable def i_ClosesUp_told : Nat → Option SealT := fun id => none
theorem i_ClosesUp_ok : FOK Try.prog n_i_ClosesUp i_ClosesUp_sh i_ClosesUp_fo i_ClosesUp :=
  fn_ok (E := i_ClosesUp_E) (i_ClosesUp_Eok) (told := i_ClosesUp_told) (fl := []) (c := bodyOf fn_i_ClosesUp) (s := i_ClosesUp_sh) (l := i_ClosesUp_fo) (tree := i_ClosesUp_t) fnat_i_ClosesUp (by kernel_rfl) (by kernel_rfl) (by kernel_rfl) (loopsOK_of (ls := []) (by kernel_rfl) trivial) (fun v => by kernel_rfl)

theorem i_ClosesUp_eq (l : List Int) (hl : l.length < 4611686018427387904) : i_ClosesUp l = some (isTerms l && decide (mOf l = (-1, 0, 0, -1)), isTerms l) := by
  simp only [i_ClosesUp, i_ClosesUp_t, T.run, i_IsTermList_eq l hl, Option.bind_some]
  cases h : isTerms l with
  | false => simp
  | true =>
    rw [i_matrixOfList_eq l h]
    generalize mOf l = m
    obtain ⟨a, b, c, d⟩ := m
    simp [beq_int]


def l_eqIntS_sh : FSh := ⟨[(.one (.sl (.int .i64) false false)), (.one (.sl (.int .i64) false false))], []⟩

def l_eqIntS_L4_sh : LSh := ⟨(fun ex => match ex with | .norm => [(0, none), (1, none), (5, none)] | .exit i => if i = 0 then [] else [] | .ret => [(4, none)]), [(0, (.one (.sl (.int .i64) false false))), (1, (.one (.sl (.int .i64) false false))), (5, (.one (.si .i64)))], [], [⟨.ret, [(4, (.one .sb))], []⟩, ⟨(.exit 0), [], []⟩]⟩
noncomputable def l_eqIntS_L4_step : (List (Int) × List (Int) × Int) → T ((List (Int) × List (Int) × Int) ⊕ (Bool ⊕ Unit)) := fun (a, b, i) =>
  (.test (decide (i < ((List.length a) : Int)))
  (.test (decide ((0 ≤ i) ∧ (i < ((List.length a) : Int))))
   (.sub (a[(Int.toNat i)]?) fun z0 =>
    (.test (decide ((0 ≤ i) ∧ (i < ((List.length b) : Int))))
    (.sub (b[(Int.toNat i)]?) fun z1 =>
     (.test (z0 != z1)
     (.ret (Sum.inr (Sum.inl false)))
     (.ret (Sum.inl (a, (b, (w64 (i + 1))))))))
    .fail))
   .fail)
  (.ret (Sum.inr (Sum.inr ()))))
noncomputable def l_eqIntS_L4 (v : (List (Int) × List (Int) × Int)) : Option (Bool ⊕ Unit) := loopO (fun v => (l_eqIntS_L4_step v).run) v

def l_eqIntS_fo : List FO := [⟨[(.one .sb)], []⟩]
noncomputable def l_eqIntS_t : (List (Int) × List (Int)) → T Bool := fun (a, b) =>
  (.test (((List.length a) : Int) != ((List.length b) : Int))
  (.ret false)
  (.sub (l_eqIntS_L4 (a, (b, (0 : Int)))) fun z0 =>
   (.test (Sum.isLeft z0)
   (.sub (Sum.getLeft? z0) fun z1 =>
    (.ret z1))
   (.sub (Sum.getRight? z0) fun z2 =>
    (.ret true)))))
noncomputable def l_eqIntS (v : (List (Int) × List (Int))) : Option Bool := (l_eqIntS_t v).run
noncomputable def l_eqIntS_E : TEnv := E0
theorem l_eqIntS_Eok : (l_eqIntS_E).OK := E0ok
noncomputable def l_eqIntS_told : Nat → Option SealT := fun id => if id = 4 then some (LSh.told l_eqIntS_L4_sh 0 (l_eqIntS_L4_step)) else none
theorem l_eqIntS_L4_ok : ToldOK Try.prog 0 (loopAt (bodyOf fn_l_eqIntS) [0]) (LSh.told l_eqIntS_L4_sh 0 (l_eqIntS_L4_step)) :=
  loop_ok (E := l_eqIntS_E) (l_eqIntS_Eok) (told := l_eqIntS_told) (l := l_eqIntS_L4_sh) (step := l_eqIntS_L4_step) (loopsOK_of (ls := []) (by kernel_rfl) trivial) (by kernel_rfl) (fun v => by kernel_rfl)
theorem l_eqIntS_ok : FOK Try.prog n_l_eqIntS l_eqIntS_sh l_eqIntS_fo l_eqIntS :=
  fn_ok (E := l_eqIntS_E) (l_eqIntS_Eok) (told := l_eqIntS_told) (fl := []) (c := bodyOf fn_l_eqIntS) (s := l_eqIntS_sh) (l := l_eqIntS_fo) (tree := l_eqIntS_t) fnat_l_eqIntS (by kernel_rfl) (by kernel_rfl) (by kernel_rfl) (loopsOK_of (ls := [loopAt (bodyOf fn_l_eqIntS) [0]]) (by kernel_rfl) ⟨.inr ⟨_, by kernel_rfl, l_eqIntS_L4_ok⟩, trivial⟩) (fun v => by kernel_rfl)

theorem l_eqIntS_eq (a b : List Int) (hl : a.length < 4611686018427387904) : l_eqIntS (a, b) = some (decide (a = b)) := by
  by_cases hab : a.length = b.length
  · have h := loop_any (step := fun v => (l_eqIntS_L4_step v).run) (xs := a.zip b) (fun p => p.1 != p.2) (fun k => (a, b, (k : Int))) (.inl false) (.inr ())
      (fun k x hx => by
        have hk := getElem?_lt hx
        rw [List.length_zip, hab, Nat.min_self] at hk
        rw [List.getElem?_zip_eq_some] at hx
        simp only [l_eqIntS_L4_step, T.run, Option.bind_some, Int.toNat_natCast, hx.1, hx.2]
        rw [w64_id (by omega) (by omega)]
        have hka : k < a.length := by omega
        cases x.1 != x.2 <;> simp [hk, hka])
      (by simp [l_eqIntS_L4_step, T.run, hab])
    simp only [l_eqIntS, l_eqIntS_t, T.run, l_eqIntS_L4]
    simp only [Int.natCast_zero] at h
    rw [h, hab]
    have e : (a.zip b).any (fun p => p.1 != p.2) = !decide (a = b) := zip_any_ne a b hab
    rw [e]
    cases decide (a = b) <;> simp
  · simp only [l_eqIntS, l_eqIntS_t, T.run]
    have : a ≠ b := fun e => hab (by rw [e])
    simp [this]
    omega


def l_FnExactClosesUp_sh : FSh := ⟨[(.one (.sl (.int .i64) false false))], []⟩

def l_FnExactClosesUp_fo : List FO := [⟨[(.one .sb)], []⟩]
noncomputable def l_FnExactClosesUp_t : List (Int) → T Bool := fun aList =>
  (.test (decide (((List.length aList) : Int) > 1048576))
  (.ret true)
  (.sub (l_toIntS aList) fun z0 =>
   (.test (decide ((0 + (List.length z0.2)) ≤ (List.length z0.2)))
   (.sub (s_ClosesUp (win z0.2 0 (List.length z0.2))) fun z1 =>
    (.sub (l_toIntS aList) fun z2 =>
    (.test (decide ((0 + (List.length z2.2)) ≤ (List.length z2.2)))
    (.sub (i_ClosesUp (win z2.2 0 (List.length z2.2))) fun z3 =>
     (.test (! (z3.1 == z1.1))
     (.ret false)
     (.test (! (z3.2 == z1.2))
      (.ret false)
      (.sub (l_toIntS aList) fun z4 =>
       (.test (decide ((0 + (List.length z2.2)) ≤ (List.length z2.2)))
       (.test (decide ((0 + (List.length z4.2)) ≤ (List.length z4.2)))
        (.sub (l_eqIntS ((win z2.2 0 (List.length z2.2)), (win z4.2 0 (List.length z4.2)))) fun z5 =>
         (.test (! z5)
         (.ret false)
         (.ret true)))
        .fail)
       .fail)))))
    .fail)))
   .fail)))
noncomputable def l_FnExactClosesUp (v : List (Int)) : Option Bool := (l_FnExactClosesUp_t v).run
noncomputable def l_FnExactClosesUp_E : TEnv := ((((E0.add1 n_l_toIntS l_toIntS_sh l_toIntS_fo l_toIntS).add1 n_s_ClosesUp s_ClosesUp_sh s_ClosesUp_fo s_ClosesUp).add1 n_i_ClosesUp i_ClosesUp_sh i_ClosesUp_fo i_ClosesUp).add1 n_l_eqIntS l_eqIntS_sh l_eqIntS_fo l_eqIntS)
theorem l_FnExactClosesUp_Eok : (l_FnExactClosesUp_E).OK := ((((E0ok.add1 l_toIntS_ok).add1 s_ClosesUp_ok).add1 i_ClosesUp_ok).add1 l_eqIntS_ok)
noncomputable def l_FnExactClosesUp_told : Nat → Option SealT := fun id => none
theorem l_FnExactClosesUp_ok : FOK Try.prog n_l_FnExactClosesUp l_FnExactClosesUp_sh l_FnExactClosesUp_fo l_FnExactClosesUp :=
  fn_ok (E := l_FnExactClosesUp_E) (l_FnExactClosesUp_Eok) (told := l_FnExactClosesUp_told) (fl := []) (c := bodyOf fn_l_FnExactClosesUp) (s := l_FnExactClosesUp_sh) (l := l_FnExactClosesUp_fo) (tree := l_FnExactClosesUp_t) fnat_l_FnExactClosesUp (by kernel_rfl) (by kernel_rfl) (by kernel_rfl) (loopsOK_of (ls := []) (by kernel_rfl) trivial) (fun v => by kernel_rfl)

theorem l_FnExactClosesUp_true (l : List Int) (hs : smallL ASh.small [.one (.sl (.int .i64) false false)] l) : l_FnExactClosesUp l = some true := by
  have hl : l.length < 4611686018427387904 := by have := hs.1; omega
  simp only [l_FnExactClosesUp, l_FnExactClosesUp_t, T.run, Option.bind_some, decide_eq_true_eq]
  split
  · rfl
  · have h : l.length < 10000000000000 := by omega
    simp [l_toIntS_eq l h, win_all, s_ClosesUp_eq l hl, i_ClosesUp_eq l hl, l_eqIntS_eq l l hl]


def l_szIntS_sh : FSh := ⟨[(.one (.sl (.int .i64) false false)), (.one (.si .i64))], []⟩

def l_szIntS_fo : List FO := [⟨[(.one (.si .i64))], []⟩]
noncomputable def l_szIntS_t : (List (Int) × Int) → T Int := fun (a, left) =>
  (.test (decide ((w64 (left - ((List.length a) : Int))) < 0))
  (.ret (-1))
  (.ret (w64 (left - ((List.length a) : Int)))))
noncomputable def l_szIntS (v : (List (Int) × Int)) : Option Int := (l_szIntS_t v).run
noncomputable def l_szIntS_E : TEnv := E0
theorem l_szIntS_Eok : (l_szIntS_E).OK := E0ok
noncomputable def l_szIntS_told : Nat → Option SealT := fun id => none
theorem l_szIntS_ok : FOK Try.prog n_l_szIntS l_szIntS_sh l_szIntS_fo l_szIntS :=
  fn_ok (E := l_szIntS_E) (l_szIntS_Eok) (told := l_szIntS_told) (fl := []) (c := bodyOf fn_l_szIntS) (s := l_szIntS_sh) (l := l_szIntS_fo) (tree := l_szIntS_t) fnat_l_szIntS (by kernel_rfl) (by kernel_rfl) (by kernel_rfl) (loopsOK_of (ls := []) (by kernel_rfl) trivial) (fun v => by kernel_rfl)

theorem l_szIntS_eq (a : List Int) (n : Int) (h1 : n.natAbs < 4611686018427387904) (h2 : a.length < 4611686018427387904) : l_szIntS (a, n) = some (if n - a.length < 0 then -1 else n - a.length) := by
  simp only [l_szIntS, l_szIntS_t, T.run]
  rw [w64_id (by omega) (by omega)]
  simp only [decide_eq_true_eq]
  split <;> rfl


def l_szPuzzle_sh : FSh := ⟨[(.ag [(.sl (.int .i64) false false)]), (.one (.si .i64))], []⟩

def l_szPuzzle_fo : List FO := [⟨[(.one (.si .i64))], []⟩]
noncomputable def l_szPuzzle_t : (List (Int) × Int) → T Int := fun (a_0, left) =>
  (.sub (l_szIntS (a_0, left)) fun z0 =>
  (.test (decide (z0 < 0))
  (.ret (-1))
  (.ret z0)))
noncomputable def l_szPuzzle (v : (List (Int) × Int)) : Option Int := (l_szPuzzle_t v).run
noncomputable def l_szPuzzle_E : TEnv := (E0.add1 n_l_szIntS l_szIntS_sh l_szIntS_fo l_szIntS)
theorem l_szPuzzle_Eok : (l_szPuzzle_E).OK := (E0ok.add1 l_szIntS_ok)
noncomputable def l_szPuzzle_told : Nat → Option SealT := fun id => none
theorem l_szPuzzle_ok : FOK Try.prog n_l_szPuzzle l_szPuzzle_sh l_szPuzzle_fo l_szPuzzle :=
  fn_ok (E := l_szPuzzle_E) (l_szPuzzle_Eok) (told := l_szPuzzle_told) (fl := []) (c := bodyOf fn_l_szPuzzle) (s := l_szPuzzle_sh) (l := l_szPuzzle_fo) (tree := l_szPuzzle_t) fnat_l_szPuzzle (by kernel_rfl) (by kernel_rfl) (by kernel_rfl) (loopsOK_of (ls := []) (by kernel_rfl) trivial) (fun v => by kernel_rfl)

theorem l_szPuzzle_eq (a : List Int) (n : Int) (h1 : n.natAbs < 4611686018427387904) (h2 : a.length < 4611686018427387904) : l_szPuzzle (a, n) = some (if n - a.length < 0 then -1 else n - a.length) := by
  simp only [l_szPuzzle, l_szPuzzle_t, T.run, l_szIntS_eq a n h1 h2, Option.bind_some, decide_eq_true_eq]
  split <;> simp_all


def l_toPuzzle_sh : FSh := ⟨[(.ag [(.sl (.int .i64) false false)])], []⟩

def l_toPuzzle_fo : List FO := [⟨[(.ag [(.rw 0 0)])], [(.row 0 (.int .i64))]⟩]
noncomputable def l_toPuzzle_t : List (Int) → T (Unit × List (Int)) := fun a_0 =>
  (.sub (l_toIntS a_0) fun z0 =>
  (.test (decide ((0 = 0) ∧ ((List.length z0.2) = (List.length z0.2))))
  (.ret ((), z0.2))
  .fail))
noncomputable def l_toPuzzle (v : List (Int)) : Option (Unit × List (Int)) := (l_toPuzzle_t v).run
noncomputable def l_toPuzzle_E : TEnv := (E0.add1 n_l_toIntS l_toIntS_sh l_toIntS_fo l_toIntS)
theorem l_toPuzzle_Eok : (l_toPuzzle_E).OK := (E0ok.add1 l_toIntS_ok)
noncomputable def l_toPuzzle_told : Nat → Option SealT := fun id => none
theorem l_toPuzzle_ok : FOK Try.prog n_l_toPuzzle l_toPuzzle_sh l_toPuzzle_fo l_toPuzzle :=
  fn_ok (E := l_toPuzzle_E) (l_toPuzzle_Eok) (told := l_toPuzzle_told) (fl := []) (c := bodyOf fn_l_toPuzzle) (s := l_toPuzzle_sh) (l := l_toPuzzle_fo) (tree := l_toPuzzle_t) fnat_l_toPuzzle (by kernel_rfl) (by kernel_rfl) (by kernel_rfl) (loopsOK_of (ls := []) (by kernel_rfl) trivial) (fun v => by kernel_rfl)

theorem l_toPuzzle_eq (a : List Int) (hl : a.length < 10000000000000) : l_toPuzzle a = some ((), a) := by
  simp [l_toPuzzle, l_toPuzzle_t, T.run, l_toIntS_eq a hl]


def s_pzGood_sh : FSh := ⟨[(.ag [(.sl (.int .i64) false false)])], []⟩

def s_pzGood_fo : List FO := [⟨[(.one .sb)], []⟩]
noncomputable def s_pzGood_t : List (Int) → T Bool := fun p_0 =>
  (.sub (s_l1In (((List.length p_0) : Int), ((3 : Int), (9 : Int)))) fun z0 =>
  (.test z0
  (.sub (s_l1All (p_0, ((0 : Int), (w64 (((List.length p_0) : Int) - 2))))) fun z1 =>
   (.ret z1))
  (.ret false)))
noncomputable def s_pzGood (v : List (Int)) : Option Bool := (s_pzGood_t v).run
noncomputable def s_pzGood_E : TEnv := ((E0.add1 n_s_l1In s_l1In_sh s_l1In_fo s_l1In).add1 n_s_l1All s_l1All_sh s_l1All_fo s_l1All)
theorem s_pzGood_Eok : (s_pzGood_E).OK := ((E0ok.add1 s_l1In_ok).add1 s_l1All_ok)
noncomputable def s_pzGood_told : Nat → Option SealT := fun id => none
theorem s_pzGood_ok : FOK Try.prog n_s_pzGood s_pzGood_sh s_pzGood_fo s_pzGood :=
  fn_ok (E := s_pzGood_E) (s_pzGood_Eok) (told := s_pzGood_told) (fl := []) (c := bodyOf fn_s_pzGood) (s := s_pzGood_sh) (l := s_pzGood_fo) (tree := s_pzGood_t) fnat_s_pzGood (by kernel_rfl) (by kernel_rfl) (by kernel_rfl) (loopsOK_of (ls := []) (by kernel_rfl) trivial) (fun v => by kernel_rfl)

theorem s_pzGood_eq (l : List Int) (hl : l.length < 4611686018427387904) : s_pzGood l = some (isPz l) := by
  simp only [s_pzGood, s_pzGood_t, T.run, s_l1In_eq, Option.bind_some, s_l1All_eq _ _ _ hl, isPz]
  rw [w64_id (by omega) (by omega)]
  cases inB 3 9 l.length <;> simp


def s_CountGaps_sh : FSh := ⟨[(.ag [(.sl (.int .i64) false false)])], []⟩

def s_CountGaps_L5_sh : LSh := ⟨(fun ex => match ex with | .norm => [(4, none), (11, none), (12, none), (13, none)] | .exit i => if i = 0 then [(4, none)] else [] | .ret => [(2, none), (3, none)]), [(4, (.one (.si .i64))), (11, (.one (.sl (.int .i64) false false))), (12, (.one (.si .i64))), (13, (.one (.si .i64)))], [], [⟨(.exit 0), [(4, (.one (.si .i64)))], []⟩]⟩
noncomputable def s_CountGaps_L5_step : (Int × List (Int) × Int × Int) → T ((Int × List (Int) × Int × Int) ⊕ Int) := fun (n, t11, t12, t13) =>
  (.test (decide (t13 < t12))
  (.test (decide ((0 ≤ t13) ∧ (t13 < ((List.length t11) : Int))))
   (.sub (t11[(Int.toNat t13)]?) fun z0 =>
    (.test (z0 == 0)
    (.ret (Sum.inl ((w64 (n + 1)), (t11, (t12, (w64 (t13 + 1)))))))
    (.ret (Sum.inl (n, (t11, (t12, (w64 (t13 + 1)))))))))
   .fail)
  (.ret (Sum.inr n)))
noncomputable def s_CountGaps_L5 (v : (Int × List (Int) × Int × Int)) : Option Int := loopO (fun v => (s_CountGaps_L5_step v).run) v

def s_CountGaps_fo : List FO := [⟨[(.one (.si .i64)), (.one .sb)], []⟩]
noncomputable def s_CountGaps_t : List (Int) → T (Int × Bool) := fun p_0 =>
  (.sub (s_pzGood p_0) fun z0 =>
  (.test (! z0)
  (.ret ((0 : Int), false))
  (.sub (s_CountGaps_L5 ((0 : Int), (p_0, (((List.length p_0) : Int), (0 : Int))))) fun z1 =>
   (.ret (z1, true)))))
noncomputable def s_CountGaps (v : List (Int)) : Option (Int × Bool) := (s_CountGaps_t v).run
noncomputable def s_CountGaps_E : TEnv := (E0.add1 n_s_pzGood s_pzGood_sh s_pzGood_fo s_pzGood)
theorem s_CountGaps_Eok : (s_CountGaps_E).OK := (E0ok.add1 s_pzGood_ok)
noncomputable def s_CountGaps_told : Nat → Option SealT := fun id => if id = 5 then some (LSh.told s_CountGaps_L5_sh 0 (s_CountGaps_L5_step)) else none
theorem s_CountGaps_L5_ok : ToldOK Try.prog 0 (loopAt (bodyOf fn_s_CountGaps) [0]) (LSh.told s_CountGaps_L5_sh 0 (s_CountGaps_L5_step)) :=
  loop_ok (E := s_CountGaps_E) (s_CountGaps_Eok) (told := s_CountGaps_told) (l := s_CountGaps_L5_sh) (step := s_CountGaps_L5_step) (loopsOK_of (ls := []) (by kernel_rfl) trivial) (by kernel_rfl) (fun v => by kernel_rfl)
theorem s_CountGaps_ok : FOK Try.prog n_s_CountGaps s_CountGaps_sh s_CountGaps_fo s_CountGaps :=
  fn_ok (E := s_CountGaps_E) (s_CountGaps_Eok) (told := s_CountGaps_told) (fl := []) (c := bodyOf fn_s_CountGaps) (s := s_CountGaps_sh) (l := s_CountGaps_fo) (tree := s_CountGaps_t) fnat_s_CountGaps (by kernel_rfl) (by kernel_rfl) (by kernel_rfl) (loopsOK_of (ls := [loopAt (bodyOf fn_s_CountGaps) [0]]) (by kernel_rfl) ⟨.inr ⟨_, by kernel_rfl, s_CountGaps_L5_ok⟩, trivial⟩) (fun v => by kernel_rfl)

theorem s_CountGaps_L5_eq (l : List Int) (hl : l.length < 4611686018427387904) : s_CountGaps_L5 (0, l, (l.length : Int), 0) = some (gaps l) := by
  have h := loop_fold (step := fun v => (s_CountGaps_L5_step v).run) (xs := l) (fun (k : Nat) (s : Int) => 0 ≤ s ∧ s ≤ k) (fun k s => (s, l, (l.length : Int), (k : Int))) (fun c x => if x == 0 then c + 1 else c) (fun s => s)
    (fun k s x hP hx => by
      have hk := getElem?_lt hx
      simp only [s_CountGaps_L5_step, T.run, Option.bind_some, Int.toNat_natCast, hx]
      rw [w64_id (by omega) (by omega), w64_id (by omega) (by omega)]
      cases x == 0 <;> simp [hk] <;> omega)
    (fun s hP => by simp [s_CountGaps_L5_step, T.run]) 0 (by omega)
  simp only [s_CountGaps_L5]
  simp only [Int.natCast_zero] at h
  rw [h.1, gaps_fold]
  simp
theorem s_CountGaps_eq (l : List Int) (hl : l.length < 4611686018427387904) : s_CountGaps l = some (if isPz l then gaps l else 0, isPz l) := by
  simp only [s_CountGaps, s_CountGaps_t, T.run, s_pzGood_eq l hl, Option.bind_some, s_CountGaps_L5_eq l hl]
  cases isPz l <;> simp


def i_IsPuzzle_1_sh : FSh := ⟨[(.one (.si .i64)), (.one (.pf 0 0 0))], [(.rcd 0 [(.si .i64)])]⟩

def i_IsPuzzle_1_fo : List FO := [⟨[(.one .sb)], [(.rcd 0 [(.si .i64)])]⟩]
noncomputable def i_IsPuzzle_1_t : ((Int × Unit) × Int) → T (Bool × Int) := fun ((k, ()), t1_0) =>
  (.sub (i_within (k, ((0 : Int), (w64 (t1_0 - 2))))) fun z0 =>
  (.ret ((! z0), t1_0)))
noncomputable def i_IsPuzzle_1 (v : ((Int × Unit) × Int)) : Option (Bool × Int) := (i_IsPuzzle_1_t v).run
noncomputable def i_IsPuzzle_1_E : TEnv := (E0.add1 n_i_within i_within_sh i_within_fo i_within)
theorem i_IsPuzzle_1_Eok : (i_IsPuzzle_1_E).OK := (E0ok.add1 i_within_ok)
noncomputable def i_IsPuzzle_1_told : Nat → Option SealT := fun id => none
theorem i_IsPuzzle_1_ok : FOK Try.prog n_i_IsPuzzle_1 i_IsPuzzle_1_sh i_IsPuzzle_1_fo i_IsPuzzle_1 :=
  fn_ok (E := i_IsPuzzle_1_E) (i_IsPuzzle_1_Eok) (told := i_IsPuzzle_1_told) (fl := []) (c := bodyOf fn_i_IsPuzzle_1) (s := i_IsPuzzle_1_sh) (l := i_IsPuzzle_1_fo) (tree := i_IsPuzzle_1_t) fnat_i_IsPuzzle_1 (by kernel_rfl) (by kernel_rfl) (by kernel_rfl) (loopsOK_of (ls := []) (by kernel_rfl) trivial) (fun v => by kernel_rfl)

theorem i_IsPuzzle_1_eq (k c : Int) (h : 0 ≤ c) (h2 : c < 4611686018427387904) : i_IsPuzzle_1 ((k, ()), c) = some (!inB 0 (c - 2) k, c) := by
  simp only [i_IsPuzzle_1, i_IsPuzzle_1_t, T.run, i_within_eq, Option.bind_some]
  rw [w64_id (by omega) (by omega)]


def slices_IndexFunc_int__i_IsPuzzle_1_sh : FSh := ⟨[(.one (.sl (.int .i64) false false)), (.clo n_i_IsPuzzle_1 [(.one (.pf 0 0 0))])], [(.rcd 0 [(.si .i64)])]⟩

def slices_IndexFunc_int__i_IsPuzzle_1_L2_sh : LSh := ⟨(fun ex => match ex with | .norm => [(0, none), (1, none), (7, none), (8, none)] | .exit i => if i = 0 then [] else [] | .ret => [(4, none)]), [(0, (.one (.sl (.int .i64) false false))), (1, (.clo n_i_IsPuzzle_1 [(.one (.pf 0 0 0))])), (7, (.one (.si .i64))), (8, (.one (.si .i64)))], [(.rcd 0 [(.si .i64)])], [⟨.ret, [(4, (.one (.si .i64)))], [(.rcd 0 [(.si .i64)])]⟩, ⟨(.exit 0), [], [(.rcd 0 [(.si .i64)])]⟩]⟩
noncomputable def slices_IndexFunc_int__i_IsPuzzle_1_L2_step : ((List (Int) × Unit × Int × Int) × Int) → T (((List (Int) × Unit × Int × Int) × Int) ⊕ ((Int × Int) ⊕ (Unit × Int))) := fun ((s, (), t7, t8), r0_0) =>
  (.test (decide (t8 < t7))
  (.test (decide ((0 ≤ t8) ∧ (t8 < ((List.length s) : Int))))
   (.sub (s[(Int.toNat t8)]?) fun z0 =>
    (.sub (i_IsPuzzle_1 ((z0, ()), r0_0)) fun z1 =>
    (.test z1.1
    (.ret (Sum.inr (Sum.inl (t8, z1.2))))
    (.ret (Sum.inl ((s, ((), (t7, (w64 (t8 + 1))))), z1.2))))))
   .fail)
  (.ret (Sum.inr (Sum.inr ((), r0_0)))))
noncomputable def slices_IndexFunc_int__i_IsPuzzle_1_L2 (v : ((List (Int) × Unit × Int × Int) × Int)) : Option ((Int × Int) ⊕ (Unit × Int)) := loopO (fun v => (slices_IndexFunc_int__i_IsPuzzle_1_L2_step v).run) v

def slices_IndexFunc_int__i_IsPuzzle_1_fo : List FO := [⟨[(.one (.si .i64))], [(.rcd 0 [(.si .i64)])]⟩]
noncomputable def slices_IndexFunc_int__i_IsPuzzle_1_t : ((List (Int) × Unit) × Int) → T (Int × Int) := fun ((s, ()), r0_0) =>
  (.sub (slices_IndexFunc_int__i_IsPuzzle_1_L2 ((s, ((), (((List.length s) : Int), (0 : Int)))), r0_0)) fun z0 =>
  (.test (Sum.isLeft z0)
  (.sub (Sum.getLeft? z0) fun z1 =>
   (.ret (z1.1, z1.2)))
  (.sub (Sum.getRight? z0) fun z2 =>
   (.ret ((-1), z2.2)))))
noncomputable def slices_IndexFunc_int__i_IsPuzzle_1 (v : ((List (Int) × Unit) × Int)) : Option (Int × Int) := (slices_IndexFunc_int__i_IsPuzzle_1_t v).run
noncomputable def slices_IndexFunc_int__i_IsPuzzle_1_E : TEnv := (E0.add1 n_i_IsPuzzle_1 i_IsPuzzle_1_sh i_IsPuzzle_1_fo i_IsPuzzle_1)
theorem slices_IndexFunc_int__i_IsPuzzle_1_Eok : (slices_IndexFunc_int__i_IsPuzzle_1_E).OK := (E0ok.add1 i_IsPuzzle_1_ok)
noncomputable def slices_IndexFunc_int__i_IsPuzzle_1_told : Nat → Option SealT := fun id => if id = 2 then some (LSh.told slices_IndexFunc_int__i_IsPuzzle_1_L2_sh 1 (slices_IndexFunc_int__i_IsPuzzle_1_L2_step)) else none
theorem slices_IndexFunc_int__i_IsPuzzle_1_L2_ok : ToldOK Try.prog 1 (loopAt (bodyOf fn_slices_IndexFunc_int) [0]) (LSh.told slices_IndexFunc_int__i_IsPuzzle_1_L2_sh 1 (slices_IndexFunc_int__i_IsPuzzle_1_L2_step)) :=
  loop_ok (E := slices_IndexFunc_int__i_IsPuzzle_1_E) (slices_IndexFunc_int__i_IsPuzzle_1_Eok) (told := slices_IndexFunc_int__i_IsPuzzle_1_told) (l := slices_IndexFunc_int__i_IsPuzzle_1_L2_sh) (step := slices_IndexFunc_int__i_IsPuzzle_1_L2_step) (loopsOK_of (ls := []) (by kernel_rfl) trivial) (by kernel_rfl) (fun v => by kernel_rfl)
theorem slices_IndexFunc_int__i_IsPuzzle_1_ok : FOK Try.prog n_slices_IndexFunc_int slices_IndexFunc_int__i_IsPuzzle_1_sh slices_IndexFunc_int__i_IsPuzzle_1_fo slices_IndexFunc_int__i_IsPuzzle_1 :=
  fn_ok (E := slices_IndexFunc_int__i_IsPuzzle_1_E) (slices_IndexFunc_int__i_IsPuzzle_1_Eok) (told := slices_IndexFunc_int__i_IsPuzzle_1_told) (fl := []) (c := bodyOf fn_slices_IndexFunc_int) (s := slices_IndexFunc_int__i_IsPuzzle_1_sh) (l := slices_IndexFunc_int__i_IsPuzzle_1_fo) (tree := slices_IndexFunc_int__i_IsPuzzle_1_t) fnat_slices_IndexFunc_int (by kernel_rfl) (by kernel_rfl) (by kernel_rfl) (loopsOK_of (ls := [loopAt (bodyOf fn_slices_IndexFunc_int) [0]]) (by kernel_rfl) ⟨.inr ⟨_, by kernel_rfl, slices_IndexFunc_int__i_IsPuzzle_1_L2_ok⟩, trivial⟩) (fun v => by kernel_rfl)

theorem slices_IndexFunc_int__i_IsPuzzle_1_eq (l : List Int) (c : Int) (hl : l.length < 4611686018427387904) (h : 0 ≤ c) (h2 : c < 4611686018427387904) : slices_IndexFunc_int__i_IsPuzzle_1 ((l, ()), c) = some (idxI (fun k => !inB 0 (c - 2) k) l, c) := by
  have h := loop_find (step := fun v => (slices_IndexFunc_int__i_IsPuzzle_1_L2_step v).run) (xs := l) (fun k => !inB 0 (c - 2) k) (fun k => ((l, (), (l.length : Int), (k : Int)), c)) (fun k => .inl ((k : Int), c)) (.inr ((), c))
    (fun k x hx => by
      have hk := getElem?_lt hx
      simp only [slices_IndexFunc_int__i_IsPuzzle_1_L2_step, T.run, i_IsPuzzle_1_eq _ _ h h2, Option.bind_some, Int.toNat_natCast, hx]
      rw [w64_id (by omega) (by omega)]
      cases inB 0 (c - 2) x <;> simp [hk])
    (by simp [slices_IndexFunc_int__i_IsPuzzle_1_L2_step, T.run])
  simp only [slices_IndexFunc_int__i_IsPuzzle_1, slices_IndexFunc_int__i_IsPuzzle_1_t, T.run, slices_IndexFunc_int__i_IsPuzzle_1_L2]
  simp only [Int.natCast_zero] at h
  rw [h, idxI]
  cases l.findIdx? (fun k => !inB 0 (c - 2) k) <;> simp


def slices_ContainsFunc_int__i_IsPuzzle_1_sh : FSh := ⟨[(.one (.sl (.int .i64) false false)), (.clo n_i_IsPuzzle_1 [(.one (.pf 0 0 0))])], [(.rcd 0 [(.si .i64)])]⟩

def slices_ContainsFunc_int__i_IsPuzzle_1_fo : List FO := [⟨[(.one .sb)], [(.rcd 0 [(.si .i64)])]⟩]
noncomputable def slices_ContainsFunc_int__i_IsPuzzle_1_t : ((List (Int) × Unit) × Int) → T (Bool × Int) := fun ((s, ()), r0_0) =>
  (.sub (slices_IndexFunc_int__i_IsPuzzle_1 ((s, ()), r0_0)) fun z0 =>
  (.ret ((decide (z0.1 ≥ 0)), z0.2)))
noncomputable def slices_ContainsFunc_int__i_IsPuzzle_1 (v : ((List (Int) × Unit) × Int)) : Option (Bool × Int) := (slices_ContainsFunc_int__i_IsPuzzle_1_t v).run
noncomputable def slices_ContainsFunc_int__i_IsPuzzle_1_E : TEnv := (E0.add1 n_slices_IndexFunc_int slices_IndexFunc_int__i_IsPuzzle_1_sh slices_IndexFunc_int__i_IsPuzzle_1_fo slices_IndexFunc_int__i_IsPuzzle_1)
theorem slices_ContainsFunc_int__i_IsPuzzle_1_Eok : (slices_ContainsFunc_int__i_IsPuzzle_1_E).OK := (E0ok.add1 slices_IndexFunc_int__i_IsPuzzle_1_ok)
noncomputable def slices_ContainsFunc_int__i_IsPuzzle_1_told : Nat → Option SealT := fun id => none
theorem slices_ContainsFunc_int__i_IsPuzzle_1_ok : FOK Try.prog n_slices_ContainsFunc_int slices_ContainsFunc_int__i_IsPuzzle_1_sh slices_ContainsFunc_int__i_IsPuzzle_1_fo slices_ContainsFunc_int__i_IsPuzzle_1 :=
  fn_ok (E := slices_ContainsFunc_int__i_IsPuzzle_1_E) (slices_ContainsFunc_int__i_IsPuzzle_1_Eok) (told := slices_ContainsFunc_int__i_IsPuzzle_1_told) (fl := []) (c := bodyOf fn_slices_ContainsFunc_int) (s := slices_ContainsFunc_int__i_IsPuzzle_1_sh) (l := slices_ContainsFunc_int__i_IsPuzzle_1_fo) (tree := slices_ContainsFunc_int__i_IsPuzzle_1_t) fnat_slices_ContainsFunc_int (by kernel_rfl) (by kernel_rfl) (by kernel_rfl) (loopsOK_of (ls := []) (by kernel_rfl) trivial) (fun v => by kernel_rfl)

theorem slices_ContainsFunc_int__i_IsPuzzle_1_eq (l : List Int) (c : Int) (hl : l.length < 4611686018427387904) (h : 0 ≤ c) (h2 : c < 4611686018427387904) : slices_ContainsFunc_int__i_IsPuzzle_1 ((l, ()), c) = some (l.any (fun k => !inB 0 (c - 2) k), c) := by
  simp only [slices_ContainsFunc_int__i_IsPuzzle_1, slices_ContainsFunc_int__i_IsPuzzle_1_t, T.run, slices_IndexFunc_int__i_IsPuzzle_1_eq _ _ hl h h2, Option.bind_some, idxI_ge]


def i_IsPuzzle_sh : FSh := ⟨[(.ag [(.sl (.int .i64) false false)])], []⟩

def i_IsPuzzle_fo : List FO := [⟨[(.one .sb)], []⟩]
noncomputable def i_IsPuzzle_t : List (Int) → T Bool := fun p_0 =>
  (.sub (i_within (((List.length p_0) : Int), ((3 : Int), (9 : Int)))) fun z0 =>
  (.test z0
  (.sub (slices_ContainsFunc_int__i_IsPuzzle_1 ((p_0, ()), ((List.length p_0) : Int))) fun z1 =>
   (.ret (! z1.1)))
  (.ret false)))
noncomputable def i_IsPuzzle (v : List (Int)) : Option Bool := (i_IsPuzzle_t v).run
noncomputable def i_IsPuzzle_E : TEnv := ((E0.add1 n_i_within i_within_sh i_within_fo i_within).add1 n_slices_ContainsFunc_int slices_ContainsFunc_int__i_IsPuzzle_1_sh slices_ContainsFunc_int__i_IsPuzzle_1_fo slices_ContainsFunc_int__i_IsPuzzle_1)
theorem i_IsPuzzle_Eok : (i_IsPuzzle_E).OK := ((E0ok.add1 i_within_ok).add1 slices_ContainsFunc_int__i_IsPuzzle_1_ok)
noncomputable def i_IsPuzzle_told : Nat → Option SealT := fun id => none
theorem i_IsPuzzle_ok : FOK Try.prog n_i_IsPuzzle i_IsPuzzle_sh i_IsPuzzle_fo i_IsPuzzle :=
  fn_ok (E := i_IsPuzzle_E) (i_IsPuzzle_Eok) (told := i_IsPuzzle_told) (fl := []) (c := bodyOf fn_i_IsPuzzle) (s := i_IsPuzzle_sh) (l := i_IsPuzzle_fo) (tree := i_IsPuzzle_t) fnat_i_IsPuzzle (by kernel_rfl) (by kernel_rfl) (by kernel_rfl) (loopsOK_of (ls := []) (by kernel_rfl) trivial) (fun v => by kernel_rfl)

theorem i_IsPuzzle_eq (l : List Int) (hl : l.length < 4611686018427387904) : i_IsPuzzle l = some (isPz l) := by
  simp only [i_IsPuzzle, i_IsPuzzle_t, T.run, i_within_eq, Option.bind_some, slices_ContainsFunc_int__i_IsPuzzle_1_eq l l.length hl (by omega) (by omega), all_any, isPz]
  cases inB 3 9 l.length <;> simp


def i_CountGaps_sh : FSh := ⟨[(.ag [(.sl (.int .i64) false false)])], []⟩

def i_CountGaps_L5_sh : LSh := ⟨(fun ex => match ex with | .norm => [(4, none), (11, none), (12, none), (13, none)] | .exit i => if i = 0 then [(4, none)] else [] | .ret => [(2, none), (3, none)]), [(4, (.one (.si .i64))), (11, (.one (.sl (.int .i64) false false))), (12, (.one (.si .i64))), (13, (.one (.si .i64)))], [], [⟨(.exit 0), [(4, (.one (.si .i64)))], []⟩]⟩
noncomputable def i_CountGaps_L5_step : (Int × List (Int) × Int × Int) → T ((Int × List (Int) × Int × Int) ⊕ Int) := fun (count, t11, t12, t13) =>
  (.test (decide (t13 < t12))
  (.test (decide ((0 ≤ t13) ∧ (t13 < ((List.length t11) : Int))))
   (.sub (t11[(Int.toNat t13)]?) fun z0 =>
    (.test (z0 == 0)
    (.ret (Sum.inl ((w64 (count + 1)), (t11, (t12, (w64 (t13 + 1)))))))
    (.ret (Sum.inl (count, (t11, (t12, (w64 (t13 + 1)))))))))
   .fail)
  (.ret (Sum.inr count)))
noncomputable def i_CountGaps_L5 (v : (Int × List (Int) × Int × Int)) : Option Int := loopO (fun v => (i_CountGaps_L5_step v).run) v

def i_CountGaps_fo : List FO := [⟨[(.one (.si .i64)), (.one .sb)], []⟩]
noncomputable def i_CountGaps_t : List (Int) → T (Int × Bool) := fun p_0 =>
  (.sub (i_IsPuzzle p_0) fun z0 =>
  (.test (! z0)
  (.ret ((0 : Int), false))
  (.sub (i_CountGaps_L5 ((0 : Int), (p_0, (((List.length p_0) : Int), (0 : Int))))) fun z1 =>
   (.ret (z1, true)))))
noncomputable def i_CountGaps (v : List (Int)) : Option (Int × Bool) := (i_CountGaps_t v).run
noncomputable def i_CountGaps_E : TEnv := (E0.add1 n_i_IsPuzzle i_IsPuzzle_sh i_IsPuzzle_fo i_IsPuzzle)
theorem i_CountGaps_Eok : (i_CountGaps_E).OK := (E0ok.add1 i_IsPuzzle_ok)
noncomputable def i_CountGaps_told : Nat → Option SealT := fun id => if id = 5 then some (LSh.told i_CountGaps_L5_sh 0 (i_CountGaps_L5_step)) else none
theorem i_CountGaps_L5_ok : ToldOK Try.prog 0 (loopAt (bodyOf fn_i_CountGaps) [0]) (LSh.told i_CountGaps_L5_sh 0 (i_CountGaps_L5_step)) :=
  loop_ok (E := i_CountGaps_E) (i_CountGaps_Eok) (told := i_CountGaps_told) (l := i_CountGaps_L5_sh) (step := i_CountGaps_L5_step) (loopsOK_of (ls := []) (by kernel_rfl) trivial) (by kernel_rfl) (fun v => by kernel_rfl)
theorem i_CountGaps_ok : FOK Try.prog n_i_CountGaps i_CountGaps_sh i_CountGaps_fo i_CountGaps :=
  fn_ok (E := i_CountGaps_E) (i_CountGaps_Eok) (told := i_CountGaps_told) (fl := []) (c := bodyOf fn_i_CountGaps) (s := i_CountGaps_sh) (l := i_CountGaps_fo) (tree := i_CountGaps_t) fnat_i_CountGaps (by kernel_rfl) (by kernel_rfl) (by kernel_rfl) (loopsOK_of (ls := [loopAt (bodyOf fn_i_CountGaps) [0]]) (by kernel_rfl) ⟨.inr ⟨_, by kernel_rfl, i_CountGaps_L5_ok⟩, trivial⟩) (fun v => by kernel_rfl)

theorem i_CountGaps_L5_eq (l : List Int) (hl : l.length < 4611686018427387904) : i_CountGaps_L5 (0, l, (l.length : Int), 0) = some (gaps l) := by
  have h := loop_fold (step := fun v => (i_CountGaps_L5_step v).run) (xs := l) (fun (k : Nat) (s : Int) => 0 ≤ s ∧ s ≤ k) (fun k s => (s, l, (l.length : Int), (k : Int))) (fun c x => if x == 0 then c + 1 else c) (fun s => s)
    (fun k s x hP hx => by
      have hk := getElem?_lt hx
      simp only [i_CountGaps_L5_step, T.run, Option.bind_some, Int.toNat_natCast, hx]
      rw [w64_id (by omega) (by omega), w64_id (by omega) (by omega)]
      cases x == 0 <;> simp [hk] <;> omega)
    (fun s hP => by simp [i_CountGaps_L5_step, T.run]) 0 (by omega)
  simp only [i_CountGaps_L5]
  simp only [Int.natCast_zero] at h
  rw [h.1, gaps_fold]
  simp
theorem i_CountGaps_eq (l : List Int) (hl : l.length < 4611686018427387904) : i_CountGaps l = some (if isPz l then gaps l else 0, isPz l) := by
  simp only [i_CountGaps, i_CountGaps_t, T.run, i_IsPuzzle_eq l hl, Option.bind_some, i_CountGaps_L5_eq l hl]
  cases isPz l <;> simp


def l_eqPuzzle_sh : FSh := ⟨[(.ag [(.sl (.int .i64) false false)]), (.ag [(.sl (.int .i64) false false)])], []⟩

def l_eqPuzzle_fo : List FO := [⟨[(.one .sb)], []⟩]
noncomputable def l_eqPuzzle_t : (List (Int) × List (Int)) → T Bool := fun (a_0, b_0) =>
  (.sub (l_eqIntS (a_0, b_0)) fun z0 =>
  (.test (! z0)
  (.ret false)
  (.ret true)))
noncomputable def l_eqPuzzle (v : (List (Int) × List (Int))) : Option Bool := (l_eqPuzzle_t v).run
noncomputable def l_eqPuzzle_E : TEnv := (E0.add1 n_l_eqIntS l_eqIntS_sh l_eqIntS_fo l_eqIntS)
theorem l_eqPuzzle_Eok : (l_eqPuzzle_E).OK := (E0ok.add1 l_eqIntS_ok)
noncomputable def l_eqPuzzle_told : Nat → Option SealT := fun id => none
theorem l_eqPuzzle_ok : FOK Try.prog n_l_eqPuzzle l_eqPuzzle_sh l_eqPuzzle_fo l_eqPuzzle :=
  fn_ok (E := l_eqPuzzle_E) (l_eqPuzzle_Eok) (told := l_eqPuzzle_told) (fl := []) (c := bodyOf fn_l_eqPuzzle) (s := l_eqPuzzle_sh) (l := l_eqPuzzle_fo) (tree := l_eqPuzzle_t) fnat_l_eqPuzzle (by kernel_rfl) (by kernel_rfl) (by kernel_rfl) (loopsOK_of (ls := []) (by kernel_rfl) trivial) (fun v => by kernel_rfl)

theorem l_eqPuzzle_eq (a b : List Int) (hl : a.length < 4611686018427387904) : l_eqPuzzle (a, b) = some (decide (a = b)) := by
  simp only [l_eqPuzzle, l_eqPuzzle_t, T.run, l_eqIntS_eq a b hl, Option.bind_some]
  cases decide (a = b) <;> rfl


def l_FnExactCountGaps_sh : FSh := ⟨[(.ag [(.sl (.int .i64) false false)])], []⟩

def l_FnExactCountGaps_fo : List FO := [⟨[(.one .sb)], []⟩]
noncomputable def l_FnExactCountGaps_t : List (Int) → T Bool := fun aP_0 =>
  (.sub (l_szPuzzle (aP_0, (1048576 : Int))) fun z0 =>
  (.test (decide (z0 < 0))
  (.ret true)
  (.sub (l_toPuzzle aP_0) fun z1 =>
   (.test (decide ((0 + (List.length z1.2)) ≤ (List.length z1.2)))
   (.sub (s_CountGaps (win z1.2 0 (List.length z1.2))) fun z2 =>
    (.sub (l_toPuzzle aP_0) fun z3 =>
    (.test (decide ((0 + (List.length z3.2)) ≤ (List.length z3.2)))
    (.sub (i_CountGaps (win z3.2 0 (List.length z3.2))) fun z4 =>
     (.test (z4.1 != z2.1)
     (.ret false)
     (.test (! (z4.2 == z2.2))
      (.ret false)
      (.sub (l_toPuzzle aP_0) fun z5 =>
       (.test (decide ((0 + (List.length z3.2)) ≤ (List.length z3.2)))
       (.test (decide ((0 + (List.length z5.2)) ≤ (List.length z5.2)))
        (.sub (l_eqPuzzle ((win z3.2 0 (List.length z3.2)), (win z5.2 0 (List.length z5.2)))) fun z6 =>
         (.test (! z6)
         (.ret false)
         (.ret true)))
        .fail)
       .fail)))))
    .fail)))
   .fail))))
noncomputable def l_FnExactCountGaps (v : List (Int)) : Option Bool := (l_FnExactCountGaps_t v).run
noncomputable def l_FnExactCountGaps_E : TEnv := (((((E0.add1 n_l_szPuzzle l_szPuzzle_sh l_szPuzzle_fo l_szPuzzle).add1 n_l_toPuzzle l_toPuzzle_sh l_toPuzzle_fo l_toPuzzle).add1 n_s_CountGaps s_CountGaps_sh s_CountGaps_fo s_CountGaps).add1 n_i_CountGaps i_CountGaps_sh i_CountGaps_fo i_CountGaps).add1 n_l_eqPuzzle l_eqPuzzle_sh l_eqPuzzle_fo l_eqPuzzle)
theorem l_FnExactCountGaps_Eok : (l_FnExactCountGaps_E).OK := (((((E0ok.add1 l_szPuzzle_ok).add1 l_toPuzzle_ok).add1 s_CountGaps_ok).add1 i_CountGaps_ok).add1 l_eqPuzzle_ok)
noncomputable def l_FnExactCountGaps_told : Nat → Option SealT := fun id => none
theorem l_FnExactCountGaps_ok : FOK Try.prog n_l_FnExactCountGaps l_FnExactCountGaps_sh l_FnExactCountGaps_fo l_FnExactCountGaps :=
  fn_ok (E := l_FnExactCountGaps_E) (l_FnExactCountGaps_Eok) (told := l_FnExactCountGaps_told) (fl := []) (c := bodyOf fn_l_FnExactCountGaps) (s := l_FnExactCountGaps_sh) (l := l_FnExactCountGaps_fo) (tree := l_FnExactCountGaps_t) fnat_l_FnExactCountGaps (by kernel_rfl) (by kernel_rfl) (by kernel_rfl) (loopsOK_of (ls := []) (by kernel_rfl) trivial) (fun v => by kernel_rfl)

theorem l_FnExactCountGaps_true (l : List Int) (hs : smallL ASh.small [.ag [.sl (.int .i64) false false]] l) : l_FnExactCountGaps l = some true := by
  have hl : l.length < 4611686018427387904 := by have := hs.1; omega
  simp only [l_FnExactCountGaps, l_FnExactCountGaps_t, T.run, l_szPuzzle_eq l 1048576 (by decide) hl, Option.bind_some, decide_eq_true_eq]
  split
  · rfl
  · have h : l.length < 10000000000000 := by omega
    simp [l_toPuzzle_eq l h, win_all, s_CountGaps_eq l hl, i_CountGaps_eq l hl, l_eqPuzzle_eq l l hl]


end Go.Proofs.W
