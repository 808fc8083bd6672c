/- Functions of the program, walked, and what they compute. -/
import Derived.Test.YtlicdnpbkijhjaaOrIds
set_option linter.unusedVariables false
set_option linter.unusedSimpArgs false
set_option maxRecDepth 100000
set_option maxHeartbeats 4000000
namespace Go.Proofs.W
open Go Go.Gm Go.Proofs
def l_toMatrix_sh : FSh := ⟨[(.ag [(.si .i64), (.si .i64), (.si .i64), (.si .i64)])], []⟩

def l_toMatrix_fo : List FO := [⟨[(.ag [(.si .i64), (.si .i64), (.si .i64), (.si .i64)])], []⟩]
noncomputable def l_toMatrix_t : (Int × Int × Int × Int) → T (Int × Int × Int × Int) := fun (a_0, a_1, a_2, a_3) =>
  (.ret (a_0, (a_1, (a_2, a_3))))
noncomputable def l_toMatrix (v : (Int × Int × Int × Int)) : Option (Int × Int × Int × Int) := (l_toMatrix_t v).run
noncomputable def l_toMatrix_E : TEnv := E0
theorem l_toMatrix_Eok : (l_toMatrix_E).OK := E0ok
noncomputable def l_toMatrix_told : Nat → Option SealT := fun id => none
theorem l_toMatrix_ok : FOK Try.prog n_l_toMatrix l_toMatrix_sh l_toMatrix_fo l_toMatrix :=
  fn_ok (E := l_toMatrix_E) (l_toMatrix_Eok) (told := l_toMatrix_told) (fl := []) (c := bodyOf fn_l_toMatrix) (s := l_toMatrix_sh) (l := l_toMatrix_fo) (tree := l_toMatrix_t) fnat_l_toMatrix (by kernel_rfl) (by kernel_rfl) (by kernel_rfl) (loopsOK_of (ls := []) (by kernel_rfl) trivial) (fun v => by kernel_rfl)

def s_l1In_sh : FSh := ⟨[(.one (.si .i64)), (.one (.si .i64)), (.one (.si .i64))], []⟩

def s_l1In_fo : List FO := [⟨[(.one .sb)], []⟩]
noncomputable def s_l1In_t : (Int × Int × Int) → T Bool := fun (n, lo, hi) =>
  (.test (decide (n ≥ lo))
  (.ret (decide (n ≤ hi)))
  (.ret false))
noncomputable def s_l1In (v : (Int × Int × Int)) : Option Bool := (s_l1In_t v).run
noncomputable def s_l1In_E : TEnv := E0
theorem s_l1In_Eok : (s_l1In_E).OK := E0ok
noncomputable def s_l1In_told : Nat → Option SealT := fun id => none
theorem s_l1In_ok : FOK Try.prog n_s_l1In s_l1In_sh s_l1In_fo s_l1In :=
  fn_ok (E := s_l1In_E) (s_l1In_Eok) (told := s_l1In_told) (fl := []) (c := bodyOf fn_s_l1In) (s := s_l1In_sh) (l := s_l1In_fo) (tree := s_l1In_t) fnat_s_l1In (by kernel_rfl) (by kernel_rfl) (by kernel_rfl) (loopsOK_of (ls := []) (by kernel_rfl) trivial) (fun v => by kernel_rfl)

theorem s_l1In_eq (n low high : Int) : s_l1In (n, low, high) = some (inB low high n) := by
  simp only [s_l1In, s_l1In_t, T.run, ge_iff_le, decide_eq_true_eq, inB]
  by_cases h : low ≤ n <;> simp [h]


def s_l1All_sh : FSh := ⟨[(.one (.sl (.int .i64) false false)), (.one (.si .i64)), (.one (.si .i64))], []⟩

def s_l1All_L2_sh : LSh := ⟨(fun ex => match ex with | .norm => [(1, none), (2, none), (9, none), (10, none), (11, none)] | .exit i => if i = 0 then [] else [] | .ret => [(6, none)]), [(1, (.one (.si .i64))), (2, (.one (.si .i64))), (9, (.one (.sl (.int .i64) false false))), (10, (.one (.si .i64))), (11, (.one (.si .i64)))], [], [⟨.ret, [(6, (.one .sb))], []⟩, ⟨(.exit 0), [], []⟩]⟩
noncomputable def s_l1All_L2_step : (Int × Int × List (Int) × Int × Int) → T ((Int × Int × List (Int) × Int × Int) ⊕ (Bool ⊕ Unit)) := fun (lo, hi, t9, t10, t11) =>
  (.test (decide (t11 < t10))
  (.test (decide ((0 ≤ t11) ∧ (t11 < ((List.length t9) : Int))))
   (.sub (t9[(Int.toNat t11)]?) fun z0 =>
    (.sub (s_l1In (z0, (lo, hi))) fun z1 =>
    (.test (! z1)
    (.ret (Sum.inr (Sum.inl false)))
    (.ret (Sum.inl (lo, (hi, (t9, (t10, (w64 (t11 + 1)))))))))))
   .fail)
  (.ret (Sum.inr (Sum.inr ()))))
noncomputable def s_l1All_L2 (v : (Int × Int × List (Int) × Int × Int)) : Option (Bool ⊕ Unit) := loopO (fun v => (s_l1All_L2_step v).run) v

def s_l1All_fo : List FO := [⟨[(.one .sb)], []⟩]
noncomputable def s_l1All_t : (List (Int) × Int × Int) → T Bool := fun (l, lo, hi) =>
  (.sub (s_l1All_L2 (lo, (hi, (l, (((List.length l) : Int), (0 : Int)))))) fun z0 =>
  (.test (Sum.isLeft z0)
  (.sub (Sum.getLeft? z0) fun z1 =>
   (.ret z1))
  (.sub (Sum.getRight? z0) fun z2 =>
   (.ret true))))
noncomputable def s_l1All (v : (List (Int) × Int × Int)) : Option Bool := (s_l1All_t v).run
noncomputable def s_l1All_E : TEnv := (E0.add1 n_s_l1In s_l1In_sh s_l1In_fo s_l1In)
theorem s_l1All_Eok : (s_l1All_E).OK := (E0ok.add1 s_l1In_ok)
noncomputable def s_l1All_told : Nat → Option SealT := fun id => if id = 2 then some (LSh.told s_l1All_L2_sh 0 (s_l1All_L2_step)) else none
theorem s_l1All_L2_ok : ToldOK Try.prog 0 (loopAt (bodyOf fn_s_l1All) [0]) (LSh.told s_l1All_L2_sh 0 (s_l1All_L2_step)) :=
  loop_ok (E := s_l1All_E) (s_l1All_Eok) (told := s_l1All_told) (l := s_l1All_L2_sh) (step := s_l1All_L2_step) (loopsOK_of (ls := []) (by kernel_rfl) trivial) (by kernel_rfl) (fun v => by kernel_rfl)
theorem s_l1All_ok : FOK Try.prog n_s_l1All s_l1All_sh s_l1All_fo s_l1All :=
  fn_ok (E := s_l1All_E) (s_l1All_Eok) (told := s_l1All_told) (fl := []) (c := bodyOf fn_s_l1All) (s := s_l1All_sh) (l := s_l1All_fo) (tree := s_l1All_t) fnat_s_l1All (by kernel_rfl) (by kernel_rfl) (by kernel_rfl) (loopsOK_of (ls := [loopAt (bodyOf fn_s_l1All) [0]]) (by kernel_rfl) ⟨.inr ⟨_, by kernel_rfl, s_l1All_L2_ok⟩, trivial⟩) (fun v => by kernel_rfl)

theorem s_l1All_eq (l : List Int) (lo hi : Int) (hl : l.length < 4611686018427387904) : s_l1All (l, lo, hi) = some (l.all (inB lo hi)) := by
  have h := loop_any (step := fun v => (s_l1All_L2_step v).run) (xs := l) (fun n => !inB lo hi n) (fun k => (lo, hi, l, (l.length : Int), (k : Int))) (.inl false) (.inr ())
    (fun k x hx => by
      have hk := getElem?_lt hx
      simp only [s_l1All_L2_step, T.run, s_l1In_eq, Option.bind_some, Int.toNat_natCast, hx]
      rw [w64_id (by omega) (by omega)]
      cases inB lo hi x <;> simp [hk])
    (by simp [s_l1All_L2_step, T.run])
  simp only [s_l1All, s_l1All_t, T.run, s_l1All_L2]
  simp only [Int.natCast_zero] at h
  rw [h, ← all_any]
  cases hb : l.any (fun n => !inB lo hi n) <;> simp


def s_mxGood_sh : FSh := ⟨[(.ag [(.si .i64), (.si .i64), (.si .i64), (.si .i64)])], []⟩

def s_mxGood_fo : List FO := [⟨[(.one .sb)], []⟩]
noncomputable def s_mxGood_t : (Int × Int × Int × Int) → T Bool := fun (m_0, m_1, m_2, m_3) =>
  (.test (decide (4 ≤ (List.length (List.set (List.set (List.set (List.set (List.replicate 4 (0 : Int)) 0 m_0) 1 m_1) 2 m_2) 3 m_3))))
  (.sub (s_l1All ((win (List.set (List.set (List.set (List.set (List.replicate 4 (0 : Int)) 0 m_0) 1 m_1) 2 m_2) 3 m_3) 0 4), ((-1000000000), (1000000000 : Int)))) fun z0 =>
   (.test z0
   (.ret ((w64 ((w64 (m_0 * m_3)) - (w64 (m_1 * m_2)))) == 1))
   (.ret false)))
  .fail)
noncomputable def s_mxGood (v : (Int × Int × Int × Int)) : Option Bool := (s_mxGood_t v).run
noncomputable def s_mxGood_E : TEnv := (E0.add1 n_s_l1All s_l1All_sh s_l1All_fo s_l1All)
theorem s_mxGood_Eok : (s_mxGood_E).OK := (E0ok.add1 s_l1All_ok)
noncomputable def s_mxGood_told : Nat → Option SealT := fun id => none
theorem s_mxGood_ok : FOK Try.prog n_s_mxGood s_mxGood_sh s_mxGood_fo s_mxGood :=
  fn_ok (E := s_mxGood_E) (s_mxGood_Eok) (told := s_mxGood_told) (fl := []) (c := bodyOf fn_s_mxGood) (s := s_mxGood_sh) (l := s_mxGood_fo) (tree := s_mxGood_t) fnat_s_mxGood (by kernel_rfl) (by kernel_rfl) (by kernel_rfl) (loopsOK_of (ls := []) (by kernel_rfl) trivial) (fun v => by kernel_rfl)

theorem s_mxGood_eq (m : M4) : s_mxGood m = some (good4 m) := by
  obtain ⟨a, b, c, d⟩ := m
  simp only [s_mxGood, s_mxGood_t, T.run]
  have e : win (List.set (List.set (List.set (List.set (List.replicate 4 (0 : Int)) 0 a) 1 b) 2 c) 3 d) 0 4 = [a, b, c, d] := rfl
  rw [e, s_l1All_eq _ _ _ (by simp)]
  simp only [List.length_set, List.length_replicate, Option.bind_some, good4, List.all_cons, List.all_nil, Bool.and_true]
  cases h : inB (-1000000000) 1000000000 a && (inB (-1000000000) 1000000000 b && (inB (-1000000000) 1000000000 c && inB (-1000000000) 1000000000 d)) with
  | false => simp
  | true =>
    simp only [Bool.and_eq_true, inB_iff] at h
    rw [det_w h.1 h.2.1 h.2.2.1 h.2.2.2]
    simp [beq_int]


def s_mxOne_sh : FSh := ⟨[], []⟩

def s_mxOne_fo : List FO := [⟨[(.ag [(.si .i64), (.si .i64), (.si .i64), (.si .i64)])], []⟩]
noncomputable def s_mxOne_t : Unit → T (Int × Int × Int × Int) := fun () =>
  (.ret ((1 : Int), ((0 : Int), ((0 : Int), (1 : Int)))))
noncomputable def s_mxOne (v : Unit) : Option (Int × Int × Int × Int) := (s_mxOne_t v).run
noncomputable def s_mxOne_E : TEnv := E0
theorem s_mxOne_Eok : (s_mxOne_E).OK := E0ok
noncomputable def s_mxOne_told : Nat → Option SealT := fun id => none
theorem s_mxOne_ok : FOK Try.prog n_s_mxOne s_mxOne_sh s_mxOne_fo s_mxOne :=
  fn_ok (E := s_mxOne_E) (s_mxOne_Eok) (told := s_mxOne_told) (fl := []) (c := bodyOf fn_s_mxOne) (s := s_mxOne_sh) (l := s_mxOne_fo) (tree := s_mxOne_t) fnat_s_mxOne (by kernel_rfl) (by kernel_rfl) (by kernel_rfl) (loopsOK_of (ls := []) (by kernel_rfl) trivial) (fun v => by kernel_rfl)

theorem s_mxOne_eq : s_mxOne () = some one4 := rfl


def s_mxTimes_sh : FSh := ⟨[(.ag [(.si .i64), (.si .i64), (.si .i64), (.si .i64)]), (.ag [(.si .i64), (.si .i64), (.si .i64), (.si .i64)])], []⟩

def s_mxTimes_fo : List FO := [⟨[(.ag [(.si .i64), (.si .i64), (.si .i64), (.si .i64)])], []⟩]
noncomputable def s_mxTimes_t : ((Int × Int × Int × Int) × (Int × Int × Int × Int)) → T (Int × Int × Int × Int) := fun ((m_0, m_1, m_2, m_3), (k_0, k_1, k_2, k_3)) =>
  (.ret ((w64 ((w64 (m_0 * k_0)) + (w64 (m_1 * k_2)))), ((w64 ((w64 (m_0 * k_1)) + (w64 (m_1 * k_3)))), ((w64 ((w64 (m_2 * k_0)) + (w64 (m_3 * k_2)))), (w64 ((w64 (m_2 * k_1)) + (w64 (m_3 * k_3))))))))
noncomputable def s_mxTimes (v : ((Int × Int × Int × Int) × (Int × Int × Int × Int))) : Option (Int × Int × Int × Int) := (s_mxTimes_t v).run
noncomputable def s_mxTimes_E : TEnv := E0
theorem s_mxTimes_Eok : (s_mxTimes_E).OK := E0ok
noncomputable def s_mxTimes_told : Nat → Option SealT := fun id => none
theorem s_mxTimes_ok : FOK Try.prog n_s_mxTimes s_mxTimes_sh s_mxTimes_fo s_mxTimes :=
  fn_ok (E := s_mxTimes_E) (s_mxTimes_Eok) (told := s_mxTimes_told) (fl := []) (c := bodyOf fn_s_mxTimes) (s := s_mxTimes_sh) (l := s_mxTimes_fo) (tree := s_mxTimes_t) fnat_s_mxTimes (by kernel_rfl) (by kernel_rfl) (by kernel_rfl) (loopsOK_of (ls := []) (by kernel_rfl) trivial) (fun v => by kernel_rfl)

theorem s_mxTimes_eq (m k : M4) (hm : in4 1000000000 m) (hk : in4 1000000000 k) : s_mxTimes (m, k) = some (mul4 m k) := by
  obtain ⟨a, b, c, d⟩ := m
  obtain ⟨e, f, g, h⟩ := k
  simp only [in4] at hm hk
  obtain ⟨a1, a2, b1, b2, c1, c2, d1, d2⟩ := hm
  obtain ⟨e1, e2, f1, f2, g1, g2, h1, h2⟩ := hk
  simp only [s_mxTimes, s_mxTimes_t, T.run, mul4]
  have x1 := mul_le a1 a2 e1 e2
  have x2 := mul_le b1 b2 g1 g2
  have x3 := mul_le a1 a2 f1 f2
  have x4 := mul_le b1 b2 h1 h2
  have x5 := mul_le c1 c2 e1 e2
  have x6 := mul_le d1 d2 g1 g2
  have x7 := mul_le c1 c2 f1 f2
  have x8 := mul_le d1 d2 h1 h2
  rw [w64_id (z := a * e) (by omega) (by omega), w64_id (z := b * g) (by omega) (by omega), w64_id (z := a * f) (by omega) (by omega), w64_id (z := b * h) (by omega) (by omega),
    w64_id (z := c * e) (by omega) (by omega), w64_id (z := d * g) (by omega) (by omega), w64_id (z := c * f) (by omega) (by omega), w64_id (z := d * h) (by omega) (by omega),
    w64_id (by omega) (by omega), w64_id (by omega) (by omega), w64_id (by omega) (by omega), w64_id (by omega) (by omega)]


def s_mxIf_sh : FSh := ⟨[(.ag [(.si .i64), (.si .i64), (.si .i64), (.si .i64)])], []⟩

def s_mxIf_fo : List FO := [⟨[(.ag [(.si .i64), (.si .i64), (.si .i64), (.si .i64)]), (.one .sb)], []⟩]
noncomputable def s_mxIf_t : (Int × Int × Int × Int) → T ((Int × Int × Int × Int) × Bool) := fun (m_0, m_1, m_2, m_3) =>
  (.sub (s_mxGood (m_0, (m_1, (m_2, m_3)))) fun z0 =>
  (.test (! z0)
  (.ret (((0 : Int), ((0 : Int), ((0 : Int), (0 : Int)))), false))
  (.ret ((m_0, (m_1, (m_2, m_3))), true))))
noncomputable def s_mxIf (v : (Int × Int × Int × Int)) : Option ((Int × Int × Int × Int) × Bool) := (s_mxIf_t v).run
noncomputable def s_mxIf_E : TEnv := (E0.add1 n_s_mxGood s_mxGood_sh s_mxGood_fo s_mxGood)
theorem s_mxIf_Eok : (s_mxIf_E).OK := (E0ok.add1 s_mxGood_ok)
noncomputable def s_mxIf_told : Nat → Option SealT := fun id => none
theorem s_mxIf_ok : FOK Try.prog n_s_mxIf s_mxIf_sh s_mxIf_fo s_mxIf :=
  fn_ok (E := s_mxIf_E) (s_mxIf_Eok) (told := s_mxIf_told) (fl := []) (c := bodyOf fn_s_mxIf) (s := s_mxIf_sh) (l := s_mxIf_fo) (tree := s_mxIf_t) fnat_s_mxIf (by kernel_rfl) (by kernel_rfl) (by kernel_rfl) (loopsOK_of (ls := []) (by kernel_rfl) trivial) (fun v => by kernel_rfl)

theorem s_mxIf_eq (m : M4) : s_mxIf m = some (if good4 m then (m, true) else ((0, 0, 0, 0), false)) := by
  obtain ⟨a, b, c, d⟩ := m
  simp only [s_mxIf, s_mxIf_t, T.run, s_mxGood_eq, Option.bind_some]
  cases good4 (a, b, c, d) <;> simp
theorem good4_in {m : M4} (h : good4 m = true) : in4 1000000000 m := by
  obtain ⟨a, b, c, d⟩ := m
  rw [good4_iff] at h
  simp only [in4]; omega


def i_size_sh : FSh := ⟨[(.one (.si .i64))], []⟩

def i_size_fo : List FO := [⟨[(.one (.si .i64))], []⟩]
noncomputable def i_size_t : Int → T Int := fun n =>
  (.ret (if ((w64 (0 - n)) > n) then (w64 (0 - n)) else n))
noncomputable def i_size (v : Int) : Option Int := (i_size_t v).run
noncomputable def i_size_E : TEnv := E0
theorem i_size_Eok : (i_size_E).OK := E0ok
noncomputable def i_size_told : Nat → Option SealT := fun id => none
theorem i_size_ok : FOK Try.prog n_i_size i_size_sh i_size_fo i_size :=
  fn_ok (E := i_size_E) (i_size_Eok) (told := i_size_told) (fl := []) (c := bodyOf fn_i_size) (s := i_size_sh) (l := i_size_fo) (tree := i_size_t) fnat_i_size (by kernel_rfl) (by kernel_rfl) (by kernel_rfl) (loopsOK_of (ls := []) (by kernel_rfl) trivial) (fun v => by kernel_rfl)

theorem i_size_eq (n : Int) (h : -9000000000000000000 ≤ n ∧ n ≤ 9000000000000000000) : i_size n = some (if 0 - n > n then 0 - n else n) := by
  simp only [i_size, i_size_t, T.run]
  rw [w64_id (by omega) (by omega)]


def i_within_sh : FSh := ⟨[(.one (.si .i64)), (.one (.si .i64)), (.one (.si .i64))], []⟩

def i_within_fo : List FO := [⟨[(.one .sb)], []⟩]
noncomputable def i_within_t : (Int × Int × Int) → T Bool := fun (n, low, high) =>
  (.test (decide (n ≥ low))
  (.ret (decide (n ≤ high)))
  (.ret false))
noncomputable def i_within (v : (Int × Int × Int)) : Option Bool := (i_within_t v).run
noncomputable def i_within_E : TEnv := E0
theorem i_within_Eok : (i_within_E).OK := E0ok
noncomputable def i_within_told : Nat → Option SealT := fun id => none
theorem i_within_ok : FOK Try.prog n_i_within i_within_sh i_within_fo i_within :=
  fn_ok (E := i_within_E) (i_within_Eok) (told := i_within_told) (fl := []) (c := bodyOf fn_i_within) (s := i_within_sh) (l := i_within_fo) (tree := i_within_t) fnat_i_within (by kernel_rfl) (by kernel_rfl) (by kernel_rfl) (loopsOK_of (ls := []) (by kernel_rfl) trivial) (fun v => by kernel_rfl)

theorem i_within_eq (n low high : Int) : i_within (n, low, high) = some (inB low high n) := by
  simp only [i_within, i_within_t, T.run, ge_iff_le, decide_eq_true_eq, inB]
  by_cases h : low ≤ n <;> simp [h]


def i_isEntry_sh : FSh := ⟨[(.one (.si .i64))], []⟩

def i_isEntry_fo : List FO := [⟨[(.one .sb)], []⟩]
noncomputable def i_isEntry_t : Int → T Bool := fun n =>
  (.sub (i_within (n, ((-1000000000), (1000000000 : Int)))) fun z0 =>
  (.ret z0))
noncomputable def i_isEntry (v : Int) : Option Bool := (i_isEntry_t v).run
noncomputable def i_isEntry_E : TEnv := (E0.add1 n_i_within i_within_sh i_within_fo i_within)
theorem i_isEntry_Eok : (i_isEntry_E).OK := (E0ok.add1 i_within_ok)
noncomputable def i_isEntry_told : Nat → Option SealT := fun id => none
theorem i_isEntry_ok : FOK Try.prog n_i_isEntry i_isEntry_sh i_isEntry_fo i_isEntry :=
  fn_ok (E := i_isEntry_E) (i_isEntry_Eok) (told := i_isEntry_told) (fl := []) (c := bodyOf fn_i_isEntry) (s := i_isEntry_sh) (l := i_isEntry_fo) (tree := i_isEntry_t) fnat_i_isEntry (by kernel_rfl) (by kernel_rfl) (by kernel_rfl) (loopsOK_of (ls := []) (by kernel_rfl) trivial) (fun v => by kernel_rfl)

theorem i_isEntry_eq (n : Int) : i_isEntry n = some (inB (-1000000000) 1000000000 n) := by
  simp only [i_isEntry, i_isEntry_t, T.run, i_within_eq, Option.bind_some]


def i_IsMatrix_sh : FSh := ⟨[(.ag [(.si .i64), (.si .i64), (.si .i64), (.si .i64)])], []⟩

def i_IsMatrix_fo : List FO := [⟨[(.one .sb)], []⟩]
noncomputable def i_IsMatrix_t : (Int × Int × Int × Int) → T Bool := fun (m_0, m_1, m_2, m_3) =>
  (.sub (i_isEntry m_0) fun z0 =>
  (.test z0
  (.sub (i_isEntry m_1) fun z1 =>
   (.test z1
   (.sub (i_isEntry m_2) fun z2 =>
    (.test z2
    (.sub (i_isEntry m_3) fun z3 =>
     (.test z3
     (.ret ((w64 ((w64 (m_0 * m_3)) - (w64 (m_1 * m_2)))) == 1))
     (.ret false)))
    (.ret false)))
   (.ret false)))
  (.ret false)))
noncomputable def i_IsMatrix (v : (Int × Int × Int × Int)) : Option Bool := (i_IsMatrix_t v).run
noncomputable def i_IsMatrix_E : TEnv := (E0.add1 n_i_isEntry i_isEntry_sh i_isEntry_fo i_isEntry)
theorem i_IsMatrix_Eok : (i_IsMatrix_E).OK := (E0ok.add1 i_isEntry_ok)
noncomputable def i_IsMatrix_told : Nat → Option SealT := fun id => none
theorem i_IsMatrix_ok : FOK Try.prog n_i_IsMatrix i_IsMatrix_sh i_IsMatrix_fo i_IsMatrix :=
  fn_ok (E := i_IsMatrix_E) (i_IsMatrix_Eok) (told := i_IsMatrix_told) (fl := []) (c := bodyOf fn_i_IsMatrix) (s := i_IsMatrix_sh) (l := i_IsMatrix_fo) (tree := i_IsMatrix_t) fnat_i_IsMatrix (by kernel_rfl) (by kernel_rfl) (by kernel_rfl) (loopsOK_of (ls := []) (by kernel_rfl) trivial) (fun v => by kernel_rfl)

theorem i_IsMatrix_eq (m : M4) : i_IsMatrix m = some (good4 m) := by
  obtain ⟨a, b, c, d⟩ := m
  simp only [i_IsMatrix, i_IsMatrix_t, T.run, i_isEntry_eq, Option.bind_some, good4]
  cases ha : inB (-1000000000) 1000000000 a <;> cases hb : inB (-1000000000) 1000000000 b <;> cases hc : inB (-1000000000) 1000000000 c <;> cases hd : inB (-1000000000) 1000000000 d <;> simp
  rw [inB_iff] at ha hb hc hd
  rw [det_w ha hb hc hd, beq_int]


def i_checked_sh : FSh := ⟨[(.ag [(.si .i64), (.si .i64), (.si .i64), (.si .i64)])], []⟩

def i_checked_fo : List FO := [⟨[(.ag [(.si .i64), (.si .i64), (.si .i64), (.si .i64)]), (.one .sb)], []⟩]
noncomputable def i_checked_t : (Int × Int × Int × Int) → T ((Int × Int × Int × Int) × Bool) := fun (m_0, m_1, m_2, m_3) =>
  (.sub (i_IsMatrix (m_0, (m_1, (m_2, m_3)))) fun z0 =>
  (.test (! z0)
  (.ret (((0 : Int), ((0 : Int), ((0 : Int), (0 : Int)))), false))
  (.ret ((m_0, (m_1, (m_2, m_3))), true))))
noncomputable def i_checked (v : (Int × Int × Int × Int)) : Option ((Int × Int × Int × Int) × Bool) := (i_checked_t v).run
noncomputable def i_checked_E : TEnv := (E0.add1 n_i_IsMatrix i_IsMatrix_sh i_IsMatrix_fo i_IsMatrix)
theorem i_checked_Eok : (i_checked_E).OK := (E0ok.add1 i_IsMatrix_ok)
noncomputable def i_checked_told : Nat → Option SealT := fun id => none
theorem i_checked_ok : FOK Try.prog n_i_checked i_checked_sh i_checked_fo i_checked :=
  fn_ok (E := i_checked_E) (i_checked_Eok) (told := i_checked_told) (fl := []) (c := bodyOf fn_i_checked) (s := i_checked_sh) (l := i_checked_fo) (tree := i_checked_t) fnat_i_checked (by kernel_rfl) (by kernel_rfl) (by kernel_rfl) (loopsOK_of (ls := []) (by kernel_rfl) trivial) (fun v => by kernel_rfl)

theorem i_checked_eq (m : M4) : i_checked m = some (if good4 m then (m, true) else ((0, 0, 0, 0), false)) := by
  obtain ⟨a, b, c, d⟩ := m
  simp only [i_checked, i_checked_t, T.run, i_IsMatrix_eq, Option.bind_some]
  cases good4 (a, b, c, d) <;> simp


def i_power_sh : FSh := ⟨[(.ag [(.si .i64), (.si .i64), (.si .i64), (.si .i64)]), (.one (.si .i64))], []⟩

def i_power_L3_sh : LSh := ⟨(fun ex => match ex with | .norm => [(2, none), (4, none), (6, none), (7, none), (8, none), (14, none), (15, none)] | .exit i => if i = 0 then [(2, none), (4, none), (6, none), (7, none)] else [] | .ret => [(4, none), (5, none)]), [(2, (.one (.pf 0 0 0))), (4, (.one (.pf 1 0 0))), (6, (.one (.si .i64))), (7, (.one (.si .i64))), (8, (.one (.si .i64))), (14, (.one (.si .i64))), (15, (.one (.si .i64)))], [(.rcd 0 [(.si .i64), (.si .i64), (.si .i64), (.si .i64)]), (.rcd 0 [(.si .i64), (.si .i64), (.si .i64), (.si .i64)])], [⟨.ret, [(4, (.one (.pf 0 0 0))), (5, (.one .sb))], [(.rcd 0 [(.si .i64), (.si .i64), (.si .i64), (.si .i64)])]⟩, ⟨(.exit 0), [(2, (.one (.pf 0 0 0))), (4, (.one (.pf 1 0 0))), (6, (.one (.si .i64))), (7, (.one (.si .i64)))], [(.rcd 0 [(.si .i64), (.si .i64), (.si .i64), (.si .i64)]), (.rcd 0 [(.si .i64), (.si .i64), (.si .i64), (.si .i64)])]⟩]⟩
noncomputable def i_power_L3_step : ((Unit × Unit × Int × Int × Int × Int × Int) × ((Int × Int × Int × Int) × (Int × Int × Int × Int))) → T (((Unit × Unit × Int × Int × Int × Int × Int) × ((Int × Int × Int × Int) × (Int × Int × Int × Int))) ⊕ (((Unit × Bool) × (Int × Int × Int × Int)) ⊕ ((Unit × Unit × Int × Int) × ((Int × Int × Int × Int) × (Int × Int × Int × Int))))) := fun (((), (), before, last, trace, t14, t15), ((m_0, m_1, m_2, m_3), (t4_0, t4_1, t4_2, t4_3))) =>
  (.test (decide (t15 < t14))
  (.sub (i_size (w64 ((w64 (trace * last)) - before))) fun z0 =>
   (.test (decide (z0 > 2000000000))
   (.ret (Sum.inr (Sum.inl (((), false), ((0 : Int), ((0 : Int), ((0 : Int), (0 : Int))))))))
   (.ret (Sum.inl (((), ((), (last, ((w64 ((w64 (trace * last)) - before)), (trace, (t14, (w64 (t15 + 1)))))))), ((m_0, (m_1, (m_2, m_3))), (t4_0, (t4_1, (t4_2, t4_3)))))))))
  (.ret (Sum.inr (Sum.inr (((), ((), (before, last))), ((m_0, (m_1, (m_2, m_3))), (t4_0, (t4_1, (t4_2, t4_3)))))))))
noncomputable def i_power_L3 (v : ((Unit × Unit × Int × Int × Int × Int × Int) × ((Int × Int × Int × Int) × (Int × Int × Int × Int)))) : Option (((Unit × Bool) × (Int × Int × Int × Int)) ⊕ ((Unit × Unit × Int × Int) × ((Int × Int × Int × Int) × (Int × Int × Int × Int)))) := loopO (fun v => (i_power_L3_step v).run) v

def i_power_fo : List FO := [⟨[(.ag [(.si .i64), (.si .i64), (.si .i64), (.si .i64)]), (.one .sb)], []⟩]
noncomputable def i_power_t : ((Int × Int × Int × Int) × Int) → T ((Int × Int × Int × Int) × Bool) := fun ((m_0, m_1, m_2, m_3), k) =>
  (.sub (i_power_L3 (((), ((), ((-1), ((0 : Int), ((w64 (m_0 + m_3)), (k, (0 : Int))))))), ((m_0, (m_1, (m_2, m_3))), ((0 : Int), ((0 : Int), ((0 : Int), (0 : Int))))))) fun z0 =>
  (.test (Sum.isLeft z0)
  (.sub (Sum.getLeft? z0) fun z1 =>
   (.ret ((z1.2.1, (z1.2.2.1, (z1.2.2.2.1, z1.2.2.2.2))), z1.1.2)))
  (.sub (Sum.getRight? z0) fun z2 =>
   (.sub (i_checked ((w64 ((w64 (z2.1.2.2.2 * z2.2.1.1)) - z2.1.2.2.1)), ((w64 (z2.1.2.2.2 * z2.2.1.2.1)), ((w64 (z2.1.2.2.2 * z2.2.1.2.2.1)), (w64 ((w64 (z2.1.2.2.2 * z2.2.1.2.2.2)) - z2.1.2.2.1)))))) fun z3 =>
   (.ret ((z3.1.1, (z3.1.2.1, (z3.1.2.2.1, z3.1.2.2.2))), z3.2))))))
noncomputable def i_power (v : ((Int × Int × Int × Int) × Int)) : Option ((Int × Int × Int × Int) × Bool) := (i_power_t v).run
noncomputable def i_power_E : TEnv := ((E0.add1 n_i_size i_size_sh i_size_fo i_size).add1 n_i_checked i_checked_sh i_checked_fo i_checked)
theorem i_power_Eok : (i_power_E).OK := ((E0ok.add1 i_size_ok).add1 i_checked_ok)
noncomputable def i_power_told : Nat → Option SealT := fun id => if id = 3 then some (LSh.told i_power_L3_sh 0 (i_power_L3_step)) else none
theorem i_power_L3_ok : ToldOK Try.prog 0 (loopAt (bodyOf fn_i_power) [0]) (LSh.told i_power_L3_sh 0 (i_power_L3_step)) :=
  loop_ok (E := i_power_E) (i_power_Eok) (told := i_power_told) (l := i_power_L3_sh) (step := i_power_L3_step) (loopsOK_of (ls := []) (by kernel_rfl) trivial) (by kernel_rfl) (fun v => by kernel_rfl)
theorem i_power_ok : FOK Try.prog n_i_power i_power_sh i_power_fo i_power :=
  fn_ok (E := i_power_E) (i_power_Eok) (told := i_power_told) (fl := []) (c := bodyOf fn_i_power) (s := i_power_sh) (l := i_power_fo) (tree := i_power_t) fnat_i_power (by kernel_rfl) (by kernel_rfl) (by kernel_rfl) (loopsOK_of (ls := [loopAt (bodyOf fn_i_power) [0]]) (by kernel_rfl) ⟨.inr ⟨_, by kernel_rfl, i_power_L3_ok⟩, trivial⟩) (fun v => by kernel_rfl)

def uk (t : Int) : Nat → Int × Int
  | 0 => (-1, 0)
  | n + 1 => ((uk t n).2, t * (uk t n).2 - (uk t n).1)
def pOf (m : M4) (p : Int × Int) : M4 := (p.2 * m.1 - p.1, p.2 * m.2.1, p.2 * m.2.2.1, p.2 * m.2.2.2 - p.1)
def uB (t : Int) : Nat → Bool
  | 0 => true
  | n + 1 => uB t n && inB (-2000000000) 2000000000 (uk t (n + 1)).2
theorem uB_mono {t : Int} {i k : Nat} (h : i ≤ k) (hf : uB t k = true) : uB t i = true := by
  induction k with
  | zero => obtain rfl : i = 0 := by omega
            rfl
  | succ k ih =>
    simp only [uB, Bool.and_eq_true] at hf
    by_cases h1 : i = k + 1
    · subst h1; simp only [uB, Bool.and_eq_true]; exact hf
    · exact ih (by omega) hf.1
theorem uB_le {t : Int} {i : Nat} (hf : uB t i = true) : (-2000000000 ≤ (uk t i).1 ∧ (uk t i).1 ≤ 2000000000) ∧ (-2000000000 ≤ (uk t i).2 ∧ (uk t i).2 ≤ 2000000000) := by
  cases i with
  | zero => simp [uk]
  | succ i =>
    refine ⟨?_, ?_⟩
    · have := uB_mono (Nat.le_succ i) hf
      cases i with
      | zero => simp [uk]
      | succ i => simp only [uB, Bool.and_eq_true, inB_iff] at this; exact this.2
    · simp only [uB, Bool.and_eq_true, inB_iff] at hf; exact hf.2
theorem sz_test (z : Int) : decide ((if 0 - z > z then 0 - z else z) > 2000000000) = !inB (-2000000000) 2000000000 z := by
  by_cases hz : -2000000000 ≤ z ∧ z ≤ 2000000000
  · rw [inB_iff.2 hz]
    have : ¬ ((if 0 - z > z then 0 - z else z) > 2000000000) := by split <;> omega
    rw [decide_eq_false this]; rfl
  · have h2 : inB (-2000000000) 2000000000 z = false := by rw [Bool.eq_false_iff]; intro h; exact hz (inB_iff.1 h)
    have : ((if 0 - z > z then 0 - z else z) > 2000000000) := by split <;> omega
    rw [h2, decide_eq_true this]; rfl
theorem i_power_L3_eq (a b c d : Int) (k : Nat) (hk : k < 100) (t : Int) (ht : -2000000000 ≤ t ∧ t ≤ 2000000000) : ∀ (n i : Nat), i + n = k → uB t i = true →
    i_power_L3 (((), ((), ((uk t i).1, ((uk t i).2, (t, ((k : Int), (i : Int))))))), ((a, (b, (c, d))), (0, (0, (0, 0))))) =
    some (if uB t k then .inr (((), ((), ((uk t k).1, (uk t k).2))), ((a, (b, (c, d))), (0, (0, (0, 0))))) else .inl (((), false), (0, (0, (0, 0))))) := by
  intro n
  induction n with
  | zero =>
    intro i hi hu
    obtain rfl : i = k := by omega
    rw [if_pos hu]
    simp only [i_power_L3]
    exact loopO_done (by simp [i_power_L3_step, T.run])
  | succ n ih =>
    intro i hi hu
    have hb := uB_le hu
    have hm := mul_le (A := 2000000000) (B := 2000000000) ht.1 ht.2 hb.2.1 hb.2.2
    have hst : (i_power_L3_step (((), ((), ((uk t i).1, ((uk t i).2, (t, ((k : Int), (i : Int))))))), ((a, (b, (c, d))), (0, (0, (0, 0)))))).run =
        some (if inB (-2000000000) 2000000000 (uk t (i + 1)).2 then .inl (((), ((), ((uk t (i+1)).1, ((uk t (i+1)).2, (t, ((k : Int), ((i + 1 : Nat) : Int))))))), ((a, (b, (c, d))), (0, (0, (0, 0))))) else .inr (.inl (((), false), (0, (0, (0, 0)))))) := by
      simp only [i_power_L3_step, T.run]
      rw [w64_id (z := t * (uk t i).2) (by omega) (by omega), w64_id (z := t * (uk t i).2 - (uk t i).1) (by omega) (by omega), w64_id (z := (i : Int) + 1) (by omega) (by omega), i_size_eq _ (by omega)]
      have h1 : ((i : Int) < (k : Int)) := by omega
      have e : (uk t (i + 1)).2 = t * (uk t i).2 - (uk t i).1 := rfl
      have e1 : (uk t (i + 1)).1 = (uk t i).2 := rfl
      rw [e, e1]
      simp only [h1, decide_true, if_true, Option.bind_some]
      rw [sz_test]
      cases inB (-2000000000) 2000000000 (t * (uk t i).2 - (uk t i).1) <;> rfl
    simp only [i_power_L3] at ih ⊢
    cases hi1 : inB (-2000000000) 2000000000 (uk t (i + 1)).2 with
    | true =>
      rw [hi1, if_pos rfl] at hst
      rw [loopO_next hst]
      exact ih (i + 1) (by omega) (by simp [uB, hu, hi1])
    | false =>
      rw [hi1] at hst
      have hk1 : uB t k = false := by
        rw [Bool.eq_false_iff]; intro h
        have := uB_mono (show i + 1 ≤ k by omega) h
        simp [uB, hi1] at this
      rw [hk1]
      exact loopO_done hst
theorem i_power_eq (m : M4) (hm : in4 1000000000 m) (k : Nat) (hk : k < 100) : i_power (m, (k : Int)) =
    some (if uB (m.1 + m.2.2.2) k && good4 (pOf m (uk (m.1 + m.2.2.2) k)) then (pOf m (uk (m.1 + m.2.2.2) k), true) else ((0, 0, 0, 0), false)) := by
  obtain ⟨a, b, c, d⟩ := m
  simp only [in4] at hm
  simp only [i_power, i_power_t, T.run]
  rw [w64_id (z := a + d) (by omega) (by omega)]
  have h := i_power_L3_eq a b c d k hk (a + d) (by omega) k 0 (by omega) rfl
  simp only [show uk (a + d) 0 = (-1, 0) from rfl, show ((0 : Nat) : Int) = 0 from rfl] at h
  rw [h]
  cases hu : uB (a + d) k with
  | false => simp
  | true =>
    have hb := uB_le hu
    simp only [if_true, Option.bind_some, Sum.isLeft, Bool.false_eq_true, if_false, Sum.getRight?]
    have h1 := mul_le (A := 2000000000) (B := 1000000000) hb.2.1 hb.2.2 hm.1 hm.2.1
    have h2 := mul_le (A := 2000000000) (B := 1000000000) hb.2.1 hb.2.2 hm.2.2.1 hm.2.2.2.1
    have h3 := mul_le (A := 2000000000) (B := 1000000000) hb.2.1 hb.2.2 hm.2.2.2.2.1 hm.2.2.2.2.2.1
    have h4 := mul_le (A := 2000000000) (B := 1000000000) hb.2.1 hb.2.2 hm.2.2.2.2.2.2.1 hm.2.2.2.2.2.2.2
    have e : pOf (a, b, c, d) (uk (a + d) k) = ((uk (a + d) k).2 * a - (uk (a + d) k).1, (uk (a + d) k).2 * b, (uk (a + d) k).2 * c, (uk (a + d) k).2 * d - (uk (a + d) k).1) := rfl
    rw [e]
    rw [w64_id (z := (uk (a + d) k).2 * a) (by omega) (by omega), w64_id (z := (uk (a + d) k).2 * a - (uk (a + d) k).1) (by omega) (by omega), w64_id (z := (uk (a + d) k).2 * b) (by omega) (by omega), w64_id (z := (uk (a + d) k).2 * c) (by omega) (by omega), w64_id (z := (uk (a + d) k).2 * d) (by omega) (by omega), w64_id (z := (uk (a + d) k).2 * d - (uk (a + d) k).1) (by omega) (by omega)]
    simp only [i_checked_eq, Option.bind_some, Bool.true_and]
theorem eq4 (m k : M4) : ((m.1 == k.1) && ((m.2.1 == k.2.1) && ((m.2.2.1 == k.2.2.1) && ((m.2.2.2 == k.2.2.2) && true)))) = decide (m = k) := by
  obtain ⟨a, b, c, d⟩ := m
  obtain ⟨e, f, g, h⟩ := k
  rw [Bool.eq_iff_iff]
  simp


def s_OrderOf_sh : FSh := ⟨[(.ag [(.si .i64), (.si .i64), (.si .i64), (.si .i64)])], []⟩

def s_OrderOf_L5_sh : LSh := ⟨(fun ex => match ex with | .norm => [(1, none), (4, none), (5, none)] | .exit i => if i = 0 then [] else [] | .ret => [(2, none), (3, none)]), [(1, (.one (.pf 0 0 0))), (4, (.one (.pf 1 0 0))), (5, (.one (.si .i64)))], [(.rcd 0 [(.si .i64), (.si .i64), (.si .i64), (.si .i64)]), (.rcd 0 [(.si .i64), (.si .i64), (.si .i64), (.si .i64)])], [⟨.ret, [(2, (.one (.si .i64))), (3, (.one .sb))], []⟩, ⟨(.exit 0), [], []⟩]⟩
noncomputable def s_OrderOf_L5_step : ((Unit × Unit × Int) × ((Int × Int × Int × Int) × (Int × Int × Int × Int))) → T (((Unit × Unit × Int) × ((Int × Int × Int × Int) × (Int × Int × Int × Int))) ⊕ ((Int × Bool) ⊕ Unit)) := fun (((), (), k), ((m_0, m_1, m_2, m_3), (out_0, out_1, out_2, out_3))) =>
  (.test (decide (k ≤ 6))
  (.sub (s_mxTimes ((out_0, (out_1, (out_2, out_3))), (m_0, (m_1, (m_2, m_3))))) fun z0 =>
   (.sub (s_mxIf (z0.1, (z0.2.1, (z0.2.2.1, z0.2.2.2)))) fun z1 =>
   (.test (! z1.2)
   (.ret (Sum.inr (Sum.inl ((0 : Int), false))))
   (.sub (s_mxOne ()) fun z2 =>
    (.test ((z1.1.1 == z2.1) && ((z1.1.2.1 == z2.2.1) && ((z1.1.2.2.1 == z2.2.2.1) && ((z1.1.2.2.2 == z2.2.2.2) && true))))
    (.ret (Sum.inr (Sum.inl (k, true))))
    (.ret (Sum.inl (((), ((), (w64 (k + 1)))), ((m_0, (m_1, (m_2, m_3))), (z1.1.1, (z1.1.2.1, (z1.1.2.2.1, z1.1.2.2.2))))))))))))
  (.ret (Sum.inr (Sum.inr ()))))
noncomputable def s_OrderOf_L5 (v : ((Unit × Unit × Int) × ((Int × Int × Int × Int) × (Int × Int × Int × Int)))) : Option ((Int × Bool) ⊕ Unit) := loopO (fun v => (s_OrderOf_L5_step v).run) v

def s_OrderOf_fo : List FO := [⟨[(.one (.si .i64)), (.one .sb)], []⟩]
noncomputable def s_OrderOf_t : (Int × Int × Int × Int) → T (Int × Bool) := fun (m_0, m_1, m_2, m_3) =>
  (.sub (s_mxGood (m_0, (m_1, (m_2, m_3)))) fun z0 =>
  (.test (! z0)
  (.ret ((0 : Int), false))
  (.sub (s_mxOne ()) fun z1 =>
   (.sub (s_OrderOf_L5 (((), ((), (1 : Int))), ((m_0, (m_1, (m_2, m_3))), (z1.1, (z1.2.1, (z1.2.2.1, z1.2.2.2)))))) fun z2 =>
   (.test (Sum.isLeft z2)
   (.sub (Sum.getLeft? z2) fun z3 =>
    (.ret (z3.1, z3.2)))
   (.sub (Sum.getRight? z2) fun z4 =>
    (.ret ((0 : Int), false))))))))
noncomputable def s_OrderOf (v : (Int × Int × Int × Int)) : Option (Int × Bool) := (s_OrderOf_t v).run
noncomputable def s_OrderOf_E : TEnv := ((((E0.add1 n_s_mxGood s_mxGood_sh s_mxGood_fo s_mxGood).add1 n_s_mxOne s_mxOne_sh s_mxOne_fo s_mxOne).add1 n_s_mxTimes s_mxTimes_sh s_mxTimes_fo s_mxTimes).add1 n_s_mxIf s_mxIf_sh s_mxIf_fo s_mxIf)
theorem s_OrderOf_Eok : (s_OrderOf_E).OK := ((((E0ok.add1 s_mxGood_ok).add1 s_mxOne_ok).add1 s_mxTimes_ok).add1 s_mxIf_ok)
noncomputable def s_OrderOf_told : Nat → Option SealT := fun id => if id = 5 then some (LSh.told s_OrderOf_L5_sh 0 (s_OrderOf_L5_step)) else none
theorem s_OrderOf_L5_ok : ToldOK Try.prog 0 (loopAt (bodyOf fn_s_OrderOf) [0]) (LSh.told s_OrderOf_L5_sh 0 (s_OrderOf_L5_step)) :=
  loop_ok (E := s_OrderOf_E) (s_OrderOf_Eok) (told := s_OrderOf_told) (l := s_OrderOf_L5_sh) (step := s_OrderOf_L5_step) (loopsOK_of (ls := []) (by kernel_rfl) trivial) (by kernel_rfl) (fun v => by kernel_rfl)
theorem s_OrderOf_ok : FOK Try.prog n_s_OrderOf s_OrderOf_sh s_OrderOf_fo s_OrderOf :=
  fn_ok (E := s_OrderOf_E) (s_OrderOf_Eok) (told := s_OrderOf_told) (fl := []) (c := bodyOf fn_s_OrderOf) (s := s_OrderOf_sh) (l := s_OrderOf_fo) (tree := s_OrderOf_t) fnat_s_OrderOf (by kernel_rfl) (by kernel_rfl) (by kernel_rfl) (loopsOK_of (ls := [loopAt (bodyOf fn_s_OrderOf) [0]]) (by kernel_rfl) ⟨.inr ⟨_, by kernel_rfl, s_OrderOf_L5_ok⟩, trivial⟩) (fun v => by kernel_rfl)

def ordS (m : M4) : Nat → Int × Bool
  | 0 => (0, false)
  | n + 1 => if good4 (pOf m (uk (m.1 + m.2.2.2) (6 - n))) then (if pOf m (uk (m.1 + m.2.2.2) (6 - n)) = one4 then (((6 - n : Nat) : Int), true) else ordS m n) else (0, false)
theorem pOf_next (m : M4) (hd : m.1 * m.2.2.2 - m.2.1 * m.2.2.1 = 1) (k : Nat) : mul4 (pOf m (uk (m.1 + m.2.2.2) k)) m = pOf m (uk (m.1 + m.2.2.2) (k + 1)) := by
  obtain ⟨a, b, c, d⟩ := m
  simp only at hd
  have e : (uk (a + d) (k + 1)).2 = (a + d) * (uk (a + d) k).2 - (uk (a + d) k).1 := rfl
  have e1 : (uk (a + d) (k + 1)).1 = (uk (a + d) k).2 := rfl
  simp only [mul4, pOf, e, e1]
  generalize (uk (a + d) k).2 = q
  generalize (uk (a + d) k).1 = p
  have h1 : q * (a * d) - q * (b * c) = q := by rw [← Int.mul_sub, hd, Int.mul_one]
  simp only [Prod.mk.injEq, Int.sub_mul, Int.add_mul, Int.mul_sub, Int.mul_add]
  have x1 : q * a * a = a * q * a := by rw [Int.mul_comm q a]
  have x2 : d * q * a = q * (a * d) := by rw [Int.mul_comm d q, Int.mul_assoc, Int.mul_comm d a]
  have x3 : q * b * c = q * (b * c) := Int.mul_assoc ..
  have x4 : q * a * b = a * q * b := by rw [Int.mul_comm q a]
  have x5 : q * b * d = d * q * b := by rw [Int.mul_assoc, Int.mul_comm b d, ← Int.mul_assoc, Int.mul_comm q d]
  have x6 : q * c * a = a * q * c := by rw [Int.mul_assoc, Int.mul_comm c a, ← Int.mul_assoc, Int.mul_comm q a]
  have x7 : q * d * c = d * q * c := by rw [Int.mul_comm q d]
  have x8 : q * d * d = d * q * d := by rw [Int.mul_comm q d]
  have x9 : a * q * d = q * (a * d) := by rw [Int.mul_comm a q, Int.mul_assoc]
  have x10 : q * c * b = q * (b * c) := by rw [Int.mul_assoc, Int.mul_comm c b]
  refine ⟨?_, ?_, ?_, ?_⟩ <;> omega
theorem s_OrderOf_L5_ord (m : M4) (hm : good4 m = true) : ∀ n, n ≤ 6 → good4 (pOf m (uk (m.1 + m.2.2.2) (6 - n))) = true →
    ∃ o, s_OrderOf_L5 (((), ((), (((7 - n : Nat)) : Int))), (m, pOf m (uk (m.1 + m.2.2.2) (6 - n)))) = some o ∧ (match o with | .inl p => p | .inr _ => (0, false)) = ordS m n := by
  have hd : m.1 * m.2.2.2 - m.2.1 * m.2.2.1 = 1 := (good4_iff.1 hm).2.2.2.2
  intro n
  induction n with
  | zero =>
    intro _ _
    refine ⟨.inr (), ?_, rfl⟩
    exact loopO_done (by simp [s_OrderOf_L5_step, T.run])
  | succ n ih =>
    intro hn hg
    have hk : 7 - (n + 1) = 6 - n := by omega
    have hk1 : 6 - (n + 1) + 1 = 6 - n := by omega
    rw [hk]
    have hp := pOf_next m hd (6 - (n + 1))
    rw [hk1] at hp
    have hst : (s_OrderOf_L5_step (((), ((), (((6 - n : Nat)) : Int))), (m, pOf m (uk (m.1 + m.2.2.2) (6 - (n + 1)))))).run = some (if good4 (pOf m (uk (m.1 + m.2.2.2) (6 - n))) then (if pOf m (uk (m.1 + m.2.2.2) (6 - n)) = one4 then .inr (.inl (((6 - n : Nat) : Int), true)) else .inl (((), ((), (((7 - n : Nat)) : Int))), (m, pOf m (uk (m.1 + m.2.2.2) (6 - n))))) else .inr (.inl (0, false))) := by
      simp only [s_OrderOf_L5_step, T.run]
      have h6 : (((6 - n : Nat)) : Int) ≤ 6 := by omega
      have e7 : w64 ((((6 - n : Nat)) : Int) + 1) = (((7 - n : Nat)) : Int) := by rw [w64_id (by omega) (by omega)]; omega
      rw [e7]
      simp only [h6, decide_true, if_true]
      rw [s_mxTimes_eq _ _ (good4_in hg) (good4_in hm), hp]
      simp only [Option.bind_some, s_mxIf_eq, s_mxOne_eq]
      cases hg2 : good4 (pOf m (uk (m.1 + m.2.2.2) (6 - n))) with
      | false => simp
      | true =>
        simp only [if_true, eq4, Bool.not_true, Bool.false_eq_true, if_false]
        by_cases h1 : pOf m (uk (m.1 + m.2.2.2) (6 - n)) = one4 <;> simp [h1]
    rw [ordS]
    cases hg2 : good4 (pOf m (uk (m.1 + m.2.2.2) (6 - n))) with
    | false => rw [hg2] at hst; exact ⟨.inl (0, false), loopO_done hst, rfl⟩
    | true =>
      rw [hg2] at hst
      by_cases h1 : pOf m (uk (m.1 + m.2.2.2) (6 - n)) = one4
      · rw [if_pos rfl, if_pos h1] at hst
        rw [if_pos rfl, if_pos h1]
        exact ⟨_, loopO_done hst, rfl⟩
      · rw [if_pos rfl, if_neg h1] at hst
        rw [if_pos rfl, if_neg h1]
        simp only [s_OrderOf_L5] at ih ⊢
        rw [loopO_next hst]
        exact ih (by omega) hg2
theorem s_OrderOf_eq (m : M4) : s_OrderOf m = some (if good4 m then ordS m 6 else (0, false)) := by
  obtain ⟨a, b, c, d⟩ := m
  simp only [s_OrderOf, s_OrderOf_t, T.run, s_mxGood_eq, Option.bind_some]
  cases hg : good4 (a, b, c, d) with
  | false => simp
  | true =>
    have hz : pOf (a, b, c, d) (uk (a + d) 0) = one4 := by simp [pOf, uk, one4]
    have h := s_OrderOf_L5_ord (a, b, c, d) hg 6 (Nat.le_refl 6)
    simp only [Nat.sub_self] at h
    rw [show ((7 - 6 : Nat) : Int) = 1 from rfl, hz] at h
    obtain ⟨o, h1, h2⟩ := h rfl
    simp only [Bool.not_true, Bool.false_eq_true, if_false, s_mxOne_eq, Option.bind_some]
    rw [show ((one4.1, (one4.2.1, (one4.2.2.1, one4.2.2.2))) : M4) = one4 from rfl, h1]
    cases o with
    | inl p => simp only [Option.bind_some, Sum.isLeft, if_true, Sum.getLeft?]; simp only at h2; rw [← h2]
    | inr u => simp only [Option.bind_some, Sum.isLeft, Bool.false_eq_true, if_false, Sum.getRight?]; simp only at h2; rw [← h2]; rfl


def i_one_sh : FSh := ⟨[], []⟩

def i_one_fo : List FO := [⟨[(.ag [(.si .i64), (.si .i64), (.si .i64), (.si .i64)])], []⟩]
noncomputable def i_one_t : Unit → T (Int × Int × Int × Int) := fun () =>
  (.ret ((1 : Int), ((0 : Int), ((0 : Int), (1 : Int)))))
noncomputable def i_one (v : Unit) : Option (Int × Int × Int × Int) := (i_one_t v).run
noncomputable def i_one_E : TEnv := E0
theorem i_one_Eok : (i_one_E).OK := E0ok
noncomputable def i_one_told : Nat → Option SealT := fun id => none
theorem i_one_ok : FOK Try.prog n_i_one i_one_sh i_one_fo i_one :=
  fn_ok (E := i_one_E) (i_one_Eok) (told := i_one_told) (fl := []) (c := bodyOf fn_i_one) (s := i_one_sh) (l := i_one_fo) (tree := i_one_t) fnat_i_one (by kernel_rfl) (by kernel_rfl) (by kernel_rfl) (loopsOK_of (ls := []) (by kernel_rfl) trivial) (fun v => by kernel_rfl)

theorem i_one_eq : i_one () = some one4 := rfl


def i_OrderOf_sh : FSh := ⟨[(.ag [(.si .i64), (.si .i64), (.si .i64), (.si .i64)])], []⟩

def i_OrderOf_L4_sh : LSh := ⟨(fun ex => match ex with | .norm => [(1, none), (4, none)] | .exit i => if i = 0 then [] else [] | .ret => [(2, none), (3, none)]), [(1, (.one (.pf 0 0 0))), (4, (.one (.si .i64)))], [(.rcd 0 [(.si .i64), (.si .i64), (.si .i64), (.si .i64)])], [⟨.ret, [(2, (.one (.si .i64))), (3, (.one .sb))], []⟩, ⟨(.exit 0), [], []⟩]⟩
noncomputable def i_OrderOf_L4_step : ((Unit × Int) × (Int × Int × Int × Int)) → T (((Unit × Int) × (Int × Int × Int × Int)) ⊕ ((Int × Bool) ⊕ Unit)) := fun (((), k), (m_0, m_1, m_2, m_3)) =>
  (.test (decide (k ≤ 6))
  (.sub (i_power ((m_0, (m_1, (m_2, m_3))), k)) fun z0 =>
   (.test z0.2
   (.sub (i_one ()) fun z1 =>
    (.test ((z0.1.1 == z1.1) && ((z0.1.2.1 == z1.2.1) && ((z0.1.2.2.1 == z1.2.2.1) && ((z0.1.2.2.2 == z1.2.2.2) && true))))
    (.ret (Sum.inr (Sum.inl (k, true))))
    (.ret (Sum.inl (((), (w64 (k + 1))), (m_0, (m_1, (m_2, m_3))))))))
   (.ret (Sum.inl (((), (w64 (k + 1))), (m_0, (m_1, (m_2, m_3))))))))
  (.ret (Sum.inr (Sum.inr ()))))
noncomputable def i_OrderOf_L4 (v : ((Unit × Int) × (Int × Int × Int × Int))) : Option ((Int × Bool) ⊕ Unit) := loopO (fun v => (i_OrderOf_L4_step v).run) v

def i_OrderOf_fo : List FO := [⟨[(.one (.si .i64)), (.one .sb)], []⟩]
noncomputable def i_OrderOf_t : (Int × Int × Int × Int) → T (Int × Bool) := fun (m_0, m_1, m_2, m_3) =>
  (.sub (i_IsMatrix (m_0, (m_1, (m_2, m_3)))) fun z0 =>
  (.test (! z0)
  (.ret ((0 : Int), false))
  (.sub (i_OrderOf_L4 (((), (1 : Int)), (m_0, (m_1, (m_2, m_3))))) fun z1 =>
   (.test (Sum.isLeft z1)
   (.sub (Sum.getLeft? z1) fun z2 =>
    (.ret (z2.1, z2.2)))
   (.sub (Sum.getRight? z1) fun z3 =>
    (.ret ((0 : Int), false)))))))
noncomputable def i_OrderOf (v : (Int × Int × Int × Int)) : Option (Int × Bool) := (i_OrderOf_t v).run
noncomputable def i_OrderOf_E : TEnv := (((E0.add1 n_i_IsMatrix i_IsMatrix_sh i_IsMatrix_fo i_IsMatrix).add1 n_i_power i_power_sh i_power_fo i_power).add1 n_i_one i_one_sh i_one_fo i_one)
theorem i_OrderOf_Eok : (i_OrderOf_E).OK := (((E0ok.add1 i_IsMatrix_ok).add1 i_power_ok).add1 i_one_ok)
noncomputable def i_OrderOf_told : Nat → Option SealT := fun id => if id = 4 then some (LSh.told i_OrderOf_L4_sh 0 (i_OrderOf_L4_step)) else none
theorem i_OrderOf_L4_ok : ToldOK Try.prog 0 (loopAt (bodyOf fn_i_OrderOf) [0]) (LSh.told i_OrderOf_L4_sh 0 (i_OrderOf_L4_step)) :=
  loop_ok (E := i_OrderOf_E) (i_OrderOf_Eok) (told := i_OrderOf_told) (l := i_OrderOf_L4_sh) (step := i_OrderOf_L4_step) (loopsOK_of (ls := []) (by kernel_rfl) trivial) (by kernel_rfl) (fun v => by kernel_rfl)
theorem i_OrderOf_ok : FOK Try.prog n_i_OrderOf i_OrderOf_sh i_OrderOf_fo i_OrderOf :=
  fn_ok (E := i_OrderOf_E) (i_OrderOf_Eok) (told := i_OrderOf_told) (fl := []) (c := bodyOf fn_i_OrderOf) (s := i_OrderOf_sh) (l := i_OrderOf_fo) (tree := i_OrderOf_t) fnat_i_OrderOf (by kernel_rfl) (by kernel_rfl) (by kernel_rfl) (loopsOK_of (ls := [loopAt (bodyOf fn_i_OrderOf) [0]]) (by kernel_rfl) ⟨.inr ⟨_, by kernel_rfl, i_OrderOf_L4_ok⟩, trivial⟩) (fun v => by kernel_rfl)

def ordI (m : M4) : Nat → Int × Bool
  | 0 => (0, false)
  | n + 1 => if uB (m.1 + m.2.2.2) (6 - n) && good4 (pOf m (uk (m.1 + m.2.2.2) (6 - n))) && decide (pOf m (uk (m.1 + m.2.2.2) (6 - n)) = one4) then (((6 - n : Nat) : Int), true) else ordI m n
theorem i_OrderOf_L4_eq (m : M4) (hm : in4 1000000000 m) : ∀ n, n ≤ 6 → i_OrderOf_L4 (((), (((7 - n : Nat)) : Int)), (m.1, (m.2.1, (m.2.2.1, m.2.2.2)))) =
    some (if (ordI m n).2 then .inl (ordI m n) else .inr ()) := by
  intro n
  induction n with
  | zero =>
    intro _
    simp only [i_OrderOf_L4, ordI]
    exact loopO_done (by simp [i_OrderOf_L4_step, T.run])
  | succ n ih =>
    intro hn
    simp only [i_OrderOf_L4] at ih ⊢
    have hk : 7 - (n + 1) = 6 - n := by omega
    rw [hk]
    have hp := i_power_eq m hm (6 - n) (by omega)
    have hst : (i_OrderOf_L4_step (((), (((6 - n : Nat)) : Int)), (m.1, (m.2.1, (m.2.2.1, m.2.2.2))))).run = some (if uB (m.1 + m.2.2.2) (6 - n) && good4 (pOf m (uk (m.1 + m.2.2.2) (6 - n))) && decide (pOf m (uk (m.1 + m.2.2.2) (6 - n)) = one4) then .inr (.inl (((6 - n : Nat) : Int), true)) else .inl (((), (((7 - n : Nat)) : Int)), (m.1, (m.2.1, (m.2.2.1, m.2.2.2))))) := by
      simp only [i_OrderOf_L4_step, T.run]
      have h6 : (((6 - n : Nat)) : Int) ≤ 6 := by omega
      have e7 : w64 ((((6 - n : Nat)) : Int) + 1) = (((7 - n : Nat)) : Int) := by rw [w64_id (by omega) (by omega)]; omega
      rw [e7]
      simp only [h6, decide_true, if_true]
      rw [show (m.1, (m.2.1, (m.2.2.1, m.2.2.2))) = m from rfl, hp]
      cases hg : uB (m.1 + m.2.2.2) (6 - n) && good4 (pOf m (uk (m.1 + m.2.2.2) (6 - n))) with
      | false => simp
      | true =>
        simp only [if_true, Option.bind_some, i_one_eq, eq4, Bool.true_and]
        by_cases h1 : pOf m (uk (m.1 + m.2.2.2) (6 - n)) = one4 <;> simp [h1]
    rw [ordI]
    cases hc : uB (m.1 + m.2.2.2) (6 - n) && good4 (pOf m (uk (m.1 + m.2.2.2) (6 - n))) && decide (pOf m (uk (m.1 + m.2.2.2) (6 - n)) = one4) with
    | true => rw [hc] at hst; simp only [if_true] at hst ⊢; exact loopO_done hst
    | false => rw [hc] at hst; simp only [Bool.false_eq_true, if_false] at hst ⊢; rw [loopO_next hst]; exact ih (by omega)
theorem ordI_zero (m : M4) : ∀ n, (ordI m n).2 = false → ordI m n = (0, false) := by
  intro n
  induction n with
  | zero => intro _; rfl
  | succ n ih =>
    simp only [ordI]
    split
    · intro h; simp at h
    · exact ih
theorem i_OrderOf_eq (m : M4) : i_OrderOf m = some (if good4 m then ordI m 6 else (0, false)) := by
  obtain ⟨a, b, c, d⟩ := m
  simp only [i_OrderOf, i_OrderOf_t, T.run, i_IsMatrix_eq, Option.bind_some]
  cases hg : good4 (a, b, c, d) with
  | false => simp
  | true =>
    have h := i_OrderOf_L4_eq (a, b, c, d) (good4_in hg) 6 (Nat.le_refl 6)
    simp only [Bool.not_true, Bool.false_eq_true, if_false]
    rw [show ((7 - 6 : Nat) : Int) = 1 from rfl] at h
    simp only at h
    rw [h]
    cases ho : (ordI (a, b, c, d) 6).2 with
    | true => simp [Sum.isLeft, ho]; exact Prod.ext rfl ho.symm
    | false => simp [Sum.isLeft, ordI_zero _ _ ho]


def l_FnExactOrderOf_sh : FSh := ⟨[(.ag [(.si .i64), (.si .i64), (.si .i64), (.si .i64)])], []⟩

def l_FnExactOrderOf_fo : List FO := [⟨[(.one .sb)], []⟩]
noncomputable def l_FnExactOrderOf_t : (Int × Int × Int × Int) → T Bool := fun (aM_0, aM_1, aM_2, aM_3) =>
  (.sub (l_toMatrix (aM_0, (aM_1, (aM_2, aM_3)))) fun z0 =>
  (.sub (s_OrderOf (z0.1, (z0.2.1, (z0.2.2.1, z0.2.2.2)))) fun z1 =>
  (.sub (l_toMatrix (aM_0, (aM_1, (aM_2, aM_3)))) fun z2 =>
  (.sub (i_OrderOf (z2.1, (z2.2.1, (z2.2.2.1, z2.2.2.2)))) fun z3 =>
  (.test (z3.1 != z1.1)
  (.ret false)
  (.test (! (z3.2 == z1.2))
   (.ret false)
   (.ret true)))))))
noncomputable def l_FnExactOrderOf (v : (Int × Int × Int × Int)) : Option Bool := (l_FnExactOrderOf_t v).run
noncomputable def l_FnExactOrderOf_E : TEnv := (((E0.add1 n_l_toMatrix l_toMatrix_sh l_toMatrix_fo l_toMatrix).add1 n_s_OrderOf s_OrderOf_sh s_OrderOf_fo s_OrderOf).add1 n_i_OrderOf i_OrderOf_sh i_OrderOf_fo i_OrderOf)
theorem l_FnExactOrderOf_Eok : (l_FnExactOrderOf_E).OK := (((E0ok.add1 l_toMatrix_ok).add1 s_OrderOf_ok).add1 i_OrderOf_ok)
noncomputable def l_FnExactOrderOf_told : Nat → Option SealT := fun id => none
theorem l_FnExactOrderOf_ok : FOK Try.prog n_l_FnExactOrderOf l_FnExactOrderOf_sh l_FnExactOrderOf_fo l_FnExactOrderOf :=
  fn_ok (E := l_FnExactOrderOf_E) (l_FnExactOrderOf_Eok) (told := l_FnExactOrderOf_told) (fl := []) (c := bodyOf fn_l_FnExactOrderOf) (s := l_FnExactOrderOf_sh) (l := l_FnExactOrderOf_fo) (tree := l_FnExactOrderOf_t) fnat_l_FnExactOrderOf (by kernel_rfl) (by kernel_rfl) (by kernel_rfl) (loopsOK_of (ls := []) (by kernel_rfl) trivial) (fun v => by kernel_rfl)

theorem uk_ne {t : Int} (h : t ≤ -2 ∨ 2 ≤ t) (k : Nat) : (uk t k).1.natAbs < (uk t k).2.natAbs ∨ k = 0 := by
  induction k with
  | zero => exact Or.inr rfl
  | succ k ih =>
    left
    rcases ih with ih | ih
    · have e : (uk t (k + 1)).2 = t * (uk t k).2 - (uk t k).1 := rfl
      have e1 : (uk t (k + 1)).1 = (uk t k).2 := rfl
      rw [e, e1]
      have h2 : 2 * (uk t k).2.natAbs ≤ (t * (uk t k).2).natAbs := by
        rw [Int.natAbs_mul]; exact Nat.mul_le_mul_right _ (by omega)
      omega
    · subst ih; simp [uk]
theorem ord_no (m : M4) : ∀ n, n ≤ 6 → (∀ j, j < n → pOf m (uk (m.1 + m.2.2.2) (6 - j)) ≠ one4) → ordI m n = (0, false) ∧ ordS m n = (0, false) := by
  intro n
  induction n with
  | zero => intro _ _; exact ⟨rfl, rfl⟩
  | succ n ih =>
    intro hn h
    have h0 := h n (by omega)
    obtain ⟨i1, i2⟩ := ih (by omega) (fun j hj => h j (by omega))
    rw [ordI, ordS, decide_eq_false h0, if_neg h0, i1, i2]
    simp
theorem ord_eq (m : M4) (hm : good4 m = true) : ordI m 6 = ordS m 6 := by
  by_cases hall : ∀ j, j < 6 → pOf m (uk (m.1 + m.2.2.2) (6 - j)) ≠ one4
  · obtain ⟨h1, h2⟩ := ord_no m 6 (Nat.le_refl 6) hall
    rw [h1, h2]
  · have hall : ∃ j, j < 6 ∧ pOf m (uk (m.1 + m.2.2.2) (6 - j)) = one4 := by
      refine Classical.byContradiction fun h => hall fun j hj e => h ⟨j, hj, e⟩
    obtain ⟨j, hj, e⟩ := hall
    obtain ⟨a, b, c, d⟩ := m
    obtain ⟨ga, gb, gc, gd, det⟩ := good4_iff.1 hm
    simp only [pOf, one4, Prod.mk.injEq] at e
    obtain ⟨e1, e2, e3, e4⟩ := e
    by_cases hz : (uk (a + d) (6 - j)).2 = 0
    · have ht : a + d = 0 ∨ a + d = 1 ∨ a + d = -1 := by
        refine Classical.byContradiction fun h => ?_
        have := uk_ne (t := a + d) (by omega) (6 - j)
        rw [hz] at this
        simp only [Int.natAbs_zero] at this
        omega
      have g : ∀ x y z w : Int, (-1000000000 ≤ x ∧ x ≤ 1000000000) → (-1000000000 ≤ y ∧ y ≤ 1000000000) → (-1000000000 ≤ z ∧ z ≤ 1000000000) → (-1000000000 ≤ w ∧ w ≤ 1000000000) → x * w - y * z = 1 → good4 (x, y, z, w) = true :=
        fun x y z w h1 h2 h3 h4 h5 => good4_iff.2 ⟨h1, h2, h3, h4, h5⟩
      rcases ht with ht | ht | ht
      · obtain rfl : d = -a := by omega
        have n1 : pOf (a, b, c, -a) (uk 0 1) = (a, b, c, -a) := by simp [pOf, uk]
        have n2 : pOf (a, b, c, -a) (uk 0 2) = (-1, 0, 0, -1) := by simp [pOf, uk]
        have n3 : pOf (a, b, c, -a) (uk 0 3) = (-a, -b, -c, a) := by simp [pOf, uk]
        have n4 : pOf (a, b, c, -a) (uk 0 4) = one4 := by simp [pOf, uk, one4]
        have f1 : (a, b, c, -a) ≠ one4 := by intro h; simp only [one4, Prod.mk.injEq] at h; omega
        have f2 : ((-1, 0, 0, -1) : M4) ≠ one4 := by decide
        have f3 : (-a, -b, -c, a) ≠ one4 := by intro h; simp only [one4, Prod.mk.injEq] at h; omega
        have g3 : good4 (-a, -b, -c, a) = true := g _ _ _ _ (by omega) (by omega) (by omega) (by omega) (by rw [Int.neg_mul_neg, ← det, Int.mul_neg, Int.neg_mul])
        have g4 : good4 one4 = true := by decide
        have g2 : good4 (-1, 0, 0, -1) = true := by decide
        have b4 : uB 0 4 = true := by decide
        simp only [ordI, ordS, ht, Nat.reduceSub, n1, n2, n3, n4, f1, f2, f3, g2, g3, g4, hm, b4, decide_false, Bool.and_false, if_false, if_true, decide_true, Bool.and_true, Bool.false_eq_true]
      · obtain rfl : d = 1 - a := by omega
        have n1 : pOf (a, b, c, 1 - a) (uk 1 1) = (a, b, c, 1 - a) := by simp [pOf, uk]
        have n2 : pOf (a, b, c, 1 - a) (uk 1 2) = (a - 1, b, c, 1 - a - 1) := by simp [pOf, uk]
        have n3 : pOf (a, b, c, 1 - a) (uk 1 3) = (-1, 0, 0, -1) := by simp [pOf, uk]
        have n4 : pOf (a, b, c, 1 - a) (uk 1 4) = (-a, -b, -c, -(1 - a)) := by simp [pOf, uk]
        have n5 : pOf (a, b, c, 1 - a) (uk 1 5) = (-a + 1, -b, -c, -(1 - a) + 1) := by simp [pOf, uk]
        have n6 : pOf (a, b, c, 1 - a) (uk 1 6) = one4 := by simp [pOf, uk, one4]
        have det' : a * (1 - a) = 1 + b * c := by omega
        have x1 : (a - 1) * (1 - a - 1) = a * (1 - a) := by
          rw [show 1 - a - 1 = -a by omega, show 1 - a = -(a - 1) by omega, Int.mul_neg, Int.mul_neg, Int.mul_comm]
        have x2 : -a * -(1 - a) = a * (1 - a) := Int.neg_mul_neg ..
        have x3 : (-a + 1) * (-(1 - a) + 1) = a * (1 - a) := by
          rw [show -(1 - a) + 1 = a by omega, show -a + 1 = 1 - a by omega, Int.mul_comm]
        have x4 : -b * -c = b * c := Int.neg_mul_neg ..
        have f1 : (a, b, c, 1 - a) ≠ one4 := by intro h; simp only [one4, Prod.mk.injEq] at h; omega
        have f2 : (a - 1, b, c, 1 - a - 1) ≠ one4 := by intro h; simp only [one4, Prod.mk.injEq] at h; omega
        have f3 : ((-1, 0, 0, -1) : M4) ≠ one4 := by decide
        have f4 : (-a, -b, -c, -(1 - a)) ≠ one4 := by intro h; simp only [one4, Prod.mk.injEq] at h; omega
        have f5 : (-a + 1, -b, -c, -(1 - a) + 1) ≠ one4 := by intro h; simp only [one4, Prod.mk.injEq] at h; omega
        have g2 : good4 (a - 1, b, c, 1 - a - 1) = true := g _ _ _ _ (by omega) (by omega) (by omega) (by omega) (by rw [x1]; omega)
        have g3 : good4 (-1, 0, 0, -1) = true := by decide
        have g4 : good4 (-a, -b, -c, -(1 - a)) = true := g _ _ _ _ (by omega) (by omega) (by omega) (by omega) (by rw [x2, x4]; omega)
        have g5 : good4 (-a + 1, -b, -c, -(1 - a) + 1) = true := g _ _ _ _ (by omega) (by omega) (by omega) (by omega) (by rw [x3, x4]; omega)
        have g6 : good4 one4 = true := by decide
        have b6 : uB 1 6 = true := by decide
        simp only [ordI, ordS, ht, Nat.reduceSub, n1, n2, n3, n4, n5, n6, f1, f2, f3, f4, f5, g2, g3, g4, g5, g6, hm, b6, decide_false, Bool.and_false, if_false, if_true, decide_true, Bool.and_true, Bool.false_eq_true]
      · obtain rfl : d = -1 - a := by omega
        have n1 : pOf (a, b, c, -1 - a) (uk (-1) 1) = (a, b, c, -1 - a) := by simp [pOf, uk]
        have n2 : pOf (a, b, c, -1 - a) (uk (-1) 2) = (-a - 1, -b, -c, -(-1 - a) - 1) := by simp [pOf, uk]
        have n3 : pOf (a, b, c, -1 - a) (uk (-1) 3) = one4 := by simp [pOf, uk, one4]
        have x1 : (-a - 1) * (-(-1 - a) - 1) = a * (-1 - a) := by
          rw [show -(-1 - a) - 1 = a by omega, show -a - 1 = -1 - a by omega, Int.mul_comm]
        have x4 : -b * -c = b * c := Int.neg_mul_neg ..
        have f1 : (a, b, c, -1 - a) ≠ one4 := by intro h; simp only [one4, Prod.mk.injEq] at h; omega
        have f2 : (-a - 1, -b, -c, -(-1 - a) - 1) ≠ one4 := by intro h; simp only [one4, Prod.mk.injEq] at h; omega
        have g2 : good4 (-a - 1, -b, -c, -(-1 - a) - 1) = true := g _ _ _ _ (by omega) (by omega) (by omega) (by omega) (by rw [x1, x4]; omega)
        have g3 : good4 one4 = true := by decide
        have b3 : uB (-1) 3 = true := by decide
        simp only [ordI, ordS, ht, Nat.reduceSub, n1, n2, n3, f1, f2, g2, g3, hm, b3, decide_false, Bool.and_false, if_false, if_true, decide_true, Bool.and_true, Bool.false_eq_true]
    · have hb : b = 0 := by rcases Int.mul_eq_zero.1 e2 with h | h; exact absurd h hz; exact h
      have hc : c = 0 := by rcases Int.mul_eq_zero.1 e3 with h | h; exact absurd h hz; exact h
      have had : d = a := by
        have h : (uk (a + d) (6 - j)).2 * (d - a) = 0 := by rw [Int.mul_sub]; omega
        rcases Int.mul_eq_zero.1 h with h | h
        · exact absurd h hz
        · omega
      subst hb hc had
      have h1 : d * d = 1 := by omega
      rcases Int.le_total 0 d with h0 | h0
      · obtain ⟨rfl, _⟩ := one_of_mul h0 h0 h1
        decide
      · have h2 : -d * -d = 1 := by rw [Int.neg_mul_neg]; exact h1
        obtain ⟨h3, _⟩ := one_of_mul (a := -d) (d := -d) (by omega) (by omega) h2
        obtain rfl : d = -1 := by omega
        decide
theorem l_FnExactOrderOf_true (m : M4) (hs : smallL ASh.small [.ag [.si .i64, .si .i64, .si .i64, .si .i64]] m) : l_FnExactOrderOf m = some true := by
  obtain ⟨a, b, c, d⟩ := m
  simp only [l_FnExactOrderOf, l_FnExactOrderOf_t, T.run, l_toMatrix, l_toMatrix_t, s_OrderOf_eq, i_OrderOf_eq, Option.bind_some]
  cases hg : good4 (a, b, c, d) with
  | false => simp
  | true => simp [ord_eq _ hg]


end Go.Proofs.W
