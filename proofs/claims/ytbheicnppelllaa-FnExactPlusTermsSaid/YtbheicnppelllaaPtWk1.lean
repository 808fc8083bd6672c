/- Functions of the program, walked, and what they compute. -/
import Derived.Test.YtbheicnppelllaaPtIds
set_option linter.unusedVariables false
set_option linter.unusedSimpArgs false
set_option maxRecDepth 100000
set_option maxHeartbeats 4000000
namespace Go.Proofs.W
open Go Go.Gm Go.Proofs
def iot (k : Int) (n : Nat) : List Int := (List.range n).map fun (i : Nat) => k + (i : Int)
theorem iot_len (k : Int) (n : Nat) : (iot k n).length = n := by simp [iot]
theorem iot_succ (k : Int) (n : Nat) : iot k (n + 1) = iot k n ++ [k + n] := by simp [iot, List.range_succ]
theorem iot_get (k : Int) {n i : Nat} (h : i < n) : (iot k n)[i]? = some (k + i) := by simp [iot, h]
theorem gcd_toNat_step {a b : Int} (ha : 0 ≤ a) (hb : 0 < b) : Nat.gcd b.toNat (Int.tmod a b).toNat = Nat.gcd a.toNat b.toNat ∧ 0 ≤ Int.tmod a b ∧ Int.tmod a b < b := by
  obtain ⟨m, rfl⟩ := Int.eq_ofNat_of_zero_le ha
  obtain ⟨n, rfl⟩ := Int.eq_ofNat_of_zero_le (Int.le_of_lt hb)
  have e : Int.tmod (m : Int) (n : Int) = ((m % n : Nat) : Int) := rfl
  rw [e]
  simp only [Int.toNat_natCast]
  refine ⟨?_, Int.natCast_nonneg _, ?_⟩
  · rw [Nat.gcd_comm m n, Nat.gcd_rec n m, Nat.gcd_comm]
  · have : n ≠ 0 := by omega
    exact Int.ofNat_lt.2 (Nat.mod_lt m (by omega))
def lowP (num den : Int) : Bool := inB 1 1000000 num && (inB 1 1000000 den && decide (Nat.gcd num.toNat den.toNat = 1))

def l_toIntS_sh : FSh := ⟨[(.one (.sl (.int .i64) false false))], []⟩

def l_toIntS_L3_sh : LSh := ⟨(fun ex => match ex with | .norm => [(0, none), (3, none), (4, none)] | .exit i => if i = 0 then [(3, none)] else [] | .ret => [(2, none)]), [(0, (.one (.sl (.int .i64) false false))), (3, (.one (.rw 0 0))), (4, (.one (.si .i64)))], [(.row 0 (.int .i64))], [⟨(.exit 0), [(3, (.one (.rw 0 0)))], [(.row 0 (.int .i64))]⟩]⟩
noncomputable def l_toIntS_L3_step : ((List (Int) × Unit × Int) × List (Int)) → T (((List (Int) × Unit × Int) × List (Int)) ⊕ (Unit × List (Int))) := fun ((a, (), i), out) =>
  (.test (decide (i < ((List.length a) : Int)))
  (.test (decide ((0 ≤ i) ∧ (i < ((List.length a) : Int))))
   (.sub (a[(Int.toNat i)]?) fun z0 =>
    (.test (decide ((0 ≤ i) ∧ (i < ((List.length out) : Int))))
    (.sub (out[(0 + (Int.toNat i))]?) fun z1 =>
     (.test (decide ((0 = 0) ∧ ((List.length out) = (List.length (List.set out (0 + (Int.toNat i)) z0)))))
     (.ret (Sum.inl ((a, ((), (w64 (i + 1)))), (List.set out (0 + (Int.toNat i)) z0))))
     .fail))
    .fail))
   .fail)
  (.test (decide ((0 = 0) ∧ ((List.length out) = (List.length out))))
   (.ret (Sum.inr ((), out)))
   .fail))
noncomputable def l_toIntS_L3 (v : ((List (Int) × Unit × Int) × List (Int))) : Option (Unit × List (Int)) := loopO (fun v => (l_toIntS_L3_step v).run) v

def l_toIntS_fo : List FO := [⟨[(.one (.rw 0 0))], [(.row 0 (.int .i64))]⟩]
noncomputable def l_toIntS_t : List (Int) → T (Unit × List (Int)) := fun a =>
  (.test (decide ((0 ≤ ((List.length a) : Int)) ∧ ((((List.length a) : Int) ≤ ((List.length a) : Int)) ∧ (((Int.toNat ((List.length a) : Int)) * 9) ≤ 140737488355328))))
  (.test (decide ((0 = 0) ∧ ((Int.toNat ((List.length a) : Int)) = (List.length (List.replicate (Int.toNat ((List.length a) : Int)) (0 : Int))))))
   (.sub (l_toIntS_L3 ((a, ((), (0 : Int))), (List.replicate (Int.toNat ((List.length a) : Int)) (0 : Int)))) fun z0 =>
    (.test (decide ((0 = 0) ∧ ((List.length z0.2) = (List.length z0.2))))
    (.ret ((), z0.2))
    .fail))
   .fail)
  .fail)
noncomputable def l_toIntS (v : List (Int)) : Option (Unit × List (Int)) := (l_toIntS_t v).run
noncomputable def l_toIntS_E : TEnv := E0
theorem l_toIntS_Eok : (l_toIntS_E).OK := E0ok
noncomputable def l_toIntS_told : Nat → Option SealT := fun id => if id = 3 then some (LSh.told l_toIntS_L3_sh 0 (l_toIntS_L3_step)) else none
theorem l_toIntS_L3_ok : ToldOK Try.prog 0 (loopAt (bodyOf fn_l_toIntS) [0]) (LSh.told l_toIntS_L3_sh 0 (l_toIntS_L3_step)) :=
  loop_ok (E := l_toIntS_E) (l_toIntS_Eok) (told := l_toIntS_told) (l := l_toIntS_L3_sh) (step := l_toIntS_L3_step) (loopsOK_of (ls := []) (by kernel_rfl) trivial) (by kernel_rfl) (fun v => by kernel_rfl)
theorem l_toIntS_ok : FOK Try.prog n_l_toIntS l_toIntS_sh l_toIntS_fo l_toIntS :=
  fn_ok (E := l_toIntS_E) (l_toIntS_Eok) (told := l_toIntS_told) (fl := []) (c := bodyOf fn_l_toIntS) (s := l_toIntS_sh) (l := l_toIntS_fo) (tree := l_toIntS_t) fnat_l_toIntS (by kernel_rfl) (by kernel_rfl) (by kernel_rfl) (loopsOK_of (ls := [loopAt (bodyOf fn_l_toIntS) [0]]) (by kernel_rfl) ⟨.inr ⟨_, by kernel_rfl, l_toIntS_L3_ok⟩, trivial⟩) (fun v => by kernel_rfl)

theorem l_toIntS_eq (a : List Int) (hl : a.length < 10000000000000) : l_toIntS a = some ((), a) := by
  have h := loop_eq (step := fun v => (l_toIntS_L3_step v).run) (fun v => a.length - v.1.2.2.toNat) (fun v => v.1.1 = a ∧ ∃ k : Nat, k ≤ a.length ∧ v.1.2.2 = k ∧ v.2.length = a.length ∧ v.2.take k = a.take k) (fun _ => ((), a)) (by
    rintro ⟨⟨a', ⟨⟩, i⟩, out⟩ ⟨e, k, hk, e2, hlen, ht⟩
    simp only at e e2 hlen ht
    subst e e2
    by_cases hlt : k < a'.length
    · left
      refine ⟨((a', (), (k + 1 : Nat)), out.set k a'[k]), ?_, ⟨rfl, k + 1, by omega, rfl, by simp [hlen], ?_⟩, by simp only [Int.toNat_natCast]; omega, rfl⟩
      · simp only [l_toIntS_L3_step, T.run, Int.toNat_natCast, Option.bind_some, List.getElem?_eq_getElem hlt, Nat.zero_add, List.getElem?_eq_getElem (show k < out.length by omega)]
        rw [w64_id (by omega) (by omega)]
        simp [hlen, hlt]
      · rw [List.take_succ_eq_append_getElem (by simp; omega), List.take_succ_eq_append_getElem hlt, List.take_set_of_le (Nat.le_refl _), ht]
        simp
    · right
      have : k = a'.length := by omega
      subst this
      rw [List.take_length, ← hlen, List.take_length] at ht
      subst ht
      simp [l_toIntS_L3_step, T.run])
    ((a, (), 0), List.replicate a.length 0) ⟨rfl, 0, Nat.zero_le _, rfl, by simp, by simp⟩
  simp only [l_toIntS, l_toIntS_t, T.run, l_toIntS_L3, Int.toNat_natCast]
  rw [h]
  simp
  omega


def s_l1In_sh : FSh := ⟨[(.one (.si .i64)), (.one (.si .i64)), (.one (.si .i64))], []⟩

def s_l1In_fo : List FO := [⟨[(.one .sb)], []⟩]
noncomputable def s_l1In_t : (Int × Int × Int) → T Bool := fun (n, lo, hi) =>
  (.test (decide (n ≥ lo))
  (.ret (decide (n ≤ hi)))
  (.ret false))
noncomputable def s_l1In (v : (Int × Int × Int)) : Option Bool := (s_l1In_t v).run
noncomputable def s_l1In_E : TEnv := E0
theorem s_l1In_Eok : (s_l1In_E).OK := E0ok
noncomputable def s_l1In_told : Nat → Option SealT := fun id => none
theorem s_l1In_ok : FOK Try.prog n_s_l1In s_l1In_sh s_l1In_fo s_l1In :=
  fn_ok (E := s_l1In_E) (s_l1In_Eok) (told := s_l1In_told) (fl := []) (c := bodyOf fn_s_l1In) (s := s_l1In_sh) (l := s_l1In_fo) (tree := s_l1In_t) fnat_s_l1In (by kernel_rfl) (by kernel_rfl) (by kernel_rfl) (loopsOK_of (ls := []) (by kernel_rfl) trivial) (fun v => by kernel_rfl)

theorem s_l1In_eq (n low high : Int) : s_l1In (n, low, high) = some (inB low high n) := by
  simp only [s_l1In, s_l1In_t, T.run, ge_iff_le, decide_eq_true_eq, inB]
  by_cases h : low ≤ n <;> simp [h]


def s_l1All_sh : FSh := ⟨[(.one (.sl (.int .i64) false false)), (.one (.si .i64)), (.one (.si .i64))], []⟩

def s_l1All_L2_sh : LSh := ⟨(fun ex => match ex with | .norm => [(1, none), (2, none), (9, none), (10, none), (11, none)] | .exit i => if i = 0 then [] else [] | .ret => [(6, none)]), [(1, (.one (.si .i64))), (2, (.one (.si .i64))), (9, (.one (.sl (.int .i64) false false))), (10, (.one (.si .i64))), (11, (.one (.si .i64)))], [], [⟨.ret, [(6, (.one .sb))], []⟩, ⟨(.exit 0), [], []⟩]⟩
noncomputable def s_l1All_L2_step : (Int × Int × List (Int) × Int × Int) → T ((Int × Int × List (Int) × Int × Int) ⊕ (Bool ⊕ Unit)) := fun (lo, hi, t9, t10, t11) =>
  (.test (decide (t11 < t10))
  (.test (decide ((0 ≤ t11) ∧ (t11 < ((List.length t9) : Int))))
   (.sub (t9[(Int.toNat t11)]?) fun z0 =>
    (.sub (s_l1In (z0, (lo, hi))) fun z1 =>
    (.test (! z1)
    (.ret (Sum.inr (Sum.inl false)))
    (.ret (Sum.inl (lo, (hi, (t9, (t10, (w64 (t11 + 1)))))))))))
   .fail)
  (.ret (Sum.inr (Sum.inr ()))))
noncomputable def s_l1All_L2 (v : (Int × Int × List (Int) × Int × Int)) : Option (Bool ⊕ Unit) := loopO (fun v => (s_l1All_L2_step v).run) v

def s_l1All_fo : List FO := [⟨[(.one .sb)], []⟩]
noncomputable def s_l1All_t : (List (Int) × Int × Int) → T Bool := fun (l, lo, hi) =>
  (.sub (s_l1All_L2 (lo, (hi, (l, (((List.length l) : Int), (0 : Int)))))) fun z0 =>
  (.test (Sum.isLeft z0)
  (.sub (Sum.getLeft? z0) fun z1 =>
   (.ret z1))
  (.sub (Sum.getRight? z0) fun z2 =>
   (.ret true))))
noncomputable def s_l1All (v : (List (Int) × Int × Int)) : Option Bool := (s_l1All_t v).run
noncomputable def s_l1All_E : TEnv := (E0.add1 n_s_l1In s_l1In_sh s_l1In_fo s_l1In)
theorem s_l1All_Eok : (s_l1All_E).OK := (E0ok.add1 s_l1In_ok)
noncomputable def s_l1All_told : Nat → Option SealT := fun id => if id = 2 then some (LSh.told s_l1All_L2_sh 0 (s_l1All_L2_step)) else none
theorem s_l1All_L2_ok : ToldOK Try.prog 0 (loopAt (bodyOf fn_s_l1All) [0]) (LSh.told s_l1All_L2_sh 0 (s_l1All_L2_step)) :=
  loop_ok (E := s_l1All_E) (s_l1All_Eok) (told := s_l1All_told) (l := s_l1All_L2_sh) (step := s_l1All_L2_step) (loopsOK_of (ls := []) (by kernel_rfl) trivial) (by kernel_rfl) (fun v => by kernel_rfl)
theorem s_l1All_ok : FOK Try.prog n_s_l1All s_l1All_sh s_l1All_fo s_l1All :=
  fn_ok (E := s_l1All_E) (s_l1All_Eok) (told := s_l1All_told) (fl := []) (c := bodyOf fn_s_l1All) (s := s_l1All_sh) (l := s_l1All_fo) (tree := s_l1All_t) fnat_s_l1All (by kernel_rfl) (by kernel_rfl) (by kernel_rfl) (loopsOK_of (ls := [loopAt (bodyOf fn_s_l1All) [0]]) (by kernel_rfl) ⟨.inr ⟨_, by kernel_rfl, s_l1All_L2_ok⟩, trivial⟩) (fun v => by kernel_rfl)

theorem s_l1All_eq (l : List Int) (lo hi : Int) (hl : l.length < 4611686018427387904) : s_l1All (l, lo, hi) = some (l.all (inB lo hi)) := by
  have h := loop_any (step := fun v => (s_l1All_L2_step v).run) (xs := l) (fun n => !inB lo hi n) (fun k => (lo, hi, l, (l.length : Int), (k : Int))) (.inl false) (.inr ())
    (fun k x hx => by
      have hk := getElem?_lt hx
      simp only [s_l1All_L2_step, T.run, s_l1In_eq, Option.bind_some, Int.toNat_natCast, hx]
      rw [w64_id (by omega) (by omega)]
      cases inB lo hi x <;> simp [hk])
    (by simp [s_l1All_L2_step, T.run])
  simp only [s_l1All, s_l1All_t, T.run, s_l1All_L2]
  simp only [Int.natCast_zero] at h
  rw [h, ← all_any]
  cases hb : l.any (fun n => !inB lo hi n) <;> simp


def s_ctGood_sh : FSh := ⟨[(.one (.sl (.int .i64) false false))], []⟩

def s_ctGood_fo : List FO := [⟨[(.one .sb)], []⟩]
noncomputable def s_ctGood_t : List (Int) → T Bool := fun list =>
  (.test (decide (((List.length list) : Int) ≤ 10))
  (.sub (s_l1All (list, ((-30), (30 : Int)))) fun z0 =>
   (.ret z0))
  (.ret false))
noncomputable def s_ctGood (v : List (Int)) : Option Bool := (s_ctGood_t v).run
noncomputable def s_ctGood_E : TEnv := (E0.add1 n_s_l1All s_l1All_sh s_l1All_fo s_l1All)
theorem s_ctGood_Eok : (s_ctGood_E).OK := (E0ok.add1 s_l1All_ok)
noncomputable def s_ctGood_told : Nat → Option SealT := fun id => none
theorem s_ctGood_ok : FOK Try.prog n_s_ctGood s_ctGood_sh s_ctGood_fo s_ctGood :=
  fn_ok (E := s_ctGood_E) (s_ctGood_Eok) (told := s_ctGood_told) (fl := []) (c := bodyOf fn_s_ctGood) (s := s_ctGood_sh) (l := s_ctGood_fo) (tree := s_ctGood_t) fnat_s_ctGood (by kernel_rfl) (by kernel_rfl) (by kernel_rfl) (loopsOK_of (ls := []) (by kernel_rfl) trivial) (fun v => by kernel_rfl)

theorem s_ctGood_eq (l : List Int) (hl : l.length < 4611686018427387904) : s_ctGood l = some (isTerms l) := by
  simp only [s_ctGood, s_ctGood_t, T.run, s_l1All_eq _ _ _ hl, Option.bind_some, isTerms, decide_eq_true_eq]
  by_cases h : l.length ≤ 10
  · rw [if_pos (by omega)]; simp [h]
  · rw [if_neg (by omega)]; simp [h]


def s_mxOne_sh : FSh := ⟨[], []⟩

def s_mxOne_fo : List FO := [⟨[(.ag [(.si .i64), (.si .i64), (.si .i64), (.si .i64)])], []⟩]
noncomputable def s_mxOne_t : Unit → T (Int × Int × Int × Int) := fun () =>
  (.ret ((1 : Int), ((0 : Int), ((0 : Int), (1 : Int)))))
noncomputable def s_mxOne (v : Unit) : Option (Int × Int × Int × Int) := (s_mxOne_t v).run
noncomputable def s_mxOne_E : TEnv := E0
theorem s_mxOne_Eok : (s_mxOne_E).OK := E0ok
noncomputable def s_mxOne_told : Nat → Option SealT := fun id => none
theorem s_mxOne_ok : FOK Try.prog n_s_mxOne s_mxOne_sh s_mxOne_fo s_mxOne :=
  fn_ok (E := s_mxOne_E) (s_mxOne_Eok) (told := s_mxOne_told) (fl := []) (c := bodyOf fn_s_mxOne) (s := s_mxOne_sh) (l := s_mxOne_fo) (tree := s_mxOne_t) fnat_s_mxOne (by kernel_rfl) (by kernel_rfl) (by kernel_rfl) (loopsOK_of (ls := []) (by kernel_rfl) trivial) (fun v => by kernel_rfl)

theorem s_mxOne_eq : s_mxOne () = some one4 := rfl


def s_ctValue_sh : FSh := ⟨[(.one (.sl (.int .i64) false false)), (.one (.si .i64))], []⟩

def s_ctValue_L3_sh : LSh := ⟨(fun ex => match ex with | .norm => [(1, none), (5, none), (6, none), (10, none), (11, none), (12, none)] | .exit i => if i = 0 then [(6, none)] else [] | .ret => [(4, none)]), [(1, (.one (.si .i64))), (5, (.one (.si .i64))), (6, (.one (.si .i64))), (10, (.one (.sl (.int .i64) false false))), (11, (.one (.si .i64))), (12, (.one (.si .i64)))], [], [⟨(.exit 0), [(6, (.one (.si .i64)))], []⟩]⟩
noncomputable def s_ctValue_L3_step : (Int × Int × Int × List (Int) × Int × Int) → T ((Int × Int × Int × List (Int) × Int × Int) ⊕ Int) := fun (sign, before, at', t10, t11, t12) =>
  (.test (decide (t12 < t11))
  (.test (decide ((0 ≤ t12) ∧ (t12 < ((List.length t10) : Int))))
   (.sub (t10[(Int.toNat t12)]?) fun z0 =>
    (.ret (Sum.inl (sign, (at', ((w64 ((w64 (z0 * at')) + (w64 (sign * before)))), (t10, (t11, (w64 (t12 + 1))))))))))
   .fail)
  (.ret (Sum.inr at')))
noncomputable def s_ctValue_L3 (v : (Int × Int × Int × List (Int) × Int × Int)) : Option Int := loopO (fun v => (s_ctValue_L3_step v).run) v

def s_ctValue_fo : List FO := [⟨[(.one (.si .i64))], []⟩]
noncomputable def s_ctValue_t : (List (Int) × Int) → T Int := fun (list, sign) =>
  (.sub (s_ctValue_L3 (sign, ((0 : Int), ((1 : Int), (list, (((List.length list) : Int), (0 : Int))))))) fun z0 =>
  (.ret z0))
noncomputable def s_ctValue (v : (List (Int) × Int)) : Option Int := (s_ctValue_t v).run
noncomputable def s_ctValue_E : TEnv := E0
theorem s_ctValue_Eok : (s_ctValue_E).OK := E0ok
noncomputable def s_ctValue_told : Nat → Option SealT := fun id => if id = 3 then some (LSh.told s_ctValue_L3_sh 0 (s_ctValue_L3_step)) else none
theorem s_ctValue_L3_ok : ToldOK Try.prog 0 (loopAt (bodyOf fn_s_ctValue) [0]) (LSh.told s_ctValue_L3_sh 0 (s_ctValue_L3_step)) :=
  loop_ok (E := s_ctValue_E) (s_ctValue_Eok) (told := s_ctValue_told) (l := s_ctValue_L3_sh) (step := s_ctValue_L3_step) (loopsOK_of (ls := []) (by kernel_rfl) trivial) (by kernel_rfl) (fun v => by kernel_rfl)
theorem s_ctValue_ok : FOK Try.prog n_s_ctValue s_ctValue_sh s_ctValue_fo s_ctValue :=
  fn_ok (E := s_ctValue_E) (s_ctValue_Eok) (told := s_ctValue_told) (fl := []) (c := bodyOf fn_s_ctValue) (s := s_ctValue_sh) (l := s_ctValue_fo) (tree := s_ctValue_t) fnat_s_ctValue (by kernel_rfl) (by kernel_rfl) (by kernel_rfl) (loopsOK_of (ls := [loopAt (bodyOf fn_s_ctValue) [0]]) (by kernel_rfl) ⟨.inr ⟨_, by kernel_rfl, s_ctValue_L3_ok⟩, trivial⟩) (fun v => by kernel_rfl)

theorem s_ctValue_eq (l : List Int) (sign : Int) (hs : sign = 1 ∨ sign = -1) (hl : l.length ≤ 10) (ht : ∀ x ∈ l, -30 ≤ x ∧ x ≤ 30) : s_ctValue (l, sign) = some (cont sign l) := by
  have h := loop_fold (step := fun v => (s_ctValue_L3_step v).run) (xs := l) (fun k p => cfB k p) (fun k p => (sign, p.1, p.2, l, (l.length : Int), (k : Int))) (cf sign) (fun p => p.2)
    (fun k p x hP hx => by
      have hk := getElem?_lt hx
      have hb := cfB_step hs hP (ht x (List.mem_of_getElem? hx))
      have hp := pw_le (k := k + 1) (by omega)
      have hp2 := pw_succ k
      obtain ⟨h1, h2, h3, h4⟩ := hP
      obtain ⟨⟨g1, g2, g3, g4⟩, g5, g6⟩ := hb
      simp only [s_ctValue_L3_step, T.run, Option.bind_some, Int.toNat_natCast, hx]
      simp only [cf] at g3 g4
      have e1 : w64 (x * p.2) = x * p.2 := w64_id (by omega) (by omega)
      have e2 : w64 (sign * p.1) = sign * p.1 := by rcases hs with rfl | rfl <;> exact w64_id (by omega) (by omega)
      rw [e1, e2, w64_id (by omega) (by omega), w64_id (by omega) (by omega)]
      exact ⟨by simp [hk, cf], ⟨g1, g2, g3, g4⟩⟩)
    (fun s hP => by simp [s_ctValue_L3_step, T.run]) (0, 1) (by simp [cfB, pw])
  simp only [s_ctValue, s_ctValue_t, T.run, s_ctValue_L3]
  simp only [Int.natCast_zero] at h
  rw [h.1]
  rfl


def s_mxList_sh : FSh := ⟨[(.one (.sl (.int .i64) false false))], []⟩

def s_mxList_fo : List FO := [⟨[(.ag [(.si .i64), (.si .i64), (.si .i64), (.si .i64)])], []⟩]
noncomputable def s_mxList_t : List (Int) → T (Int × Int × Int × Int) := fun list =>
  (.test (((List.length list) : Int) == 0)
  (.sub (s_mxOne ()) fun z0 =>
   (.ret (z0.1, (z0.2.1, (z0.2.2.1, z0.2.2.2)))))
  (.sub (s_ctValue (list, (-1))) fun z1 =>
   (.test (decide (0 ≤ (w64 (((List.length list) : Int) - 1))))
   (.test (decide ((0 ≤ (Int.toNat (w64 (((List.length list) : Int) - 1)))) ∧ ((Int.toNat (w64 (((List.length list) : Int) - 1))) ≤ (List.length list))))
    (.sub (s_ctValue ((win list 0 ((Int.toNat (w64 (((List.length list) : Int) - 1))) - 0)), (-1))) fun z2 =>
     (.test true
     (.test (decide ((1 ≤ (List.length list)) ∧ ((List.length list) ≤ (List.length list))))
      (.sub (s_ctValue ((win list 1 ((List.length list) - 1)), (-1))) fun z3 =>
       (.test (decide (((List.length list) : Int) > 1))
       (.test true
        (.test (decide (0 ≤ (w64 (((List.length list) : Int) - 1))))
         (.test (decide ((1 ≤ (Int.toNat (w64 (((List.length list) : Int) - 1)))) ∧ ((Int.toNat (w64 (((List.length list) : Int) - 1))) ≤ (List.length list))))
          (.sub (s_ctValue ((win list 1 ((Int.toNat (w64 (((List.length list) : Int) - 1))) - 1)), (-1))) fun z4 =>
           (.ret (z1, ((w64 (0 - z2)), (z3, (w64 (0 - z4)))))))
          .fail)
         .fail)
        .fail)
       (.ret (z1, ((w64 (0 - z2)), (z3, (0 : Int)))))))
      .fail)
     .fail))
    .fail)
   .fail)))
noncomputable def s_mxList (v : List (Int)) : Option (Int × Int × Int × Int) := (s_mxList_t v).run
noncomputable def s_mxList_E : TEnv := ((E0.add1 n_s_mxOne s_mxOne_sh s_mxOne_fo s_mxOne).add1 n_s_ctValue s_ctValue_sh s_ctValue_fo s_ctValue)
theorem s_mxList_Eok : (s_mxList_E).OK := ((E0ok.add1 s_mxOne_ok).add1 s_ctValue_ok)
noncomputable def s_mxList_told : Nat → Option SealT := fun id => none
theorem s_mxList_ok : FOK Try.prog n_s_mxList s_mxList_sh s_mxList_fo s_mxList :=
  fn_ok (E := s_mxList_E) (s_mxList_Eok) (told := s_mxList_told) (fl := []) (c := bodyOf fn_s_mxList) (s := s_mxList_sh) (l := s_mxList_fo) (tree := s_mxList_t) fnat_s_mxList (by kernel_rfl) (by kernel_rfl) (by kernel_rfl) (loopsOK_of (ls := []) (by kernel_rfl) trivial) (fun v => by kernel_rfl)

theorem s_mxList_eq (l : List Int) (h : isTerms l = true) : s_mxList l = some (mOf l) := by
  obtain ⟨hl, ht⟩ := isTerms_iff.1 h
  cases l with
  | nil => simp [s_mxList, s_mxList_t, T.run, s_mxOne_eq, mOf, one4]
  | cons b t =>
    have hb := mOf_B (b :: t) ht
    have hp := pw_le (k := (b :: t).length) (by omega)
    have ht' : ∀ x ∈ t, -30 ≤ x ∧ x ≤ 30 := fun x hx => ht x (List.mem_cons_of_mem _ hx)
    simp only [List.length_cons] at hl hp hb
    have e2 : w64 (((t.length + 1 : Nat) : Int) - 1) = (t.length : Int) := by rw [w64_id (by omega) (by omega)]; omega
    have e3 : win (b :: t) 0 t.length = (b :: t).dropLast := by rw [win_take, List.dropLast_eq_take]; simp
    have e4 : win (b :: t) 1 t.length = t := by unfold win; simp
    have e5 : win (b :: t) 1 (t.length - 1) = t.dropLast := by unfold win; simp [List.dropLast_eq_take]
    have hd : ∀ x ∈ (b :: t).dropLast, -30 ≤ x ∧ x ≤ 30 := fun x hx => ht x (by rw [List.dropLast_eq_take] at hx; exact List.mem_of_mem_take hx)
    have hd2 : ∀ x ∈ t.dropLast, -30 ≤ x ∧ x ≤ 30 := fun x hx => ht' x (by rw [List.dropLast_eq_take] at hx; exact List.mem_of_mem_take hx)
    have hc1 := s_ctValue_eq (b :: t) (-1) (.inr rfl) (by simpa using hl) ht
    have hc2 := s_ctValue_eq (b :: t).dropLast (-1) (.inr rfl) (by simp; omega) hd
    have hc3 := s_ctValue_eq t (-1) (.inr rfl) (by omega) ht'
    have hc4 := s_ctValue_eq t.dropLast (-1) (.inr rfl) (by simp; omega) hd2
    have f1 := cont2_fst (-1) (b :: t)
    have f2 := cont2_fst (-1) t
    simp only [mOf, f1, f2, reduceCtorEq, if_false, in4] at hb ⊢
    simp only [s_mxList, s_mxList_t, T.run, List.length_cons, e2, Int.toNat_natCast, Nat.sub_zero, Nat.add_sub_cancel, hc1, Option.bind_some, e3, e4, e5, hc2, hc3, hc4]
    have n1 : w64 (0 - cont (-1) (b :: t).dropLast) = -cont (-1) (b :: t).dropLast := by rw [w64_id (by omega) (by omega)]; omega
    by_cases h0 : t = []
    · subst h0
      rw [n1]
      simp
    · have hpos : 0 < t.length := List.length_pos_iff.2 h0
      simp only [if_neg h0] at hb ⊢
      have n2 : w64 (0 - cont (-1) t.dropLast) = -cont (-1) t.dropLast := by rw [w64_id (by omega) (by omega)]; omega
      rw [n1, n2]
      simp [show ¬ ((t.length : Int) + 1 = 0) by omega, show 1 < (t.length : Int) + 1 by omega, show 1 ≤ t.length by omega]


def s_mxGood_sh : FSh := ⟨[(.ag [(.si .i64), (.si .i64), (.si .i64), (.si .i64)])], []⟩

def s_mxGood_fo : List FO := [⟨[(.one .sb)], []⟩]
noncomputable def s_mxGood_t : (Int × Int × Int × Int) → T Bool := fun (m_0, m_1, m_2, m_3) =>
  (.test (decide (4 ≤ (List.length (List.set (List.set (List.set (List.set (List.replicate 4 (0 : Int)) 0 m_0) 1 m_1) 2 m_2) 3 m_3))))
  (.sub (s_l1All ((win (List.set (List.set (List.set (List.set (List.replicate 4 (0 : Int)) 0 m_0) 1 m_1) 2 m_2) 3 m_3) 0 4), ((-1000000000), (1000000000 : Int)))) fun z0 =>
   (.test z0
   (.ret ((w64 ((w64 (m_0 * m_3)) - (w64 (m_1 * m_2)))) == 1))
   (.ret false)))
  .fail)
noncomputable def s_mxGood (v : (Int × Int × Int × Int)) : Option Bool := (s_mxGood_t v).run
noncomputable def s_mxGood_E : TEnv := (E0.add1 n_s_l1All s_l1All_sh s_l1All_fo s_l1All)
theorem s_mxGood_Eok : (s_mxGood_E).OK := (E0ok.add1 s_l1All_ok)
noncomputable def s_mxGood_told : Nat → Option SealT := fun id => none
theorem s_mxGood_ok : FOK Try.prog n_s_mxGood s_mxGood_sh s_mxGood_fo s_mxGood :=
  fn_ok (E := s_mxGood_E) (s_mxGood_Eok) (told := s_mxGood_told) (fl := []) (c := bodyOf fn_s_mxGood) (s := s_mxGood_sh) (l := s_mxGood_fo) (tree := s_mxGood_t) fnat_s_mxGood (by kernel_rfl) (by kernel_rfl) (by kernel_rfl) (loopsOK_of (ls := []) (by kernel_rfl) trivial) (fun v => by kernel_rfl)

theorem s_mxGood_eq (m : M4) : s_mxGood m = some (good4 m) := by
  obtain ⟨a, b, c, d⟩ := m
  simp only [s_mxGood, s_mxGood_t, T.run]
  have e : win (List.set (List.set (List.set (List.set (List.replicate 4 (0 : Int)) 0 a) 1 b) 2 c) 3 d) 0 4 = [a, b, c, d] := rfl
  rw [e, s_l1All_eq _ _ _ (by simp)]
  simp only [List.length_set, List.length_replicate, Option.bind_some, good4, List.all_cons, List.all_nil, Bool.and_true]
  cases h : inB (-1000000000) 1000000000 a && (inB (-1000000000) 1000000000 b && (inB (-1000000000) 1000000000 c && inB (-1000000000) 1000000000 d)) with
  | false => simp
  | true =>
    simp only [Bool.and_eq_true, inB_iff] at h
    rw [det_w h.1 h.2.1 h.2.2.1 h.2.2.2]
    simp [beq_int]


def s_mxIf_sh : FSh := ⟨[(.ag [(.si .i64), (.si .i64), (.si .i64), (.si .i64)])], []⟩

def s_mxIf_fo : List FO := [⟨[(.ag [(.si .i64), (.si .i64), (.si .i64), (.si .i64)]), (.one .sb)], []⟩]
noncomputable def s_mxIf_t : (Int × Int × Int × Int) → T ((Int × Int × Int × Int) × Bool) := fun (m_0, m_1, m_2, m_3) =>
  (.sub (s_mxGood (m_0, (m_1, (m_2, m_3)))) fun z0 =>
  (.test (! z0)
  (.ret (((0 : Int), ((0 : Int), ((0 : Int), (0 : Int)))), false))
  (.ret ((m_0, (m_1, (m_2, m_3))), true))))
noncomputable def s_mxIf (v : (Int × Int × Int × Int)) : Option ((Int × Int × Int × Int) × Bool) := (s_mxIf_t v).run
noncomputable def s_mxIf_E : TEnv := (E0.add1 n_s_mxGood s_mxGood_sh s_mxGood_fo s_mxGood)
theorem s_mxIf_Eok : (s_mxIf_E).OK := (E0ok.add1 s_mxGood_ok)
noncomputable def s_mxIf_told : Nat → Option SealT := fun id => none
theorem s_mxIf_ok : FOK Try.prog n_s_mxIf s_mxIf_sh s_mxIf_fo s_mxIf :=
  fn_ok (E := s_mxIf_E) (s_mxIf_Eok) (told := s_mxIf_told) (fl := []) (c := bodyOf fn_s_mxIf) (s := s_mxIf_sh) (l := s_mxIf_fo) (tree := s_mxIf_t) fnat_s_mxIf (by kernel_rfl) (by kernel_rfl) (by kernel_rfl) (loopsOK_of (ls := []) (by kernel_rfl) trivial) (fun v => by kernel_rfl)

theorem s_mxIf_eq (m : M4) : s_mxIf m = some (if good4 m then (m, true) else ((0, 0, 0, 0), false)) := by
  obtain ⟨a, b, c, d⟩ := m
  simp only [s_mxIf, s_mxIf_t, T.run, s_mxGood_eq, Option.bind_some]
  cases good4 (a, b, c, d) <;> simp
theorem good4_in {m : M4} (h : good4 m = true) : in4 1000000000 m := by
  obtain ⟨a, b, c, d⟩ := m
  rw [good4_iff] at h
  simp only [in4]; omega


def s_MatrixOfList_sh : FSh := ⟨[(.one (.sl (.int .i64) false false))], []⟩

def s_MatrixOfList_fo : List FO := [⟨[(.ag [(.si .i64), (.si .i64), (.si .i64), (.si .i64)]), (.one .sb)], []⟩]
noncomputable def s_MatrixOfList_t : List (Int) → T ((Int × Int × Int × Int) × Bool) := fun list =>
  (.sub (s_ctGood list) fun z0 =>
  (.test (! z0)
  (.ret (((0 : Int), ((0 : Int), ((0 : Int), (0 : Int)))), false))
  (.sub (s_mxList list) fun z1 =>
   (.sub (s_mxIf (z1.1, (z1.2.1, (z1.2.2.1, z1.2.2.2)))) fun z2 =>
   (.ret ((z2.1.1, (z2.1.2.1, (z2.1.2.2.1, z2.1.2.2.2))), z2.2))))))
noncomputable def s_MatrixOfList (v : List (Int)) : Option ((Int × Int × Int × Int) × Bool) := (s_MatrixOfList_t v).run
noncomputable def s_MatrixOfList_E : TEnv := (((E0.add1 n_s_ctGood s_ctGood_sh s_ctGood_fo s_ctGood).add1 n_s_mxList s_mxList_sh s_mxList_fo s_mxList).add1 n_s_mxIf s_mxIf_sh s_mxIf_fo s_mxIf)
theorem s_MatrixOfList_Eok : (s_MatrixOfList_E).OK := (((E0ok.add1 s_ctGood_ok).add1 s_mxList_ok).add1 s_mxIf_ok)
noncomputable def s_MatrixOfList_told : Nat → Option SealT := fun id => none
theorem s_MatrixOfList_ok : FOK Try.prog n_s_MatrixOfList s_MatrixOfList_sh s_MatrixOfList_fo s_MatrixOfList :=
  fn_ok (E := s_MatrixOfList_E) (s_MatrixOfList_Eok) (told := s_MatrixOfList_told) (fl := []) (c := bodyOf fn_s_MatrixOfList) (s := s_MatrixOfList_sh) (l := s_MatrixOfList_fo) (tree := s_MatrixOfList_t) fnat_s_MatrixOfList (by kernel_rfl) (by kernel_rfl) (by kernel_rfl) (loopsOK_of (ls := []) (by kernel_rfl) trivial) (fun v => by kernel_rfl)

theorem s_MatrixOfList_eq (l : List Int) (hl : l.length < 4611686018427387904) : s_MatrixOfList l = some (if isTerms l && good4 (mOf l) then (mOf l, true) else ((0, 0, 0, 0), false)) := by
  simp only [s_MatrixOfList, s_MatrixOfList_t, T.run, s_ctGood_eq l hl, Option.bind_some]
  cases h : isTerms l with
  | false => simp
  | true =>
    simp only [Bool.not_true, Bool.false_eq_true, if_false, s_mxList_eq l h, Option.bind_some, s_mxIf_eq, Bool.true_and]


def i_within_sh : FSh := ⟨[(.one (.si .i64)), (.one (.si .i64)), (.one (.si .i64))], []⟩

def i_within_fo : List FO := [⟨[(.one .sb)], []⟩]
noncomputable def i_within_t : (Int × Int × Int) → T Bool := fun (n, low, high) =>
  (.test (decide (n ≥ low))
  (.ret (decide (n ≤ high)))
  (.ret false))
noncomputable def i_within (v : (Int × Int × Int)) : Option Bool := (i_within_t v).run
noncomputable def i_within_E : TEnv := E0
theorem i_within_Eok : (i_within_E).OK := E0ok
noncomputable def i_within_told : Nat → Option SealT := fun id => none
theorem i_within_ok : FOK Try.prog n_i_within i_within_sh i_within_fo i_within :=
  fn_ok (E := i_within_E) (i_within_Eok) (told := i_within_told) (fl := []) (c := bodyOf fn_i_within) (s := i_within_sh) (l := i_within_fo) (tree := i_within_t) fnat_i_within (by kernel_rfl) (by kernel_rfl) (by kernel_rfl) (loopsOK_of (ls := []) (by kernel_rfl) trivial) (fun v => by kernel_rfl)

theorem i_within_eq (n low high : Int) : i_within (n, low, high) = some (inB low high n) := by
  simp only [i_within, i_within_t, T.run, ge_iff_le, decide_eq_true_eq, inB]
  by_cases h : low ≤ n <;> simp [h]


def i_IsTermList_1_sh : FSh := ⟨[(.one (.si .i64))], []⟩

def i_IsTermList_1_fo : List FO := [⟨[(.one .sb)], []⟩]
noncomputable def i_IsTermList_1_t : Int → T Bool := fun n =>
  (.sub (i_within (n, ((-30), (30 : Int)))) fun z0 =>
  (.ret (! z0)))
noncomputable def i_IsTermList_1 (v : Int) : Option Bool := (i_IsTermList_1_t v).run
noncomputable def i_IsTermList_1_E : TEnv := (E0.add1 n_i_within i_within_sh i_within_fo i_within)
theorem i_IsTermList_1_Eok : (i_IsTermList_1_E).OK := (E0ok.add1 i_within_ok)
noncomputable def i_IsTermList_1_told : Nat → Option SealT := fun id => none
theorem i_IsTermList_1_ok : FOK Try.prog n_i_IsTermList_1 i_IsTermList_1_sh i_IsTermList_1_fo i_IsTermList_1 :=
  fn_ok (E := i_IsTermList_1_E) (i_IsTermList_1_Eok) (told := i_IsTermList_1_told) (fl := []) (c := bodyOf fn_i_IsTermList_1) (s := i_IsTermList_1_sh) (l := i_IsTermList_1_fo) (tree := i_IsTermList_1_t) fnat_i_IsTermList_1 (by kernel_rfl) (by kernel_rfl) (by kernel_rfl) (loopsOK_of (ls := []) (by kernel_rfl) trivial) (fun v => by kernel_rfl)

theorem i_IsTermList_1_eq (k : Int) : i_IsTermList_1 k = some (!inB (-30) 30 k) := by
  simp only [i_IsTermList_1, i_IsTermList_1_t, T.run, i_within_eq, Option.bind_some]


def slices_IndexFunc_int__i_IsTermList_1_sh : FSh := ⟨[(.one (.sl (.int .i64) false false)), (.one (.fn n_i_IsTermList_1))], []⟩

def slices_IndexFunc_int__i_IsTermList_1_L2_sh : LSh := ⟨(fun ex => match ex with | .norm => [(0, none), (1, none), (7, none), (8, none)] | .exit i => if i = 0 then [] else [] | .ret => [(4, none)]), [(0, (.one (.sl (.int .i64) false false))), (1, (.one (.fn n_i_IsTermList_1))), (7, (.one (.si .i64))), (8, (.one (.si .i64)))], [], [⟨.ret, [(4, (.one (.si .i64)))], []⟩, ⟨(.exit 0), [], []⟩]⟩
noncomputable def slices_IndexFunc_int__i_IsTermList_1_L2_step : (List (Int) × Unit × Int × Int) → T ((List (Int) × Unit × Int × Int) ⊕ (Int ⊕ Unit)) := fun (s, (), t7, t8) =>
  (.test (decide (t8 < t7))
  (.test (decide ((0 ≤ t8) ∧ (t8 < ((List.length s) : Int))))
   (.sub (s[(Int.toNat t8)]?) fun z0 =>
    (.sub (i_IsTermList_1 z0) fun z1 =>
    (.test z1
    (.ret (Sum.inr (Sum.inl t8)))
    (.ret (Sum.inl (s, ((), (t7, (w64 (t8 + 1))))))))))
   .fail)
  (.ret (Sum.inr (Sum.inr ()))))
noncomputable def slices_IndexFunc_int__i_IsTermList_1_L2 (v : (List (Int) × Unit × Int × Int)) : Option (Int ⊕ Unit) := loopO (fun v => (slices_IndexFunc_int__i_IsTermList_1_L2_step v).run) v

def slices_IndexFunc_int__i_IsTermList_1_fo : List FO := [⟨[(.one (.si .i64))], []⟩]
noncomputable def slices_IndexFunc_int__i_IsTermList_1_t : (List (Int) × Unit) → T Int := fun (s, ()) =>
  (.sub (slices_IndexFunc_int__i_IsTermList_1_L2 (s, ((), (((List.length s) : Int), (0 : Int))))) fun z0 =>
  (.test (Sum.isLeft z0)
  (.sub (Sum.getLeft? z0) fun z1 =>
   (.ret z1))
  (.sub (Sum.getRight? z0) fun z2 =>
   (.ret (-1)))))
noncomputable def slices_IndexFunc_int__i_IsTermList_1 (v : (List (Int) × Unit)) : Option Int := (slices_IndexFunc_int__i_IsTermList_1_t v).run
noncomputable def slices_IndexFunc_int__i_IsTermList_1_E : TEnv := (E0.add1 n_i_IsTermList_1 i_IsTermList_1_sh i_IsTermList_1_fo i_IsTermList_1)
theorem slices_IndexFunc_int__i_IsTermList_1_Eok : (slices_IndexFunc_int__i_IsTermList_1_E).OK := (E0ok.add1 i_IsTermList_1_ok)
noncomputable def slices_IndexFunc_int__i_IsTermList_1_told : Nat → Option SealT := fun id => if id = 2 then some (LSh.told slices_IndexFunc_int__i_IsTermList_1_L2_sh 0 (slices_IndexFunc_int__i_IsTermList_1_L2_step)) else none
theorem slices_IndexFunc_int__i_IsTermList_1_L2_ok : ToldOK Try.prog 0 (loopAt (bodyOf fn_slices_IndexFunc_int) [0]) (LSh.told slices_IndexFunc_int__i_IsTermList_1_L2_sh 0 (slices_IndexFunc_int__i_IsTermList_1_L2_step)) :=
  loop_ok (E := slices_IndexFunc_int__i_IsTermList_1_E) (slices_IndexFunc_int__i_IsTermList_1_Eok) (told := slices_IndexFunc_int__i_IsTermList_1_told) (l := slices_IndexFunc_int__i_IsTermList_1_L2_sh) (step := slices_IndexFunc_int__i_IsTermList_1_L2_step) (loopsOK_of (ls := []) (by kernel_rfl) trivial) (by kernel_rfl) (fun v => by kernel_rfl)
theorem slices_IndexFunc_int__i_IsTermList_1_ok : FOK Try.prog n_slices_IndexFunc_int slices_IndexFunc_int__i_IsTermList_1_sh slices_IndexFunc_int__i_IsTermList_1_fo slices_IndexFunc_int__i_IsTermList_1 :=
  fn_ok (E := slices_IndexFunc_int__i_IsTermList_1_E) (slices_IndexFunc_int__i_IsTermList_1_Eok) (told := slices_IndexFunc_int__i_IsTermList_1_told) (fl := []) (c := bodyOf fn_slices_IndexFunc_int) (s := slices_IndexFunc_int__i_IsTermList_1_sh) (l := slices_IndexFunc_int__i_IsTermList_1_fo) (tree := slices_IndexFunc_int__i_IsTermList_1_t) fnat_slices_IndexFunc_int (by kernel_rfl) (by kernel_rfl) (by kernel_rfl) (loopsOK_of (ls := [loopAt (bodyOf fn_slices_IndexFunc_int) [0]]) (by kernel_rfl) ⟨.inr ⟨_, by kernel_rfl, slices_IndexFunc_int__i_IsTermList_1_L2_ok⟩, trivial⟩) (fun v => by kernel_rfl)

theorem slices_IndexFunc_int__i_IsTermList_1_eq (l : List Int) (hl : l.length < 4611686018427387904) : slices_IndexFunc_int__i_IsTermList_1 (l, ()) = some (idxI (fun k => !inB (-30) 30 k) l) := by
  have h := loop_find (step := fun v => (slices_IndexFunc_int__i_IsTermList_1_L2_step v).run) (xs := l) (fun k => !inB (-30) 30 k) (fun k => (l, (), (l.length : Int), (k : Int))) (fun k => .inl (k : Int)) (.inr ())
    (fun k x hx => by
      have hk := getElem?_lt hx
      simp only [slices_IndexFunc_int__i_IsTermList_1_L2_step, T.run, i_IsTermList_1_eq, Option.bind_some, Int.toNat_natCast, hx]
      rw [w64_id (by omega) (by omega)]
      cases inB (-30) 30 x <;> simp [hk])
    (by simp [slices_IndexFunc_int__i_IsTermList_1_L2_step, T.run])
  simp only [slices_IndexFunc_int__i_IsTermList_1, slices_IndexFunc_int__i_IsTermList_1_t, T.run, slices_IndexFunc_int__i_IsTermList_1_L2]
  simp only [Int.natCast_zero] at h
  rw [h, idxI]
  cases l.findIdx? (fun k => !inB (-30) 30 k) <;> simp


def slices_ContainsFunc_int__i_IsTermList_1_sh : FSh := ⟨[(.one (.sl (.int .i64) false false)), (.one (.fn n_i_IsTermList_1))], []⟩

def slices_ContainsFunc_int__i_IsTermList_1_fo : List FO := [⟨[(.one .sb)], []⟩]
noncomputable def slices_ContainsFunc_int__i_IsTermList_1_t : (List (Int) × Unit) → T Bool := fun (s, ()) =>
  (.sub (slices_IndexFunc_int__i_IsTermList_1 (s, ())) fun z0 =>
  (.ret (decide (z0 ≥ 0))))
noncomputable def slices_ContainsFunc_int__i_IsTermList_1 (v : (List (Int) × Unit)) : Option Bool := (slices_ContainsFunc_int__i_IsTermList_1_t v).run
noncomputable def slices_ContainsFunc_int__i_IsTermList_1_E : TEnv := (E0.add1 n_slices_IndexFunc_int slices_IndexFunc_int__i_IsTermList_1_sh slices_IndexFunc_int__i_IsTermList_1_fo slices_IndexFunc_int__i_IsTermList_1)
theorem slices_ContainsFunc_int__i_IsTermList_1_Eok : (slices_ContainsFunc_int__i_IsTermList_1_E).OK := (E0ok.add1 slices_IndexFunc_int__i_IsTermList_1_ok)
noncomputable def slices_ContainsFunc_int__i_IsTermList_1_told : Nat → Option SealT := fun id => none
theorem slices_ContainsFunc_int__i_IsTermList_1_ok : FOK Try.prog n_slices_ContainsFunc_int slices_ContainsFunc_int__i_IsTermList_1_sh slices_ContainsFunc_int__i_IsTermList_1_fo slices_ContainsFunc_int__i_IsTermList_1 :=
  fn_ok (E := slices_ContainsFunc_int__i_IsTermList_1_E) (slices_ContainsFunc_int__i_IsTermList_1_Eok) (told := slices_ContainsFunc_int__i_IsTermList_1_told) (fl := []) (c := bodyOf fn_slices_ContainsFunc_int) (s := slices_ContainsFunc_int__i_IsTermList_1_sh) (l := slices_ContainsFunc_int__i_IsTermList_1_fo) (tree := slices_ContainsFunc_int__i_IsTermList_1_t) fnat_slices_ContainsFunc_int (by kernel_rfl) (by kernel_rfl) (by kernel_rfl) (loopsOK_of (ls := []) (by kernel_rfl) trivial) (fun v => by kernel_rfl)

theorem slices_ContainsFunc_int__i_IsTermList_1_eq (l : List Int) (hl : l.length < 4611686018427387904) : slices_ContainsFunc_int__i_IsTermList_1 (l, ()) = some (l.any (fun k => !inB (-30) 30 k)) := by
  simp only [slices_ContainsFunc_int__i_IsTermList_1, slices_ContainsFunc_int__i_IsTermList_1_t, T.run, slices_IndexFunc_int__i_IsTermList_1_eq _ hl, Option.bind_some, idxI_ge]


def i_IsTermList_sh : FSh := ⟨[(.one (.sl (.int .i64) false false))], []⟩

def i_IsTermList_fo : List FO := [⟨[(.one .sb)], []⟩]
noncomputable def i_IsTermList_t : List (Int) → T Bool := fun list =>
  (.test (decide (((List.length list) : Int) ≤ 10))
  (.sub (slices_ContainsFunc_int__i_IsTermList_1 (list, ())) fun z0 =>
   (.ret (! z0)))
  (.ret false))
noncomputable def i_IsTermList (v : List (Int)) : Option Bool := (i_IsTermList_t v).run
noncomputable def i_IsTermList_E : TEnv := (E0.add1 n_slices_ContainsFunc_int slices_ContainsFunc_int__i_IsTermList_1_sh slices_ContainsFunc_int__i_IsTermList_1_fo slices_ContainsFunc_int__i_IsTermList_1)
theorem i_IsTermList_Eok : (i_IsTermList_E).OK := (E0ok.add1 slices_ContainsFunc_int__i_IsTermList_1_ok)
noncomputable def i_IsTermList_told : Nat → Option SealT := fun id => none
theorem i_IsTermList_ok : FOK Try.prog n_i_IsTermList i_IsTermList_sh i_IsTermList_fo i_IsTermList :=
  fn_ok (E := i_IsTermList_E) (i_IsTermList_Eok) (told := i_IsTermList_told) (fl := []) (c := bodyOf fn_i_IsTermList) (s := i_IsTermList_sh) (l := i_IsTermList_fo) (tree := i_IsTermList_t) fnat_i_IsTermList (by kernel_rfl) (by kernel_rfl) (by kernel_rfl) (loopsOK_of (ls := []) (by kernel_rfl) trivial) (fun v => by kernel_rfl)

theorem i_IsTermList_eq (l : List Int) (hl : l.length < 4611686018427387904) : i_IsTermList l = some (isTerms l) := by
  simp only [i_IsTermList, i_IsTermList_t, T.run, slices_ContainsFunc_int__i_IsTermList_1_eq _ hl, Option.bind_some, isTerms, decide_eq_true_eq, all_any]
  by_cases h : l.length ≤ 10
  · rw [if_pos (by omega)]; simp [h]
  · rw [if_neg (by omega)]; simp [h]


def i_one_sh : FSh := ⟨[], []⟩

def i_one_fo : List FO := [⟨[(.ag [(.si .i64), (.si .i64), (.si .i64), (.si .i64)])], []⟩]
noncomputable def i_one_t : Unit → T (Int × Int × Int × Int) := fun () =>
  (.ret ((1 : Int), ((0 : Int), ((0 : Int), (1 : Int)))))
noncomputable def i_one (v : Unit) : Option (Int × Int × Int × Int) := (i_one_t v).run
noncomputable def i_one_E : TEnv := E0
theorem i_one_Eok : (i_one_E).OK := E0ok
noncomputable def i_one_told : Nat → Option SealT := fun id => none
theorem i_one_ok : FOK Try.prog n_i_one i_one_sh i_one_fo i_one :=
  fn_ok (E := i_one_E) (i_one_Eok) (told := i_one_told) (fl := []) (c := bodyOf fn_i_one) (s := i_one_sh) (l := i_one_fo) (tree := i_one_t) fnat_i_one (by kernel_rfl) (by kernel_rfl) (by kernel_rfl) (loopsOK_of (ls := []) (by kernel_rfl) trivial) (fun v => by kernel_rfl)

theorem i_one_eq : i_one () = some one4 := rfl


def i_times_sh : FSh := ⟨[(.ag [(.si .i64), (.si .i64), (.si .i64), (.si .i64)]), (.ag [(.si .i64), (.si .i64), (.si .i64), (.si .i64)])], []⟩

def i_times_fo : List FO := [⟨[(.ag [(.si .i64), (.si .i64), (.si .i64), (.si .i64)])], []⟩]
noncomputable def i_times_t : ((Int × Int × Int × Int) × (Int × Int × Int × Int)) → T (Int × Int × Int × Int) := fun ((m_0, m_1, m_2, m_3), (k_0, k_1, k_2, k_3)) =>
  (.ret ((w64 ((w64 (m_0 * k_0)) + (w64 (m_1 * k_2)))), ((w64 ((w64 (m_0 * k_1)) + (w64 (m_1 * k_3)))), ((w64 ((w64 (m_2 * k_0)) + (w64 (m_3 * k_2)))), (w64 ((w64 (m_2 * k_1)) + (w64 (m_3 * k_3))))))))
noncomputable def i_times (v : ((Int × Int × Int × Int) × (Int × Int × Int × Int))) : Option (Int × Int × Int × Int) := (i_times_t v).run
noncomputable def i_times_E : TEnv := E0
theorem i_times_Eok : (i_times_E).OK := E0ok
noncomputable def i_times_told : Nat → Option SealT := fun id => none
theorem i_times_ok : FOK Try.prog n_i_times i_times_sh i_times_fo i_times :=
  fn_ok (E := i_times_E) (i_times_Eok) (told := i_times_told) (fl := []) (c := bodyOf fn_i_times) (s := i_times_sh) (l := i_times_fo) (tree := i_times_t) fnat_i_times (by kernel_rfl) (by kernel_rfl) (by kernel_rfl) (loopsOK_of (ls := []) (by kernel_rfl) trivial) (fun v => by kernel_rfl)

theorem i_times_eq (m k : M4) {A B : Int} (h : in4 A m) (h2 : in4 B k) (hAB : 2 * (A * B) ≤ 9223372036854775807) : i_times (m, k) = some (mul4 m k) := by
  obtain ⟨m0, m1, m2, m3⟩ := m
  obtain ⟨k0, k1, k2, k3⟩ := k
  simp only [in4] at h h2
  have a1 := mul_le (a := m0) (b := k0) (A := A) (B := B) (by omega) (by omega) (by omega) (by omega)
  have a2 := mul_le (a := m1) (b := k2) (A := A) (B := B) (by omega) (by omega) (by omega) (by omega)
  have a3 := mul_le (a := m0) (b := k1) (A := A) (B := B) (by omega) (by omega) (by omega) (by omega)
  have a4 := mul_le (a := m1) (b := k3) (A := A) (B := B) (by omega) (by omega) (by omega) (by omega)
  have a5 := mul_le (a := m2) (b := k0) (A := A) (B := B) (by omega) (by omega) (by omega) (by omega)
  have a6 := mul_le (a := m3) (b := k2) (A := A) (B := B) (by omega) (by omega) (by omega) (by omega)
  have a7 := mul_le (a := m2) (b := k1) (A := A) (B := B) (by omega) (by omega) (by omega) (by omega)
  have a8 := mul_le (a := m3) (b := k3) (A := A) (B := B) (by omega) (by omega) (by omega) (by omega)
  simp only [i_times, i_times_t, T.run]
  rw [w64_id (z := m0 * k0) (by omega) (by omega), w64_id (z := m1 * k2) (by omega) (by omega), w64_id (z := m0 * k1) (by omega) (by omega), w64_id (z := m1 * k3) (by omega) (by omega),
    w64_id (z := m2 * k0) (by omega) (by omega), w64_id (z := m3 * k2) (by omega) (by omega), w64_id (z := m2 * k1) (by omega) (by omega), w64_id (z := m3 * k3) (by omega) (by omega),
    w64_id (by omega) (by omega), w64_id (by omega) (by omega), w64_id (by omega) (by omega), w64_id (by omega) (by omega)]
  rfl


def i_matrixOfList_sh : FSh := ⟨[(.one (.sl (.int .i64) false false))], []⟩

def i_matrixOfList_L3_sh : LSh := ⟨(fun ex => match ex with | .norm => [(2, none), (3, none), (7, none), (8, none), (9, none)] | .exit i => if i = 0 then [(2, none), (3, none)] else [] | .ret => [(2, none)]), [(2, (.one (.pf 0 0 0))), (3, (.one (.pf 1 0 0))), (7, (.one (.sl (.int .i64) false false))), (8, (.one (.si .i64))), (9, (.one (.si .i64)))], [(.rcd 0 [(.si .i64), (.si .i64), (.si .i64), (.si .i64)]), (.rcd 0 [(.si .i64), (.si .i64), (.si .i64), (.si .i64)])], [⟨(.exit 0), [(2, (.one (.pf 0 0 0))), (3, (.one (.pf 1 0 0)))], [(.rcd 0 [(.si .i64), (.si .i64), (.si .i64), (.si .i64)]), (.rcd 0 [(.si .i64), (.si .i64), (.si .i64), (.si .i64)])]⟩]⟩
noncomputable def i_matrixOfList_L3_step : ((Unit × Unit × List (Int) × Int × Int) × ((Int × Int × Int × Int) × (Int × Int × Int × Int))) → T (((Unit × Unit × List (Int) × Int × Int) × ((Int × Int × Int × Int) × (Int × Int × Int × Int))) ⊕ ((Unit × Unit) × ((Int × Int × Int × Int) × (Int × Int × Int × Int)))) := fun (((), (), t7, t8, t9), ((t2_0, t2_1, t2_2, t2_3), (out_0, out_1, out_2, out_3))) =>
  (.test (decide (t9 < t8))
  (.test (decide ((0 ≤ t9) ∧ (t9 < ((List.length t7) : Int))))
   (.sub (t7[(Int.toNat t9)]?) fun z0 =>
    (.sub (i_times ((out_0, (out_1, (out_2, out_3))), (z0, ((-1), ((1 : Int), (0 : Int)))))) fun z1 =>
    (.ret (Sum.inl (((), ((), (t7, (t8, (w64 (t9 + 1)))))), ((t2_0, (t2_1, (t2_2, t2_3))), (z1.1, (z1.2.1, (z1.2.2.1, z1.2.2.2)))))))))
   .fail)
  (.ret (Sum.inr (((), ()), ((t2_0, (t2_1, (t2_2, t2_3))), (out_0, (out_1, (out_2, out_3))))))))
noncomputable def i_matrixOfList_L3 (v : ((Unit × Unit × List (Int) × Int × Int) × ((Int × Int × Int × Int) × (Int × Int × Int × Int)))) : Option ((Unit × Unit) × ((Int × Int × Int × Int) × (Int × Int × Int × Int))) := loopO (fun v => (i_matrixOfList_L3_step v).run) v

def i_matrixOfList_fo : List FO := [⟨[(.ag [(.si .i64), (.si .i64), (.si .i64), (.si .i64)])], []⟩]
noncomputable def i_matrixOfList_t : List (Int) → T (Int × Int × Int × Int) := fun list =>
  (.sub (i_one ()) fun z0 =>
  (.sub (i_matrixOfList_L3 (((), ((), (list, (((List.length list) : Int), (0 : Int))))), (((0 : Int), ((0 : Int), ((0 : Int), (0 : Int)))), (z0.1, (z0.2.1, (z0.2.2.1, z0.2.2.2)))))) fun z1 =>
  (.ret (z1.2.2.1, (z1.2.2.2.1, (z1.2.2.2.2.1, z1.2.2.2.2.2))))))
noncomputable def i_matrixOfList (v : List (Int)) : Option (Int × Int × Int × Int) := (i_matrixOfList_t v).run
noncomputable def i_matrixOfList_E : TEnv := ((E0.add1 n_i_one i_one_sh i_one_fo i_one).add1 n_i_times i_times_sh i_times_fo i_times)
theorem i_matrixOfList_Eok : (i_matrixOfList_E).OK := ((E0ok.add1 i_one_ok).add1 i_times_ok)
noncomputable def i_matrixOfList_told : Nat → Option SealT := fun id => if id = 3 then some (LSh.told i_matrixOfList_L3_sh 0 (i_matrixOfList_L3_step)) else none
theorem i_matrixOfList_L3_ok : ToldOK Try.prog 0 (loopAt (bodyOf fn_i_matrixOfList) [0]) (LSh.told i_matrixOfList_L3_sh 0 (i_matrixOfList_L3_step)) :=
  loop_ok (E := i_matrixOfList_E) (i_matrixOfList_Eok) (told := i_matrixOfList_told) (l := i_matrixOfList_L3_sh) (step := i_matrixOfList_L3_step) (loopsOK_of (ls := []) (by kernel_rfl) trivial) (by kernel_rfl) (fun v => by kernel_rfl)
theorem i_matrixOfList_ok : FOK Try.prog n_i_matrixOfList i_matrixOfList_sh i_matrixOfList_fo i_matrixOfList :=
  fn_ok (E := i_matrixOfList_E) (i_matrixOfList_Eok) (told := i_matrixOfList_told) (fl := []) (c := bodyOf fn_i_matrixOfList) (s := i_matrixOfList_sh) (l := i_matrixOfList_fo) (tree := i_matrixOfList_t) fnat_i_matrixOfList (by kernel_rfl) (by kernel_rfl) (by kernel_rfl) (loopsOK_of (ls := [loopAt (bodyOf fn_i_matrixOfList) [0]]) (by kernel_rfl) ⟨.inr ⟨_, by kernel_rfl, i_matrixOfList_L3_ok⟩, trivial⟩) (fun v => by kernel_rfl)

theorem i_matrixOfList_eq (l : List Int) (h : isTerms l = true) : i_matrixOfList l = some (mOf l) := by
  obtain ⟨hl, ht⟩ := isTerms_iff.1 h
  have h := loop_fold (step := fun v => (i_matrixOfList_L3_step v).run) (xs := l) (fun k (m : M4) => m = mOf (l.take k)) (fun k (m : M4) => (((), (), l, (l.length : Int), (k : Int)), ((0, 0, 0, 0), m))) (fun m a => mul4 m (a, -1, 1, 0)) (fun m => (((), ()), ((0, 0, 0, 0), m)))
    (fun k m x hP hx => by
      have hk := getElem?_lt hx
      subst hP
      have hx2 := ht x (List.mem_of_getElem? hx)
      have hb := mOf_B (l.take k) (fun y hy => ht y (List.mem_of_mem_take hy))
      have hp := pw_le (k := (l.take k).length) (by simp; omega)
      have hp2 := pw_pos (l.take k).length
      have hm := i_times_eq (mOf (l.take k)) (x, -1, 1, 0) (A := pw (l.take k).length) (B := 30) hb (by simp only [in4]; omega) (by omega)
      constructor
      · simp only [i_matrixOfList_L3_step, T.run, Option.bind_some, Int.toNat_natCast, hx]
        have e : ((mOf (l.take k)).1, (mOf (l.take k)).2.1, (mOf (l.take k)).2.2.1, (mOf (l.take k)).2.2.2) = mOf (l.take k) := rfl
        rw [w64_id (by omega) (by omega), e, hm]
        simp [hk]
      · rw [← mOf_snoc]
        rw [List.take_succ_eq_append_getElem hk, (List.getElem?_eq_some_iff.1 hx).2])
    (fun m hP => by simp [i_matrixOfList_L3_step, T.run]) one4 (by simp [mOf])
  simp only [i_matrixOfList, i_matrixOfList_t, T.run, i_matrixOfList_L3, i_one_eq, Option.bind_some, one4]
  simp only [Int.natCast_zero, one4] at h
  rw [h.1, Option.bind_some]
  have h2 := h.2
  rw [List.take_length] at h2
  simp only [h2]


def i_isEntry_sh : FSh := ⟨[(.one (.si .i64))], []⟩

def i_isEntry_fo : List FO := [⟨[(.one .sb)], []⟩]
noncomputable def i_isEntry_t : Int → T Bool := fun n =>
  (.sub (i_within (n, ((-1000000000), (1000000000 : Int)))) fun z0 =>
  (.ret z0))
noncomputable def i_isEntry (v : Int) : Option Bool := (i_isEntry_t v).run
noncomputable def i_isEntry_E : TEnv := (E0.add1 n_i_within i_within_sh i_within_fo i_within)
theorem i_isEntry_Eok : (i_isEntry_E).OK := (E0ok.add1 i_within_ok)
noncomputable def i_isEntry_told : Nat → Option SealT := fun id => none
theorem i_isEntry_ok : FOK Try.prog n_i_isEntry i_isEntry_sh i_isEntry_fo i_isEntry :=
  fn_ok (E := i_isEntry_E) (i_isEntry_Eok) (told := i_isEntry_told) (fl := []) (c := bodyOf fn_i_isEntry) (s := i_isEntry_sh) (l := i_isEntry_fo) (tree := i_isEntry_t) fnat_i_isEntry (by kernel_rfl) (by kernel_rfl) (by kernel_rfl) (loopsOK_of (ls := []) (by kernel_rfl) trivial) (fun v => by kernel_rfl)

theorem i_isEntry_eq (n : Int) : i_isEntry n = some (inB (-1000000000) 1000000000 n) := by
  simp only [i_isEntry, i_isEntry_t, T.run, i_within_eq, Option.bind_some]


def i_IsMatrix_sh : FSh := ⟨[(.ag [(.si .i64), (.si .i64), (.si .i64), (.si .i64)])], []⟩

def i_IsMatrix_fo : List FO := [⟨[(.one .sb)], []⟩]
noncomputable def i_IsMatrix_t : (Int × Int × Int × Int) → T Bool := fun (m_0, m_1, m_2, m_3) =>
  (.sub (i_isEntry m_0) fun z0 =>
  (.test z0
  (.sub (i_isEntry m_1) fun z1 =>
   (.test z1
   (.sub (i_isEntry m_2) fun z2 =>
    (.test z2
    (.sub (i_isEntry m_3) fun z3 =>
     (.test z3
     (.ret ((w64 ((w64 (m_0 * m_3)) - (w64 (m_1 * m_2)))) == 1))
     (.ret false)))
    (.ret false)))
   (.ret false)))
  (.ret false)))
noncomputable def i_IsMatrix (v : (Int × Int × Int × Int)) : Option Bool := (i_IsMatrix_t v).run
noncomputable def i_IsMatrix_E : TEnv := (E0.add1 n_i_isEntry i_isEntry_sh i_isEntry_fo i_isEntry)
theorem i_IsMatrix_Eok : (i_IsMatrix_E).OK := (E0ok.add1 i_isEntry_ok)
noncomputable def i_IsMatrix_told : Nat → Option SealT := fun id => none
theorem i_IsMatrix_ok : FOK Try.prog n_i_IsMatrix i_IsMatrix_sh i_IsMatrix_fo i_IsMatrix :=
  fn_ok (E := i_IsMatrix_E) (i_IsMatrix_Eok) (told := i_IsMatrix_told) (fl := []) (c := bodyOf fn_i_IsMatrix) (s := i_IsMatrix_sh) (l := i_IsMatrix_fo) (tree := i_IsMatrix_t) fnat_i_IsMatrix (by kernel_rfl) (by kernel_rfl) (by kernel_rfl) (loopsOK_of (ls := []) (by kernel_rfl) trivial) (fun v => by kernel_rfl)

theorem i_IsMatrix_eq (m : M4) : i_IsMatrix m = some (good4 m) := by
  obtain ⟨a, b, c, d⟩ := m
  simp only [i_IsMatrix, i_IsMatrix_t, T.run, i_isEntry_eq, Option.bind_some, good4]
  cases ha : inB (-1000000000) 1000000000 a <;> cases hb : inB (-1000000000) 1000000000 b <;> cases hc : inB (-1000000000) 1000000000 c <;> cases hd : inB (-1000000000) 1000000000 d <;> simp
  rw [inB_iff] at ha hb hc hd
  rw [det_w ha hb hc hd, beq_int]


def i_checked_sh : FSh := ⟨[(.ag [(.si .i64), (.si .i64), (.si .i64), (.si .i64)])], []⟩

def i_checked_fo : List FO := [⟨[(.ag [(.si .i64), (.si .i64), (.si .i64), (.si .i64)]), (.one .sb)], []⟩]
noncomputable def i_checked_t : (Int × Int × Int × Int) → T ((Int × Int × Int × Int) × Bool) := fun (m_0, m_1, m_2, m_3) =>
  (.sub (i_IsMatrix (m_0, (m_1, (m_2, m_3)))) fun z0 =>
  (.test (! z0)
  (.ret (((0 : Int), ((0 : Int), ((0 : Int), (0 : Int)))), false))
  (.ret ((m_0, (m_1, (m_2, m_3))), true))))
noncomputable def i_checked (v : (Int × Int × Int × Int)) : Option ((Int × Int × Int × Int) × Bool) := (i_checked_t v).run
noncomputable def i_checked_E : TEnv := (E0.add1 n_i_IsMatrix i_IsMatrix_sh i_IsMatrix_fo i_IsMatrix)
theorem i_checked_Eok : (i_checked_E).OK := (E0ok.add1 i_IsMatrix_ok)
noncomputable def i_checked_told : Nat → Option SealT := fun id => none
theorem i_checked_ok : FOK Try.prog n_i_checked i_checked_sh i_checked_fo i_checked :=
  fn_ok (E := i_checked_E) (i_checked_Eok) (told := i_checked_told) (fl := []) (c := bodyOf fn_i_checked) (s := i_checked_sh) (l := i_checked_fo) (tree := i_checked_t) fnat_i_checked (by kernel_rfl) (by kernel_rfl) (by kernel_rfl) (loopsOK_of (ls := []) (by kernel_rfl) trivial) (fun v => by kernel_rfl)

theorem i_checked_eq (m : M4) : i_checked m = some (if good4 m then (m, true) else ((0, 0, 0, 0), false)) := by
  obtain ⟨a, b, c, d⟩ := m
  simp only [i_checked, i_checked_t, T.run, i_IsMatrix_eq, Option.bind_some]
  cases good4 (a, b, c, d) <;> simp


def i_MatrixOfList_sh : FSh := ⟨[(.one (.sl (.int .i64) false false))], []⟩

def i_MatrixOfList_fo : List FO := [⟨[(.ag [(.si .i64), (.si .i64), (.si .i64), (.si .i64)]), (.one .sb)], []⟩]
noncomputable def i_MatrixOfList_t : List (Int) → T ((Int × Int × Int × Int) × Bool) := fun list =>
  (.sub (i_IsTermList list) fun z0 =>
  (.test (! z0)
  (.ret (((0 : Int), ((0 : Int), ((0 : Int), (0 : Int)))), false))
  (.sub (i_matrixOfList list) fun z1 =>
   (.sub (i_checked (z1.1, (z1.2.1, (z1.2.2.1, z1.2.2.2)))) fun z2 =>
   (.ret ((z2.1.1, (z2.1.2.1, (z2.1.2.2.1, z2.1.2.2.2))), z2.2))))))
noncomputable def i_MatrixOfList (v : List (Int)) : Option ((Int × Int × Int × Int) × Bool) := (i_MatrixOfList_t v).run
noncomputable def i_MatrixOfList_E : TEnv := (((E0.add1 n_i_IsTermList i_IsTermList_sh i_IsTermList_fo i_IsTermList).add1 n_i_matrixOfList i_matrixOfList_sh i_matrixOfList_fo i_matrixOfList).add1 n_i_checked i_checked_sh i_checked_fo i_checked)
theorem i_MatrixOfList_Eok : (i_MatrixOfList_E).OK := (((E0ok.add1 i_IsTermList_ok).add1 i_matrixOfList_ok).add1 i_checked_ok)
noncomputable def i_MatrixOfList_told : Nat → Option SealT := fun id => none
theorem i_MatrixOfList_ok : FOK Try.prog n_i_MatrixOfList i_MatrixOfList_sh i_MatrixOfList_fo i_MatrixOfList :=
  fn_ok (E := i_MatrixOfList_E) (i_MatrixOfList_Eok) (told := i_MatrixOfList_told) (fl := []) (c := bodyOf fn_i_MatrixOfList) (s := i_MatrixOfList_sh) (l := i_MatrixOfList_fo) (tree := i_MatrixOfList_t) fnat_i_MatrixOfList (by kernel_rfl) (by kernel_rfl) (by kernel_rfl) (loopsOK_of (ls := []) (by kernel_rfl) trivial) (fun v => by kernel_rfl)

theorem i_MatrixOfList_eq (l : List Int) (hl : l.length < 4611686018427387904) : i_MatrixOfList l = some (if isTerms l && good4 (mOf l) then (mOf l, true) else ((0, 0, 0, 0), false)) := by
  simp only [i_MatrixOfList, i_MatrixOfList_t, T.run, i_IsTermList_eq l hl, Option.bind_some]
  cases h : isTerms l with
  | false => simp
  | true =>
    simp only [Bool.not_true, Bool.false_eq_true, if_false, i_matrixOfList_eq l h, Option.bind_some, i_checked_eq, Bool.true_and]


def l_eqMatrix_sh : FSh := ⟨[(.ag [(.si .i64), (.si .i64), (.si .i64), (.si .i64)]), (.ag [(.si .i64), (.si .i64), (.si .i64), (.si .i64)])], []⟩

def l_eqMatrix_fo : List FO := [⟨[(.one .sb)], []⟩]
noncomputable def l_eqMatrix_t : ((Int × Int × Int × Int) × (Int × Int × Int × Int)) → T Bool := fun ((a_0, a_1, a_2, a_3), (b_0, b_1, b_2, b_3)) =>
  (.test (a_0 != b_0)
  (.ret false)
  (.test (a_1 != b_1)
   (.ret false)
   (.test (a_2 != b_2)
    (.ret false)
    (.test (a_3 != b_3)
     (.ret false)
     (.ret true)))))
noncomputable def l_eqMatrix (v : ((Int × Int × Int × Int) × (Int × Int × Int × Int))) : Option Bool := (l_eqMatrix_t v).run
noncomputable def l_eqMatrix_E : TEnv := E0
theorem l_eqMatrix_Eok : (l_eqMatrix_E).OK := E0ok
noncomputable def l_eqMatrix_told : Nat → Option SealT := fun id => none
theorem l_eqMatrix_ok : FOK Try.prog n_l_eqMatrix l_eqMatrix_sh l_eqMatrix_fo l_eqMatrix :=
  fn_ok (E := l_eqMatrix_E) (l_eqMatrix_Eok) (told := l_eqMatrix_told) (fl := []) (c := bodyOf fn_l_eqMatrix) (s := l_eqMatrix_sh) (l := l_eqMatrix_fo) (tree := l_eqMatrix_t) fnat_l_eqMatrix (by kernel_rfl) (by kernel_rfl) (by kernel_rfl) (loopsOK_of (ls := []) (by kernel_rfl) trivial) (fun v => by kernel_rfl)

theorem l_eqMatrix_eq (a b : M4) : l_eqMatrix (a, b) = some (decide (a = b)) := by
  obtain ⟨a0, a1, a2, a3⟩ := a
  obtain ⟨b0, b1, b2, b3⟩ := b
  simp only [l_eqMatrix, l_eqMatrix_t, T.run]
  by_cases h0 : a0 = b0 <;> by_cases h1 : a1 = b1 <;> by_cases h2 : a2 = b2 <;> by_cases h3 : a3 = b3 <;> simp [h0, h1, h2, h3]


def l_eqIntS_sh : FSh := ⟨[(.one (.sl (.int .i64) false false)), (.one (.sl (.int .i64) false false))], []⟩

def l_eqIntS_L4_sh : LSh := ⟨(fun ex => match ex with | .norm => [(0, none), (1, none), (5, none)] | .exit i => if i = 0 then [] else [] | .ret => [(4, none)]), [(0, (.one (.sl (.int .i64) false false))), (1, (.one (.sl (.int .i64) false false))), (5, (.one (.si .i64)))], [], [⟨.ret, [(4, (.one .sb))], []⟩, ⟨(.exit 0), [], []⟩]⟩
noncomputable def l_eqIntS_L4_step : (List (Int) × List (Int) × Int) → T ((List (Int) × List (Int) × Int) ⊕ (Bool ⊕ Unit)) := fun (a, b, i) =>
  (.test (decide (i < ((List.length a) : Int)))
  (.test (decide ((0 ≤ i) ∧ (i < ((List.length a) : Int))))
   (.sub (a[(Int.toNat i)]?) fun z0 =>
    (.test (decide ((0 ≤ i) ∧ (i < ((List.length b) : Int))))
    (.sub (b[(Int.toNat i)]?) fun z1 =>
     (.test (z0 != z1)
     (.ret (Sum.inr (Sum.inl false)))
     (.ret (Sum.inl (a, (b, (w64 (i + 1))))))))
    .fail))
   .fail)
  (.ret (Sum.inr (Sum.inr ()))))
noncomputable def l_eqIntS_L4 (v : (List (Int) × List (Int) × Int)) : Option (Bool ⊕ Unit) := loopO (fun v => (l_eqIntS_L4_step v).run) v

def l_eqIntS_fo : List FO := [⟨[(.one .sb)], []⟩]
noncomputable def l_eqIntS_t : (List (Int) × List (Int)) → T Bool := fun (a, b) =>
  (.test (((List.length a) : Int) != ((List.length b) : Int))
  (.ret false)
  (.sub (l_eqIntS_L4 (a, (b, (0 : Int)))) fun z0 =>
   (.test (Sum.isLeft z0)
   (.sub (Sum.getLeft? z0) fun z1 =>
    (.ret z1))
   (.sub (Sum.getRight? z0) fun z2 =>
    (.ret true)))))
noncomputable def l_eqIntS (v : (List (Int) × List (Int))) : Option Bool := (l_eqIntS_t v).run
noncomputable def l_eqIntS_E : TEnv := E0
theorem l_eqIntS_Eok : (l_eqIntS_E).OK := E0ok
noncomputable def l_eqIntS_told : Nat → Option SealT := fun id => if id = 4 then some (LSh.told l_eqIntS_L4_sh 0 (l_eqIntS_L4_step)) else none
theorem l_eqIntS_L4_ok : ToldOK Try.prog 0 (loopAt (bodyOf fn_l_eqIntS) [0]) (LSh.told l_eqIntS_L4_sh 0 (l_eqIntS_L4_step)) :=
  loop_ok (E := l_eqIntS_E) (l_eqIntS_Eok) (told := l_eqIntS_told) (l := l_eqIntS_L4_sh) (step := l_eqIntS_L4_step) (loopsOK_of (ls := []) (by kernel_rfl) trivial) (by kernel_rfl) (fun v => by kernel_rfl)
theorem l_eqIntS_ok : FOK Try.prog n_l_eqIntS l_eqIntS_sh l_eqIntS_fo l_eqIntS :=
  fn_ok (E := l_eqIntS_E) (l_eqIntS_Eok) (told := l_eqIntS_told) (fl := []) (c := bodyOf fn_l_eqIntS) (s := l_eqIntS_sh) (l := l_eqIntS_fo) (tree := l_eqIntS_t) fnat_l_eqIntS (by kernel_rfl) (by kernel_rfl) (by kernel_rfl) (loopsOK_of (ls := [loopAt (bodyOf fn_l_eqIntS) [0]]) (by kernel_rfl) ⟨.inr ⟨_, by kernel_rfl, l_eqIntS_L4_ok⟩, trivial⟩) (fun v => by kernel_rfl)

theorem l_eqIntS_eq (a b : List Int) (hl : a.length < 4611686018427387904) : l_eqIntS (a, b) = some (decide (a = b)) := by
  by_cases hab : a.length = b.length
  · have h := loop_any (step := fun v => (l_eqIntS_L4_step v).run) (xs := a.zip b) (fun p => p.1 != p.2) (fun k => (a, b, (k : Int))) (.inl false) (.inr ())
      (fun k x hx => by
        have hk := getElem?_lt hx
        rw [List.length_zip, hab, Nat.min_self] at hk
        rw [List.getElem?_zip_eq_some] at hx
        simp only [l_eqIntS_L4_step, T.run, Option.bind_some, Int.toNat_natCast, hx.1, hx.2]
        rw [w64_id (by omega) (by omega)]
        have hka : k < a.length := by omega
        cases x.1 != x.2 <;> simp [hk, hka])
      (by simp [l_eqIntS_L4_step, T.run, hab])
    simp only [l_eqIntS, l_eqIntS_t, T.run, l_eqIntS_L4]
    simp only [Int.natCast_zero] at h
    rw [h, hab]
    have e : (a.zip b).any (fun p => p.1 != p.2) = !decide (a = b) := zip_any_ne a b hab
    rw [e]
    cases decide (a = b) <;> simp
  · simp only [l_eqIntS, l_eqIntS_t, T.run]
    have : a ≠ b := fun e => hab (by rw [e])
    simp [this]
    omega


def l_FnExactMatrixOfList_sh : FSh := ⟨[(.one (.sl (.int .i64) false false))], []⟩

def l_FnExactMatrixOfList_fo : List FO := [⟨[(.one .sb)], []⟩]
noncomputable def l_FnExactMatrixOfList_t : List (Int) → T Bool := fun aList =>
  (.test (decide (((List.length aList) : Int) > 1048576))
  (.ret true)
  (.sub (l_toIntS aList) fun z0 =>
   (.test (decide ((0 + (List.length z0.2)) ≤ (List.length z0.2)))
   (.sub (s_MatrixOfList (win z0.2 0 (List.length z0.2))) fun z1 =>
    (.sub (l_toIntS aList) fun z2 =>
    (.test (decide ((0 + (List.length z2.2)) ≤ (List.length z2.2)))
    (.sub (i_MatrixOfList (win z2.2 0 (List.length z2.2))) fun z3 =>
     (.sub (l_eqMatrix ((z3.1.1, (z3.1.2.1, (z3.1.2.2.1, z3.1.2.2.2))), (z1.1.1, (z1.1.2.1, (z1.1.2.2.1, z1.1.2.2.2))))) fun z4 =>
     (.test (! z4)
     (.ret false)
     (.test (! (z3.2 == z1.2))
      (.ret false)
      (.sub (l_toIntS aList) fun z5 =>
       (.test (decide ((0 + (List.length z2.2)) ≤ (List.length z2.2)))
       (.test (decide ((0 + (List.length z5.2)) ≤ (List.length z5.2)))
        (.sub (l_eqIntS ((win z2.2 0 (List.length z2.2)), (win z5.2 0 (List.length z5.2)))) fun z6 =>
         (.test (! z6)
         (.ret false)
         (.ret true)))
        .fail)
       .fail))))))
    .fail)))
   .fail)))
noncomputable def l_FnExactMatrixOfList (v : List (Int)) : Option Bool := (l_FnExactMatrixOfList_t v).run
noncomputable def l_FnExactMatrixOfList_E : TEnv := (((((E0.add1 n_l_toIntS l_toIntS_sh l_toIntS_fo l_toIntS).add1 n_s_MatrixOfList s_MatrixOfList_sh s_MatrixOfList_fo s_MatrixOfList).add1 n_i_MatrixOfList i_MatrixOfList_sh i_MatrixOfList_fo i_MatrixOfList).add1 n_l_eqMatrix l_eqMatrix_sh l_eqMatrix_fo l_eqMatrix).add1 n_l_eqIntS l_eqIntS_sh l_eqIntS_fo l_eqIntS)
theorem l_FnExactMatrixOfList_Eok : (l_FnExactMatrixOfList_E).OK := (((((E0ok.add1 l_toIntS_ok).add1 s_MatrixOfList_ok).add1 i_MatrixOfList_ok).add1 l_eqMatrix_ok).add1 l_eqIntS_ok)
noncomputable def l_FnExactMatrixOfList_told : Nat → Option SealT := fun id => none
theorem l_FnExactMatrixOfList_ok : FOK Try.prog n_l_FnExactMatrixOfList l_FnExactMatrixOfList_sh l_FnExactMatrixOfList_fo l_FnExactMatrixOfList :=
  fn_ok (E := l_FnExactMatrixOfList_E) (l_FnExactMatrixOfList_Eok) (told := l_FnExactMatrixOfList_told) (fl := []) (c := bodyOf fn_l_FnExactMatrixOfList) (s := l_FnExactMatrixOfList_sh) (l := l_FnExactMatrixOfList_fo) (tree := l_FnExactMatrixOfList_t) fnat_l_FnExactMatrixOfList (by kernel_rfl) (by kernel_rfl) (by kernel_rfl) (loopsOK_of (ls := []) (by kernel_rfl) trivial) (fun v => by kernel_rfl)

theorem l_FnExactMatrixOfList_true (l : List Int) (hs : smallL ASh.small [.one (.sl (.int .i64) false false)] l) : l_FnExactMatrixOfList l = some true := by
  have hl : l.length < 4611686018427387904 := by have := hs.1; omega
  simp only [l_FnExactMatrixOfList, l_FnExactMatrixOfList_t, T.run, Option.bind_some, decide_eq_true_eq]
  split
  · rfl
  · have h : l.length < 10000000000000 := by omega
    simp [l_toIntS_eq l h, win_all, s_MatrixOfList_eq l hl, i_MatrixOfList_eq l hl, l_eqIntS_eq l l hl, l_eqMatrix_eq]


def s_ctPair_sh : FSh := ⟨[(.one (.si .i64)), (.one (.si .i64))], []⟩

def s_ctPair_L3_sh : LSh := ⟨(fun ex => match ex with | .norm => [(0, none), (1, none)] | .exit i => if i = 0 then [(0, none)] else [] | .ret => [(4, none)]), [(0, (.one (.si .i64))), (1, (.one (.si .i64)))], [], [⟨(.exit 0), [(0, (.one (.si .i64)))], []⟩]⟩
noncomputable def s_ctPair_L3_step : (Int × Int) → T ((Int × Int) ⊕ Int) := fun (num, den) =>
  (.test (decide (den > 0))
  (.test (decide (den ≠ 0))
   (.ret (Sum.inl (den, (Int.tmod num den))))
   .fail)
  (.ret (Sum.inr num)))
noncomputable def s_ctPair_L3 (v : (Int × Int)) : Option Int := loopO (fun v => (s_ctPair_L3_step v).run) v

def s_ctPair_fo : List FO := [⟨[(.one .sb)], []⟩]
noncomputable def s_ctPair_t : (Int × Int) → T Bool := fun (num, den) =>
  (.sub (s_l1In (num, ((1 : Int), (1000000 : Int)))) fun z0 =>
  (.test (! z0)
  (.ret false)
  (.sub (s_l1In (den, ((1 : Int), (1000000 : Int)))) fun z1 =>
   (.test (! z1)
   (.ret false)
   (.sub (s_ctPair_L3 (num, den)) fun z2 =>
    (.ret (z2 == 1)))))))
noncomputable def s_ctPair (v : (Int × Int)) : Option Bool := (s_ctPair_t v).run
noncomputable def s_ctPair_E : TEnv := (E0.add1 n_s_l1In s_l1In_sh s_l1In_fo s_l1In)
theorem s_ctPair_Eok : (s_ctPair_E).OK := (E0ok.add1 s_l1In_ok)
noncomputable def s_ctPair_told : Nat → Option SealT := fun id => if id = 3 then some (LSh.told s_ctPair_L3_sh 0 (s_ctPair_L3_step)) else none
theorem s_ctPair_L3_ok : ToldOK Try.prog 0 (loopAt (bodyOf fn_s_ctPair) [0]) (LSh.told s_ctPair_L3_sh 0 (s_ctPair_L3_step)) :=
  loop_ok (E := s_ctPair_E) (s_ctPair_Eok) (told := s_ctPair_told) (l := s_ctPair_L3_sh) (step := s_ctPair_L3_step) (loopsOK_of (ls := []) (by kernel_rfl) trivial) (by kernel_rfl) (fun v => by kernel_rfl)
theorem s_ctPair_ok : FOK Try.prog n_s_ctPair s_ctPair_sh s_ctPair_fo s_ctPair :=
  fn_ok (E := s_ctPair_E) (s_ctPair_Eok) (told := s_ctPair_told) (fl := []) (c := bodyOf fn_s_ctPair) (s := s_ctPair_sh) (l := s_ctPair_fo) (tree := s_ctPair_t) fnat_s_ctPair (by kernel_rfl) (by kernel_rfl) (by kernel_rfl) (loopsOK_of (ls := [loopAt (bodyOf fn_s_ctPair) [0]]) (by kernel_rfl) ⟨.inr ⟨_, by kernel_rfl, s_ctPair_L3_ok⟩, trivial⟩) (fun v => by kernel_rfl)

theorem s_ctPair_eq (num den : Int) : s_ctPair (num, den) = some (lowP num den) := by
  have h := loop_eq (step := fun v => (s_ctPair_L3_step v).run) (fun v => v.2.toNat) (fun v => 0 ≤ v.1 ∧ 0 ≤ v.2) (fun v => ((Nat.gcd v.1.toNat v.2.toNat : Nat) : Int))
    (by
      rintro ⟨a, b⟩ ⟨ha, hb⟩
      simp only at ha hb
      by_cases h0 : b = 0
      · right
        subst h0
        have : ((a.toNat : Nat) : Int) = a := Int.toNat_of_nonneg ha
        simp [s_ctPair_L3_step, T.run, this]
      · left
        have hp : b > 0 := by omega
        obtain ⟨g1, g2, g3⟩ := gcd_toNat_step ha (show 0 < b by omega)
        refine ⟨(b, Int.tmod a b), ?_, ⟨hb, g2⟩, ?_, ?_⟩
        · simp [s_ctPair_L3_step, T.run, h0, hp]
        · simp only; omega
        · simp only [g1])
  simp only [s_ctPair, s_ctPair_t, T.run, s_l1In_eq, Option.bind_some, lowP]
  cases h1 : inB 1 1000000 num with
  | false => simp
  | true =>
    cases h2 : inB 1 1000000 den with
    | false => simp
    | true =>
      rw [inB_iff] at h1 h2
      simp only [s_ctPair_L3] at h ⊢
      rw [h (num, den) ⟨by simp only; omega, by simp only; omega⟩]
      simp only [if_true, Option.bind_some, Bool.true_and, beq_int, Bool.not_true, Bool.false_eq_true, if_false]
      congr 1
      rw [decide_eq_decide]
      omega


def s_PlusTerms_sh : FSh := ⟨[(.one (.si .i64)), (.one (.si .i64))], []⟩

def s_PlusTerms_L4_sh : LSh := ⟨(fun ex => match ex with | .norm => [(0, none), (1, none), (6, none)] | .exit i => if i = 0 then [(6, none)] else [] | .ret => [(4, none), (5, none)]), [(0, (.one (.si .i64))), (1, (.one (.si .i64))), (6, (.one (.rw 0 0)))], [(.row 0 (.int .i64))], [⟨.ret, [(4, (.one (.rw 0 0))), (5, (.one .sb))], [(.row 0 (.int .i64))]⟩, ⟨(.exit 0), [(6, (.one (.rw 0 0)))], [(.row 0 (.int .i64))]⟩]⟩
noncomputable def s_PlusTerms_L4_step : ((Int × Int × Unit) × List (Int)) → T (((Int × Int × Unit) × List (Int)) ⊕ (((Unit × Bool) × List (Int)) ⊕ (Unit × List (Int)))) := fun ((num, den, ()), out) =>
  (.test (decide (den > 0))
  (.test (decide (den ≠ 0))
   (.test (decide (1 ≤ (List.length (List.set (List.replicate 1 (0 : Int)) 0 (w64 (Int.tdiv num den))))))
    (.test (decide ((0 + (List.length out)) ≤ (List.length out)))
     (.test (decide ((2 * (((List.length out) + (List.length (win (List.set (List.replicate 1 (0 : Int)) 0 (w64 (Int.tdiv num den))) 0 1))) * 9)) ≤ 140737488355328))
      (.test (decide ((0 + ((List.length out) + (List.length (win (List.set (List.replicate 1 (0 : Int)) 0 (w64 (Int.tdiv num den))) 0 1)))) ≤ (List.length ((win out 0 (List.length out)) ++ (win (List.set (List.replicate 1 (0 : Int)) 0 (w64 (Int.tdiv num den))) 0 1)))))
       (.sub (s_ctGood (win ((win out 0 (List.length out)) ++ (win (List.set (List.replicate 1 (0 : Int)) 0 (w64 (Int.tdiv num den))) 0 1)) 0 ((List.length out) + (List.length (win (List.set (List.replicate 1 (0 : Int)) 0 (w64 (Int.tdiv num den))) 0 1))))) fun z0 =>
        (.test (! z0)
        (.test true
         (.ret (Sum.inr (Sum.inl (((), false), ([] : List (Int))))))
         .fail)
        (.test (decide (den ≠ 0))
         (.test (decide ((0 = 0) ∧ (((List.length out) + (List.length (win (List.set (List.replicate 1 (0 : Int)) 0 (w64 (Int.tdiv num den))) 0 1))) = (List.length ((win out 0 (List.length out)) ++ (win (List.set (List.replicate 1 (0 : Int)) 0 (w64 (Int.tdiv num den))) 0 1))))))
          (.ret (Sum.inl ((den, ((Int.tmod num den), ())), ((win out 0 (List.length out)) ++ (win (List.set (List.replicate 1 (0 : Int)) 0 (w64 (Int.tdiv num den))) 0 1)))))
          .fail)
         .fail)))
       .fail)
      .fail)
     .fail)
    .fail)
   .fail)
  (.test (decide ((0 = 0) ∧ ((List.length out) = (List.length out))))
   (.ret (Sum.inr (Sum.inr ((), out))))
   .fail))
noncomputable def s_PlusTerms_L4 (v : ((Int × Int × Unit) × List (Int))) : Option (((Unit × Bool) × List (Int)) ⊕ (Unit × List (Int))) := loopO (fun v => (s_PlusTerms_L4_step v).run) v

def s_PlusTerms_fo : List FO := [⟨[(.one (.rw 0 0)), (.one .sb)], [(.row 0 (.int .i64))]⟩]
noncomputable def s_PlusTerms_t : (Int × Int) → T ((Unit × Bool) × List (Int)) := fun (num, den) =>
  (.sub (s_ctPair (num, den)) fun z0 =>
  (.test (! z0)
  (.test true
   (.ret (((), false), ([] : List (Int))))
   .fail)
  (.test (decide (num < den))
   (.test true
    (.ret (((), false), ([] : List (Int))))
    .fail)
   (.test true
    (.sub (s_PlusTerms_L4 ((num, (den, ())), ([] : List (Int)))) fun z1 =>
     (.test (Sum.isLeft z1)
     (.sub (Sum.getLeft? z1) fun z2 =>
      (.test (decide ((0 = 0) ∧ ((List.length z2.2) = (List.length z2.2))))
      (.ret (((), z2.1.2), z2.2))
      .fail))
     (.sub (Sum.getRight? z1) fun z3 =>
      (.test (decide ((0 = 0) ∧ ((List.length z3.2) = (List.length z3.2))))
      (.ret (((), true), z3.2))
      .fail))))
    .fail))))
noncomputable def s_PlusTerms (v : (Int × Int)) : Option ((Unit × Bool) × List (Int)) := (s_PlusTerms_t v).run
noncomputable def s_PlusTerms_E : TEnv := ((E0.add1 n_s_ctPair s_ctPair_sh s_ctPair_fo s_ctPair).add1 n_s_ctGood s_ctGood_sh s_ctGood_fo s_ctGood)
theorem s_PlusTerms_Eok : (s_PlusTerms_E).OK := ((E0ok.add1 s_ctPair_ok).add1 s_ctGood_ok)
noncomputable def s_PlusTerms_told : Nat → Option SealT := fun id => if id = 4 then some (LSh.told s_PlusTerms_L4_sh 0 (s_PlusTerms_L4_step)) else none
theorem s_PlusTerms_L4_ok : ToldOK Try.prog 0 (loopAt (bodyOf fn_s_PlusTerms) [0]) (LSh.told s_PlusTerms_L4_sh 0 (s_PlusTerms_L4_step)) :=
  loop_ok (E := s_PlusTerms_E) (s_PlusTerms_Eok) (told := s_PlusTerms_told) (l := s_PlusTerms_L4_sh) (step := s_PlusTerms_L4_step) (loopsOK_of (ls := []) (by kernel_rfl) trivial) (by kernel_rfl) (fun v => by kernel_rfl)
theorem s_PlusTerms_ok : FOK Try.prog n_s_PlusTerms s_PlusTerms_sh s_PlusTerms_fo s_PlusTerms :=
  fn_ok (E := s_PlusTerms_E) (s_PlusTerms_Eok) (told := s_PlusTerms_told) (fl := []) (c := bodyOf fn_s_PlusTerms) (s := s_PlusTerms_sh) (l := s_PlusTerms_fo) (tree := s_PlusTerms_t) fnat_s_PlusTerms (by kernel_rfl) (by kernel_rfl) (by kernel_rfl) (loopsOK_of (ls := [loopAt (bodyOf fn_s_PlusTerms) [0]]) (by kernel_rfl) ⟨.inr ⟨_, by kernel_rfl, s_PlusTerms_L4_ok⟩, trivial⟩) (fun v => by kernel_rfl)

def i_divisor_sh : FSh := ⟨[(.one (.si .i64)), (.one (.si .i64))], []⟩

def i_divisor_L1_sh : LSh := ⟨(fun ex => match ex with | .norm => [(0, none), (1, none)] | .exit i => if i = 0 then [(0, none)] else [] | .ret => [(4, none)]), [(0, (.one (.si .i64))), (1, (.one (.si .i64)))], [], [⟨(.exit 0), [(0, (.one (.si .i64)))], []⟩]⟩
noncomputable def i_divisor_L1_step : (Int × Int) → T ((Int × Int) ⊕ Int) := fun (a, b) =>
  (.test (b != 0)
  (.test (decide (b ≠ 0))
   (.ret (Sum.inl (b, (Int.tmod a b))))
   .fail)
  (.ret (Sum.inr a)))
noncomputable def i_divisor_L1 (v : (Int × Int)) : Option Int := loopO (fun v => (i_divisor_L1_step v).run) v

def i_divisor_fo : List FO := [⟨[(.one (.si .i64))], []⟩]
noncomputable def i_divisor_t : (Int × Int) → T Int := fun (a, b) =>
  (.sub (i_divisor_L1 (a, b)) fun z0 =>
  (.ret z0))
noncomputable def i_divisor (v : (Int × Int)) : Option Int := (i_divisor_t v).run
noncomputable def i_divisor_E : TEnv := E0
theorem i_divisor_Eok : (i_divisor_E).OK := E0ok
noncomputable def i_divisor_told : Nat → Option SealT := fun id => if id = 1 then some (LSh.told i_divisor_L1_sh 0 (i_divisor_L1_step)) else none
theorem i_divisor_L1_ok : ToldOK Try.prog 0 (loopAt (bodyOf fn_i_divisor) [0]) (LSh.told i_divisor_L1_sh 0 (i_divisor_L1_step)) :=
  loop_ok (E := i_divisor_E) (i_divisor_Eok) (told := i_divisor_told) (l := i_divisor_L1_sh) (step := i_divisor_L1_step) (loopsOK_of (ls := []) (by kernel_rfl) trivial) (by kernel_rfl) (fun v => by kernel_rfl)
theorem i_divisor_ok : FOK Try.prog n_i_divisor i_divisor_sh i_divisor_fo i_divisor :=
  fn_ok (E := i_divisor_E) (i_divisor_Eok) (told := i_divisor_told) (fl := []) (c := bodyOf fn_i_divisor) (s := i_divisor_sh) (l := i_divisor_fo) (tree := i_divisor_t) fnat_i_divisor (by kernel_rfl) (by kernel_rfl) (by kernel_rfl) (loopsOK_of (ls := [loopAt (bodyOf fn_i_divisor) [0]]) (by kernel_rfl) ⟨.inr ⟨_, by kernel_rfl, i_divisor_L1_ok⟩, trivial⟩) (fun v => by kernel_rfl)

theorem i_divisor_eq (a b : Int) (ha : 0 ≤ a) (hb : 0 ≤ b) : i_divisor (a, b) = some ((Nat.gcd a.toNat b.toNat : Nat) : Int) := by
  have h := loop_eq (step := fun v => (i_divisor_L1_step v).run) (fun v => v.2.toNat) (fun v => 0 ≤ v.1 ∧ 0 ≤ v.2) (fun v => ((Nat.gcd v.1.toNat v.2.toNat : Nat) : Int))
    (by
      rintro ⟨a, b⟩ ⟨ha, hb⟩
      simp only at ha hb
      by_cases h0 : b = 0
      · right
        subst h0
        have : ((a.toNat : Nat) : Int) = a := Int.toNat_of_nonneg ha
        simp [i_divisor_L1_step, T.run, this]
      · left
        obtain ⟨g1, g2, g3⟩ := gcd_toNat_step ha (show 0 < b by omega)
        refine ⟨(b, Int.tmod a b), ?_, ⟨hb, g2⟩, ?_, ?_⟩
        · simp [i_divisor_L1_step, T.run, h0]
        · simp only; omega
        · simp only [g1]) (a, b) ⟨ha, hb⟩
  simp only [i_divisor, i_divisor_t, T.run, i_divisor_L1]
  rw [h]; rfl


def i_isLowest_sh : FSh := ⟨[(.one (.si .i64)), (.one (.si .i64))], []⟩

def i_isLowest_fo : List FO := [⟨[(.one .sb)], []⟩]
noncomputable def i_isLowest_t : (Int × Int) → T Bool := fun (num, den) =>
  (.sub (i_within (num, ((1 : Int), (1000000 : Int)))) fun z0 =>
  (.test z0
  (.sub (i_within (den, ((1 : Int), (1000000 : Int)))) fun z1 =>
   (.test z1
   (.sub (i_divisor (num, den)) fun z2 =>
    (.ret (z2 == 1)))
   (.ret false)))
  (.ret false)))
noncomputable def i_isLowest (v : (Int × Int)) : Option Bool := (i_isLowest_t v).run
noncomputable def i_isLowest_E : TEnv := ((E0.add1 n_i_within i_within_sh i_within_fo i_within).add1 n_i_divisor i_divisor_sh i_divisor_fo i_divisor)
theorem i_isLowest_Eok : (i_isLowest_E).OK := ((E0ok.add1 i_within_ok).add1 i_divisor_ok)
noncomputable def i_isLowest_told : Nat → Option SealT := fun id => none
theorem i_isLowest_ok : FOK Try.prog n_i_isLowest i_isLowest_sh i_isLowest_fo i_isLowest :=
  fn_ok (E := i_isLowest_E) (i_isLowest_Eok) (told := i_isLowest_told) (fl := []) (c := bodyOf fn_i_isLowest) (s := i_isLowest_sh) (l := i_isLowest_fo) (tree := i_isLowest_t) fnat_i_isLowest (by kernel_rfl) (by kernel_rfl) (by kernel_rfl) (loopsOK_of (ls := []) (by kernel_rfl) trivial) (fun v => by kernel_rfl)

theorem i_isLowest_eq (num den : Int) : i_isLowest (num, den) = some (lowP num den) := by
  simp only [i_isLowest, i_isLowest_t, T.run, i_within_eq, Option.bind_some, lowP]
  cases h1 : inB 1 1000000 num with
  | false => simp
  | true =>
    cases h2 : inB 1 1000000 den with
    | false => simp
    | true =>
      rw [inB_iff] at h1 h2
      rw [i_divisor_eq _ _ (by omega) (by omega)]
      simp only [if_true, Option.bind_some, Bool.true_and, beq_int]
      congr 1
      rw [decide_eq_decide]
      omega


def i_listed_sh : FSh := ⟨[(.one (.rw 0 0)), (.one .sb)], [(.row 0 (.int .i64))]⟩

def i_listed_fo : List FO := [⟨[(.one (.rw 1 0)), (.one .sb)], [(.row 0 (.int .i64)), (.row 0 (.int .i64))]⟩, ⟨[(.one (.rw 0 0)), (.one .sb)], [(.row 0 (.int .i64))]⟩]
noncomputable def i_listed_t : ((Unit × Bool) × List (Int)) → T (((Unit × Bool) × (List (Int) × List (Int))) ⊕ ((Unit × Bool) × List (Int))) := fun (((), ok), list) =>
  (.test (! ok)
  (.test (decide ((0 = 0) ∧ (0 = (List.length ([] : List (Int))))))
   (.ret (Sum.inl (((), false), (list, ([] : List (Int))))))
   .fail)
  (.test (decide ((0 = 0) ∧ ((List.length list) = (List.length list))))
   (.ret (Sum.inr (((), true), list)))
   .fail))
noncomputable def i_listed (v : ((Unit × Bool) × List (Int))) : Option (((Unit × Bool) × (List (Int) × List (Int))) ⊕ ((Unit × Bool) × List (Int))) := (i_listed_t v).run
noncomputable def i_listed_E : TEnv := E0
theorem i_listed_Eok : (i_listed_E).OK := E0ok
noncomputable def i_listed_told : Nat → Option SealT := fun id => none
theorem i_listed_ok : FOK Try.prog n_i_listed i_listed_sh i_listed_fo i_listed :=
  fn_ok (E := i_listed_E) (i_listed_Eok) (told := i_listed_told) (fl := []) (c := bodyOf fn_i_listed) (s := i_listed_sh) (l := i_listed_fo) (tree := i_listed_t) fnat_i_listed (by kernel_rfl) (by kernel_rfl) (by kernel_rfl) (loopsOK_of (ls := []) (by kernel_rfl) trivial) (fun v => by kernel_rfl)

theorem i_listed_eq (ok : Bool) (l : List Int) : i_listed (((), ok), l) = some (if ok then .inr (((), true), l) else .inl (((), false), (l, []))) := by
  cases ok <;> simp [i_listed, i_listed_t, T.run]


def i_PlusTerms_sh : FSh := ⟨[(.one (.si .i64)), (.one (.si .i64))], []⟩

def i_PlusTerms_L4_sh : LSh := ⟨(fun ex => match ex with | .norm => [(0, none), (1, none), (6, none)] | .exit i => if i = 0 then [(6, none)] else [] | .ret => [(4, none), (5, none)]), [(0, (.one (.si .i64))), (1, (.one (.si .i64))), (6, (.one (.rw 0 0)))], [(.row 0 (.int .i64))], [⟨(.exit 0), [(6, (.one (.rw 0 0)))], [(.row 0 (.int .i64))]⟩]⟩
noncomputable def i_PlusTerms_L4_step : ((Int × Int × Unit) × List (Int)) → T (((Int × Int × Unit) × List (Int)) ⊕ (Unit × List (Int))) := fun ((num, den, ()), out) =>
  (.test (decide (den > 0))
  (.test (decide (den ≠ 0))
   (.test (decide (1 ≤ (List.length (List.set (List.replicate 1 (0 : Int)) 0 (w64 (Int.tdiv num den))))))
    (.test (decide ((0 + (List.length out)) ≤ (List.length out)))
     (.test (decide ((2 * (((List.length out) + (List.length (win (List.set (List.replicate 1 (0 : Int)) 0 (w64 (Int.tdiv num den))) 0 1))) * 9)) ≤ 140737488355328))
      (.test (decide (den ≠ 0))
       (.test (decide ((0 = 0) ∧ (((List.length out) + (List.length (win (List.set (List.replicate 1 (0 : Int)) 0 (w64 (Int.tdiv num den))) 0 1))) = (List.length ((win out 0 (List.length out)) ++ (win (List.set (List.replicate 1 (0 : Int)) 0 (w64 (Int.tdiv num den))) 0 1))))))
        (.ret (Sum.inl ((den, ((Int.tmod num den), ())), ((win out 0 (List.length out)) ++ (win (List.set (List.replicate 1 (0 : Int)) 0 (w64 (Int.tdiv num den))) 0 1)))))
        .fail)
       .fail)
      .fail)
     .fail)
    .fail)
   .fail)
  (.test (decide ((0 = 0) ∧ ((List.length out) = (List.length out))))
   (.ret (Sum.inr ((), out)))
   .fail))
noncomputable def i_PlusTerms_L4 (v : ((Int × Int × Unit) × List (Int))) : Option (Unit × List (Int)) := loopO (fun v => (i_PlusTerms_L4_step v).run) v

def i_PlusTerms_fo : List FO := [⟨[(.one (.rw 0 0)), (.one .sb)], [(.row 0 (.int .i64))]⟩]
noncomputable def i_PlusTerms_t : (Int × Int) → T ((Unit × Bool) × List (Int)) := fun (num, den) =>
  (.sub (i_isLowest (num, den)) fun z0 =>
  (.test (! z0)
  (.test true
   (.ret (((), false), ([] : List (Int))))
   .fail)
  (.test (decide (num < den))
   (.test true
    (.ret (((), false), ([] : List (Int))))
    .fail)
   (.test true
    (.sub (i_PlusTerms_L4 ((num, (den, ())), (List.replicate 0 (0 : Int)))) fun z1 =>
     (.test (decide ((0 + (List.length z1.2)) ≤ (List.length z1.2)))
     (.sub (i_IsTermList (win z1.2 0 (List.length z1.2))) fun z2 =>
      (.test (decide ((0 = 0) ∧ ((List.length z1.2) = (List.length z1.2))))
      (.sub (i_listed (((), z2), z1.2)) fun z3 =>
       (.test (Sum.isLeft z3)
       (.sub (Sum.getLeft? z3) fun z4 =>
        (.test (decide ((0 = 0) ∧ ((List.length z4.2.2) = (List.length z4.2.2))))
        (.ret (((), z4.1.2), z4.2.2))
        .fail))
       (.sub (Sum.getRight? z3) fun z5 =>
        (.test (decide ((0 = 0) ∧ ((List.length z5.2) = (List.length z5.2))))
        (.ret (((), z5.1.2), z5.2))
        .fail))))
      .fail))
     .fail))
    .fail))))
noncomputable def i_PlusTerms (v : (Int × Int)) : Option ((Unit × Bool) × List (Int)) := (i_PlusTerms_t v).run
noncomputable def i_PlusTerms_E : TEnv := (((E0.add1 n_i_isLowest i_isLowest_sh i_isLowest_fo i_isLowest).add1 n_i_IsTermList i_IsTermList_sh i_IsTermList_fo i_IsTermList).add1 n_i_listed i_listed_sh i_listed_fo i_listed)
theorem i_PlusTerms_Eok : (i_PlusTerms_E).OK := (((E0ok.add1 i_isLowest_ok).add1 i_IsTermList_ok).add1 i_listed_ok)
noncomputable def i_PlusTerms_told : Nat → Option SealT := fun id => if id = 4 then some (LSh.told i_PlusTerms_L4_sh 0 (i_PlusTerms_L4_step)) else none
theorem i_PlusTerms_L4_ok : ToldOK Try.prog 0 (loopAt (bodyOf fn_i_PlusTerms) [0]) (LSh.told i_PlusTerms_L4_sh 0 (i_PlusTerms_L4_step)) :=
  loop_ok (E := i_PlusTerms_E) (i_PlusTerms_Eok) (told := i_PlusTerms_told) (l := i_PlusTerms_L4_sh) (step := i_PlusTerms_L4_step) (loopsOK_of (ls := []) (by kernel_rfl) trivial) (by kernel_rfl) (fun v => by kernel_rfl)
theorem i_PlusTerms_ok : FOK Try.prog n_i_PlusTerms i_PlusTerms_sh i_PlusTerms_fo i_PlusTerms :=
  fn_ok (E := i_PlusTerms_E) (i_PlusTerms_Eok) (told := i_PlusTerms_told) (fl := []) (c := bodyOf fn_i_PlusTerms) (s := i_PlusTerms_sh) (l := i_PlusTerms_fo) (tree := i_PlusTerms_t) fnat_i_PlusTerms (by kernel_rfl) (by kernel_rfl) (by kernel_rfl) (loopsOK_of (ls := [loopAt (bodyOf fn_i_PlusTerms) [0]]) (by kernel_rfl) ⟨.inr ⟨_, by kernel_rfl, i_PlusTerms_L4_ok⟩, trivial⟩) (fun v => by kernel_rfl)

theorem plus_loops : ∀ (n : Nat) (num den : Int) (out : List Int), den.toNat ≤ n → 0 ≤ num → num ≤ 1000000 → 0 ≤ den → den ≤ 1000000 → out.length + den.toNat ≤ 2000000 →
    ∃ ext : List Int, (out ++ ext).length ≤ 2000000 ∧ i_PlusTerms_L4 ((num, (den, ())), out) = some ((), out ++ ext) ∧
      (out = [] ∨ isTerms out = true → s_PlusTerms_L4 ((num, (den, ())), out) = some (if out ++ ext = [] ∨ isTerms (out ++ ext) = true then .inr ((), out ++ ext) else .inl (((), false), []))) := by
  intro n
  induction n with
  | zero =>
    intro num den out hn h1 h2 h3 h4 h5
    obtain rfl : den = 0 := by omega
    refine ⟨[], by simp; omega, ?_, ?_⟩
    · simp only [i_PlusTerms_L4]; exact loopO_done (by simp [i_PlusTerms_L4_step, T.run])
    · intro ho; rw [List.append_nil, if_pos ho]; simp only [s_PlusTerms_L4]; exact loopO_done (by simp [s_PlusTerms_L4_step, T.run])
  | succ n ih =>
    intro num den out hn h1 h2 h3 h4 h5
    by_cases h0 : den = 0
    · subst h0
      refine ⟨[], by simp; omega, ?_, ?_⟩
      · simp only [i_PlusTerms_L4]; exact loopO_done (by simp [i_PlusTerms_L4_step, T.run])
      · intro ho; rw [List.append_nil, if_pos ho]; simp only [s_PlusTerms_L4]; exact loopO_done (by simp [s_PlusTerms_L4_step, T.run])
    · have hp : den > 0 := by omega
      obtain ⟨_, g2, g3⟩ := gcd_toNat_step h1 (show 0 < den by omega)
      have hq : w64 (Int.tdiv num den) = Int.tdiv num den := by
        have e : Int.tdiv num den = num / den := Int.tdiv_eq_ediv_of_nonneg h1
        have := Int.ediv_le_self den h1
        have := Int.ediv_nonneg h1 h3
        rw [w64_id (by omega) (by omega)]
      have hlen : 2 * ((out.length + 1) * 9) ≤ 140737488355328 := by omega
      obtain ⟨ext, e1, e2, e3⟩ := ih den (Int.tmod num den) (out ++ [Int.tdiv num den]) (by omega) h3 h4 g2 (by omega) (by simp; omega)
      have es : out ++ [Int.tdiv num den] ++ ext = out ++ (Int.tdiv num den :: ext) := by simp
      rw [es] at e1 e2 e3
      refine ⟨Int.tdiv num den :: ext, e1, ?_, ?_⟩
      · simp only [i_PlusTerms_L4] at e2 ⊢
        rw [← e2]
        exact loopO_next (by simp [i_PlusTerms_L4_step, T.run, h0, hp, hq, win_all, win_one, win_sing, hlen])
      · intro ho
        have hl : (out ++ [Int.tdiv num den]).length < 4611686018427387904 := by simp; omega
        have hst : (s_PlusTerms_L4_step ((num, (den, ())), out)).run = some (if isTerms (out ++ [Int.tdiv num den]) then .inl ((den, (Int.tmod num den, ())), out ++ [Int.tdiv num den]) else .inr (.inl (((), false), []))) := by
          have hw : win (out ++ [Int.tdiv num den]) 0 (out.length + 1) = out ++ [Int.tdiv num den] := by
            have := win_all (out ++ [Int.tdiv num den]); rwa [List.length_append] at this
          simp only [s_PlusTerms_L4_step, T.run, h0, hp, hq, win_all, win_one, List.length_append, List.length_singleton, hw, s_ctGood_eq _ hl]
          cases isTerms (out ++ [Int.tdiv num den]) <;> simp [hlen, h0]
        simp only [s_PlusTerms_L4] at e3 ⊢
        cases ht : isTerms (out ++ [Int.tdiv num den]) with
        | true =>
          rw [ht] at hst
          rw [loopO_next hst]
          exact e3 (Or.inr ht)
        | false =>
          rw [ht] at hst
          have : ¬ (out ++ (Int.tdiv num den :: ext) = [] ∨ isTerms (out ++ (Int.tdiv num den :: ext)) = true) := by
            rintro (h | h)
            · simp at h
            · rw [← es] at h; have := isTerms_snoc h; rw [ht] at this; cases this
          rw [if_neg this]
          exact loopO_done hst
theorem plus_terms (num den : Int) : ∃ r : Bool × List Int, r.2.length ≤ 10 ∧ i_PlusTerms (num, den) = some (((), r.1), r.2) ∧ s_PlusTerms (num, den) = some (((), r.1), r.2) := by
  simp only [i_PlusTerms, i_PlusTerms_t, s_PlusTerms, s_PlusTerms_t, T.run, i_isLowest_eq, s_ctPair_eq, Option.bind_some]
  cases hl : lowP num den with
  | false => exact ⟨(false, []), by simp, by simp, by simp⟩
  | true =>
    by_cases hlt : num < den
    · exact ⟨(false, []), by simp, by simp [hlt], by simp [hlt]⟩
    · simp only [lowP, Bool.and_eq_true, inB_iff] at hl
      obtain ⟨ext, e1, e2, e3⟩ := plus_loops den.toNat num den [] (Nat.le_refl _) (by omega) (by omega) (by omega) (by omega) (by simp; omega)
      rw [List.nil_append] at e1 e2 e3
      have e3 := e3 (Or.inl rfl)
      have hll : ext.length < 4611686018427387904 := by omega
      have hn : isTerms ([] : List Int) = true := by decide
      have hc : (ext = [] ∨ isTerms ext = true) ↔ isTerms ext = true := by
        constructor
        · rintro (rfl | h)
          · exact hn
          · exact h
        · exact Or.inr
      simp only [hc] at e3
      simp only [hlt, decide_false, Bool.false_eq_true, if_false, Bool.not_true, if_true, List.replicate_zero, e2, e3, Option.bind_some, win_all, i_IsTermList_eq _ hll, i_listed_eq]
      cases ht : isTerms ext with
      | true => exact ⟨(true, ext), by rw [isTerms_iff] at ht; exact ht.1, by simp [Sum.isLeft], by simp [Sum.isLeft]⟩
      | false => exact ⟨(false, []), by simp, by simp [Sum.isLeft], by simp [Sum.isLeft]⟩


def l_markIntS_sh : FSh := ⟨[(.one (.rw 0 0)), (.one (.si .i64))], [(.row 0 (.int .i64))]⟩

def l_markIntS_L2_sh : LSh := ⟨(fun ex => match ex with | .norm => [(0, none), (1, none), (5, none)] | .exit i => if i = 0 then [(1, none)] else [] | .ret => [(4, none)]), [(0, (.one (.rw 0 0))), (1, (.one (.si .i64))), (5, (.one (.si .i64)))], [(.row 0 (.int .i64))], [⟨(.exit 0), [(1, (.one (.si .i64)))], [(.row 0 (.int .i64))]⟩]⟩
noncomputable def l_markIntS_L2_step : ((Unit × Int × Int) × List (Int)) → T (((Unit × Int × Int) × List (Int)) ⊕ (Int × List (Int))) := fun (((), k, i), a) =>
  (.test (decide (i < ((List.length a) : Int)))
  (.test (decide ((0 ≤ i) ∧ (i < ((List.length a) : Int))))
   (.sub (a[(0 + (Int.toNat i))]?) fun z0 =>
    (.test (decide ((0 = 0) ∧ ((List.length a) = (List.length (List.set a (0 + (Int.toNat i)) k)))))
    (.ret (Sum.inl (((), ((w64 (k + 1)), (w64 (i + 1)))), (List.set a (0 + (Int.toNat i)) k))))
    .fail))
   .fail)
  (.ret (Sum.inr (k, a))))
noncomputable def l_markIntS_L2 (v : ((Unit × Int × Int) × List (Int))) : Option (Int × List (Int)) := loopO (fun v => (l_markIntS_L2_step v).run) v

def l_markIntS_fo : List FO := [⟨[(.one (.si .i64))], [(.row 0 (.int .i64))]⟩]
noncomputable def l_markIntS_t : ((Unit × Int) × List (Int)) → T (Int × List (Int)) := fun (((), k), a) =>
  (.test (decide ((0 = 0) ∧ ((List.length a) = (List.length a))))
  (.sub (l_markIntS_L2 (((), (k, (0 : Int))), a)) fun z0 =>
   (.ret (z0.1, z0.2)))
  .fail)
noncomputable def l_markIntS (v : ((Unit × Int) × List (Int))) : Option (Int × List (Int)) := (l_markIntS_t v).run
noncomputable def l_markIntS_E : TEnv := E0
theorem l_markIntS_Eok : (l_markIntS_E).OK := E0ok
noncomputable def l_markIntS_told : Nat → Option SealT := fun id => if id = 2 then some (LSh.told l_markIntS_L2_sh 1 (l_markIntS_L2_step)) else none
theorem l_markIntS_L2_ok : ToldOK Try.prog 1 (loopAt (bodyOf fn_l_markIntS) [0]) (LSh.told l_markIntS_L2_sh 1 (l_markIntS_L2_step)) :=
  loop_ok (E := l_markIntS_E) (l_markIntS_Eok) (told := l_markIntS_told) (l := l_markIntS_L2_sh) (step := l_markIntS_L2_step) (loopsOK_of (ls := []) (by kernel_rfl) trivial) (by kernel_rfl) (fun v => by kernel_rfl)
theorem l_markIntS_ok : FOK Try.prog n_l_markIntS l_markIntS_sh l_markIntS_fo l_markIntS :=
  fn_ok (E := l_markIntS_E) (l_markIntS_Eok) (told := l_markIntS_told) (fl := []) (c := bodyOf fn_l_markIntS) (s := l_markIntS_sh) (l := l_markIntS_fo) (tree := l_markIntS_t) fnat_l_markIntS (by kernel_rfl) (by kernel_rfl) (by kernel_rfl) (loopsOK_of (ls := [loopAt (bodyOf fn_l_markIntS) [0]]) (by kernel_rfl) ⟨.inr ⟨_, by kernel_rfl, l_markIntS_L2_ok⟩, trivial⟩) (fun v => by kernel_rfl)

theorem l_markIntS_L2_eq (k : Int) (l : List Int) (hk : 0 ≤ k ∧ k < 1000000000000) (hl : l.length < 1000000000000000) : ∀ n i, i + n = l.length →
    l_markIntS_L2 (((), (k + i, (i : Int))), iot k i ++ l.drop i) = some (k + l.length, iot k l.length) := by
  intro n
  induction n with
  | zero =>
    intro i hi
    obtain rfl : i = l.length := by omega
    rw [List.drop_length, List.append_nil]
    simp only [l_markIntS_L2]
    exact loopO_done (by simp [l_markIntS_L2_step, T.run, iot_len])
  | succ n ih =>
    intro i hi
    have hlt : i < l.length := by omega
    have hd : l.drop i = l[i] :: l.drop (i + 1) := List.drop_eq_getElem_cons hlt
    have hlen : (iot k i ++ l.drop i).length = l.length := by rw [List.length_append, iot_len, List.length_drop]; omega
    have hget : (iot k i ++ l.drop i)[i]? = some l[i] := by
      rw [List.getElem?_append_right (by rw [iot_len]; omega), iot_len, Nat.sub_self, hd]; rfl
    have hset : List.set (iot k i ++ l.drop i) i (k + i) = iot k (i + 1) ++ l.drop (i + 1) := by
      rw [List.set_append_right _ _ (by rw [iot_len]; omega), iot_len, Nat.sub_self, hd, iot_succ, List.append_assoc]; rfl
    simp only [l_markIntS_L2] at ih ⊢
    have hst : (l_markIntS_L2_step (((), (k + i, (i : Int))), iot k i ++ l.drop i)).run = some (.inl (((), (k + (i + 1 : Nat), ((i + 1 : Nat) : Int))), iot k (i + 1) ++ l.drop (i + 1))) := by
      simp only [l_markIntS_L2_step, T.run, hlen, Int.toNat_natCast, Nat.zero_add, hget, Option.bind_some, hset]
      rw [w64_id (z := k + i + 1) (by omega) (by omega), w64_id (z := (i : Int) + 1) (by omega) (by omega)]
      have h1 : (i : Int) < (l.length : Int) := by omega
      have h2 : (0 : Int) ≤ i ∧ (i : Int) < (l.length : Int) := by omega
      simp only [h1, h2, decide_true, if_true]
      have h3 : (iot k (i + 1) ++ l.drop (i + 1)).length = l.length := by rw [List.length_append, iot_len, List.length_drop]; omega
      simp [h3, Int.add_assoc]
    rw [loopO_next hst]
    exact ih (i + 1) (by omega)
theorem l_markIntS_eq (k : Int) (l : List Int) (hk : 0 ≤ k ∧ k < 1000000000000) (hl : l.length < 1000000000000000) : l_markIntS (((), k), l) = some (k + l.length, iot k l.length) := by
  have h := l_markIntS_L2_eq k l hk hl l.length 0 (by omega)
  simp only [l_markIntS, l_markIntS_t, T.run]
  have e : iot k 0 ++ l.drop 0 = l := by simp [iot]
  rw [e, show ((0 : Nat) : Int) = 0 from rfl, Int.add_zero] at h
  simp [h]


def l_heldIntS_sh : FSh := ⟨[(.one (.sl (.int .i64) false false)), (.one (.si .i64))], []⟩

def l_heldIntS_L2_sh : LSh := ⟨(fun ex => match ex with | .norm => [(0, none), (1, none), (5, none)] | .exit i => if i = 0 then [(1, none)] else [] | .ret => [(4, none)]), [(0, (.one (.sl (.int .i64) false false))), (1, (.one (.si .i64))), (5, (.one (.si .i64)))], [], [⟨.ret, [(4, (.one (.si .i64)))], []⟩, ⟨(.exit 0), [(1, (.one (.si .i64)))], []⟩]⟩
noncomputable def l_heldIntS_L2_step : (List (Int) × Int × Int) → T ((List (Int) × Int × Int) ⊕ (Int ⊕ Int)) := fun (a, k, i) =>
  (.test (decide (i < ((List.length a) : Int)))
  (.test (decide ((0 ≤ i) ∧ (i < ((List.length a) : Int))))
   (.sub (a[(Int.toNat i)]?) fun z0 =>
    (.test (z0 != k)
    (.ret (Sum.inr (Sum.inl (-1))))
    (.ret (Sum.inl (a, ((w64 (k + 1)), (w64 (i + 1))))))))
   .fail)
  (.ret (Sum.inr (Sum.inr k))))
noncomputable def l_heldIntS_L2 (v : (List (Int) × Int × Int)) : Option (Int ⊕ Int) := loopO (fun v => (l_heldIntS_L2_step v).run) v

def l_heldIntS_fo : List FO := [⟨[(.one (.si .i64))], []⟩]
noncomputable def l_heldIntS_t : (List (Int) × Int) → T Int := fun (a, k) =>
  (.sub (l_heldIntS_L2 (a, (k, (0 : Int)))) fun z0 =>
  (.test (Sum.isLeft z0)
  (.sub (Sum.getLeft? z0) fun z1 =>
   (.ret z1))
  (.sub (Sum.getRight? z0) fun z2 =>
   (.ret z2))))
noncomputable def l_heldIntS (v : (List (Int) × Int)) : Option Int := (l_heldIntS_t v).run
noncomputable def l_heldIntS_E : TEnv := E0
theorem l_heldIntS_Eok : (l_heldIntS_E).OK := E0ok
noncomputable def l_heldIntS_told : Nat → Option SealT := fun id => if id = 2 then some (LSh.told l_heldIntS_L2_sh 0 (l_heldIntS_L2_step)) else none
theorem l_heldIntS_L2_ok : ToldOK Try.prog 0 (loopAt (bodyOf fn_l_heldIntS) [0]) (LSh.told l_heldIntS_L2_sh 0 (l_heldIntS_L2_step)) :=
  loop_ok (E := l_heldIntS_E) (l_heldIntS_Eok) (told := l_heldIntS_told) (l := l_heldIntS_L2_sh) (step := l_heldIntS_L2_step) (loopsOK_of (ls := []) (by kernel_rfl) trivial) (by kernel_rfl) (fun v => by kernel_rfl)
theorem l_heldIntS_ok : FOK Try.prog n_l_heldIntS l_heldIntS_sh l_heldIntS_fo l_heldIntS :=
  fn_ok (E := l_heldIntS_E) (l_heldIntS_Eok) (told := l_heldIntS_told) (fl := []) (c := bodyOf fn_l_heldIntS) (s := l_heldIntS_sh) (l := l_heldIntS_fo) (tree := l_heldIntS_t) fnat_l_heldIntS (by kernel_rfl) (by kernel_rfl) (by kernel_rfl) (loopsOK_of (ls := [loopAt (bodyOf fn_l_heldIntS) [0]]) (by kernel_rfl) ⟨.inr ⟨_, by kernel_rfl, l_heldIntS_L2_ok⟩, trivial⟩) (fun v => by kernel_rfl)

theorem l_heldIntS_eq (k : Int) (n : Nat) (hk : 0 ≤ k ∧ k < 1000000000000) (hl : n < 1000000000000000) : l_heldIntS (iot k n, k) = some (k + n) := by
  have h := loop_count (step := fun v => (l_heldIntS_L2_step v).run) (n := n) (fun i (_ : Unit) => (iot k n, (k + (i : Int), (i : Int)))) (fun _ _ => Sum.inl ()) (fun _ => Sum.inr (k + (n : Int)))
    (by
      intro i s hi
      simp only [l_heldIntS_L2_step, T.run, iot_len, Int.toNat_natCast, iot_get k hi, Option.bind_some]
      rw [w64_id (z := k + i + 1) (by omega) (by omega), w64_id (z := (i : Int) + 1) (by omega) (by omega)]
      have h1 : (i : Int) < (n : Int) := by omega
      have h2 : (0 : Int) ≤ i ∧ (i : Int) < (n : Int) := by omega
      simp [h1, h2, Int.add_assoc])
    (by intro s; simp [l_heldIntS_L2_step, T.run, iot_len]) 0 () (Nat.zero_le _)
  rw [show ((0 : Nat) : Int) = 0 from rfl, Int.add_zero] at h
  have hf : ∀ l : List Nat, forE (fun (_ : Unit) (_ : Nat) => (Sum.inl () : Unit ⊕ (Int ⊕ Int))) (fun _ => Sum.inr (k + (n : Int))) l () = Sum.inr (k + (n : Int)) := by
    intro l
    induction l with
    | nil => rfl
    | cons x t ih => rw [forE_cons]; exact ih
  rw [hf] at h
  simp only [l_heldIntS, l_heldIntS_t, T.run, l_heldIntS_L2]
  rw [h]
  simp [Sum.isLeft]


def l_FnExactPlusTerms_sh : FSh := ⟨[(.one (.si .i64)), (.one (.si .i64))], []⟩

def l_FnExactPlusTerms_fo : List FO := [⟨[(.one .sb)], []⟩]
noncomputable def l_FnExactPlusTerms_t : (Int × Int) → T Bool := fun (aNum, aDen) =>
  (.sub (s_PlusTerms (aNum, aDen)) fun z0 =>
  (.sub (i_PlusTerms (aNum, aDen)) fun z1 =>
  (.test (decide ((0 + (List.length z1.2)) ≤ (List.length z1.2)))
  (.test (decide ((0 + (List.length z0.2)) ≤ (List.length z0.2)))
   (.sub (l_eqIntS ((win z1.2 0 (List.length z1.2)), (win z0.2 0 (List.length z0.2)))) fun z2 =>
    (.test (! z2)
    (.ret false)
    (.test (! (z1.1.2 == z0.1.2))
     (.ret false)
     (.test (decide ((0 = 0) ∧ ((List.length z1.2) = (List.length z1.2))))
      (.sub (l_markIntS (((), (1 : Int)), z1.2)) fun z3 =>
       (.test (decide ((0 + (List.length z1.2)) ≤ (List.length z3.2)))
       (.sub (l_heldIntS ((win z3.2 0 (List.length z1.2)), (1 : Int))) fun z4 =>
        (.test (decide (z4 < 0))
        (.ret false)
        (.test (z4 != z3.1)
         (.ret false)
         (.sub (i_PlusTerms (aNum, aDen)) fun z5 =>
          (.test (decide ((0 + (List.length z5.2)) ≤ (List.length z5.2)))
          (.test (decide ((0 + (List.length z0.2)) ≤ (List.length z0.2)))
           (.sub (l_eqIntS ((win z5.2 0 (List.length z5.2)), (win z0.2 0 (List.length z0.2)))) fun z6 =>
            (.test (! z6)
            (.ret false)
            (.test (! (z5.1.2 == z0.1.2))
             (.ret false)
             (.test (decide ((0 + (List.length z1.2)) ≤ (List.length z3.2)))
              (.sub (l_heldIntS ((win z3.2 0 (List.length z1.2)), (1 : Int))) fun z7 =>
               (.test (decide (z7 < 0))
               (.ret false)
               (.test (z7 != z3.1)
                (.ret false)
                (.ret true))))
              .fail))))
           .fail)
          .fail)))))
       .fail))
      .fail))))
   .fail)
  .fail)))
noncomputable def l_FnExactPlusTerms (v : (Int × Int)) : Option Bool := (l_FnExactPlusTerms_t v).run
noncomputable def l_FnExactPlusTerms_E : TEnv := (((((E0.add1 n_s_PlusTerms s_PlusTerms_sh s_PlusTerms_fo s_PlusTerms).add1 n_i_PlusTerms i_PlusTerms_sh i_PlusTerms_fo i_PlusTerms).add1 n_l_eqIntS l_eqIntS_sh l_eqIntS_fo l_eqIntS).add1 n_l_markIntS l_markIntS_sh l_markIntS_fo l_markIntS).add1 n_l_heldIntS l_heldIntS_sh l_heldIntS_fo l_heldIntS)
theorem l_FnExactPlusTerms_Eok : (l_FnExactPlusTerms_E).OK := (((((E0ok.add1 s_PlusTerms_ok).add1 i_PlusTerms_ok).add1 l_eqIntS_ok).add1 l_markIntS_ok).add1 l_heldIntS_ok)
noncomputable def l_FnExactPlusTerms_told : Nat → Option SealT := fun id => none
theorem l_FnExactPlusTerms_ok : FOK Try.prog n_l_FnExactPlusTerms l_FnExactPlusTerms_sh l_FnExactPlusTerms_fo l_FnExactPlusTerms :=
  fn_ok (E := l_FnExactPlusTerms_E) (l_FnExactPlusTerms_Eok) (told := l_FnExactPlusTerms_told) (fl := []) (c := bodyOf fn_l_FnExactPlusTerms) (s := l_FnExactPlusTerms_sh) (l := l_FnExactPlusTerms_fo) (tree := l_FnExactPlusTerms_t) fnat_l_FnExactPlusTerms (by kernel_rfl) (by kernel_rfl) (by kernel_rfl) (loopsOK_of (ls := []) (by kernel_rfl) trivial) (fun v => by kernel_rfl)

theorem l_FnExactPlusTerms_true (v : Int × Int) (hs : smallL ASh.small [.one (.si .i64), .one (.si .i64)] v) : l_FnExactPlusTerms v = some true := by
  obtain ⟨num, den⟩ := v
  obtain ⟨⟨ok, l⟩, hl, h1, h2⟩ := plus_terms num den
  simp only at hl h1 h2
  have hl1 : l.length < 4611686018427387904 := by omega
  have hm := l_markIntS_eq 1 l (by omega) (by omega)
  have hh := l_heldIntS_eq 1 l.length (by omega) (by omega)
  have hw : win (iot 1 l.length) 0 l.length = iot 1 l.length := by have := win_all (iot 1 l.length); rwa [iot_len] at this
  have hx : ¬ ((1 : Int) + l.length < 0) := by omega
  simp [l_FnExactPlusTerms, l_FnExactPlusTerms_t, T.run, h1, h2, win_all, l_eqIntS_eq l l hl1, hm, iot_len, hw, hh, hx]


end Go.Proofs.W
