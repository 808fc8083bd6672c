/- Functions of the program, walked, and what they compute. -/
import Derived.Test.YtbheicnppelllaaMiIds
set_option linter.unusedVariables false
set_option linter.unusedSimpArgs false
set_option maxRecDepth 100000
set_option maxHeartbeats 4000000
namespace Go.Proofs.W
open Go Go.Gm Go.Proofs
def iot (k : Int) (n : Nat) : List Int := (List.range n).map fun (i : Nat) => k + (i : Int)
theorem iot_len (k : Int) (n : Nat) : (iot k n).length = n := by simp [iot]
theorem iot_succ (k : Int) (n : Nat) : iot k (n + 1) = iot k n ++ [k + n] := by simp [iot, List.range_succ]
theorem iot_get (k : Int) {n i : Nat} (h : i < n) : (iot k n)[i]? = some (k + i) := by simp [iot, h]
theorem gcd_toNat_step {a b : Int} (ha : 0 ≤ a) (hb : 0 < b) : Nat.gcd b.toNat (Int.tmod a b).toNat = Nat.gcd a.toNat b.toNat ∧ 0 ≤ Int.tmod a b ∧ Int.tmod a b < b := by
  obtain ⟨m, rfl⟩ := Int.eq_ofNat_of_zero_le ha
  obtain ⟨n, rfl⟩ := Int.eq_ofNat_of_zero_le (Int.le_of_lt hb)
  have e : Int.tmod (m : Int) (n : Int) = ((m % n : Nat) : Int) := rfl
  rw [e]
  simp only [Int.toNat_natCast]
  refine ⟨?_, Int.natCast_nonneg _, ?_⟩
  · rw [Nat.gcd_comm m n, Nat.gcd_rec n m, Nat.gcd_comm]
  · have : n ≠ 0 := by omega
    exact Int.ofNat_lt.2 (Nat.mod_lt m (by omega))
def lowP (num den : Int) : Bool := inB 1 1000000 num && (inB 1 1000000 den && decide (Nat.gcd num.toNat den.toNat = 1))
def upQ (num den : Int) : Int := (num + den - 1) / den
theorem upQ_B {num den : Int} (hn : 1 ≤ num) (hd : 1 ≤ den) : 1 ≤ upQ num den ∧ upQ num den ≤ num ∧ num ≤ upQ num den * den ∧ upQ num den * den - num < den := by
  have h1 := Int.mul_ediv_add_emod (num + den - 1) den
  have h2 := Int.emod_nonneg (num + den - 1) (show den ≠ 0 by omega)
  have h3 := Int.emod_lt_of_pos (num + den - 1) (show 0 < den by omega)
  have h4 : 1 ≤ upQ num den := by
    unfold upQ
    exact (Int.le_ediv_iff_mul_le (by omega)).2 (by omega)
  have h5 : den * upQ num den = upQ num den * den := Int.mul_comm ..
  have h6 : upQ num den ≤ num := by
    unfold upQ
    refine Int.ediv_le_of_le_mul (by omega) ?_
    have : 0 ≤ (num - 1) * (den - 1) := Int.mul_nonneg (by omega) (by omega)
    rw [Int.sub_mul, Int.mul_sub] at this
    omega
  unfold upQ at *
  omega
def posT (l : List Int) : Bool := isTerms l && (decide (l ≠ []) && l.all (inB 1 30))

def s_l1In_sh : FSh := ⟨[(.one (.si .i64)), (.one (.si .i64)), (.one (.si .i64))], []⟩

def s_l1In_fo : List FO := [⟨[(.one .sb)], []⟩]
noncomputable def s_l1In_t : (Int × Int × Int) → T Bool := fun (n, lo, hi) =>
  (.test (decide (n ≥ lo))
  (.ret (decide (n ≤ hi)))
  (.ret false))
noncomputable def s_l1In (v : (Int × Int × Int)) : Option Bool := (s_l1In_t v).run
noncomputable def s_l1In_E : TEnv := E0
theorem s_l1In_Eok : (s_l1In_E).OK := E0ok
noncomputable def s_l1In_told : Nat → Option SealT := fun id => none
theorem s_l1In_ok : FOK Try.prog n_s_l1In s_l1In_sh s_l1In_fo s_l1In :=
  fn_ok (E := s_l1In_E) (s_l1In_Eok) (told := s_l1In_told) (fl := []) (c := bodyOf fn_s_l1In) (s := s_l1In_sh) (l := s_l1In_fo) (tree := s_l1In_t) fnat_s_l1In (by kernel_rfl) (by kernel_rfl) (by kernel_rfl) (loopsOK_of (ls := []) (by kernel_rfl) trivial) (fun v => by kernel_rfl)

theorem s_l1In_eq (n low high : Int) : s_l1In (n, low, high) = some (inB low high n) := by
  simp only [s_l1In, s_l1In_t, T.run, ge_iff_le, decide_eq_true_eq, inB]
  by_cases h : low ≤ n <;> simp [h]


def s_ctPair_sh : FSh := ⟨[(.one (.si .i64)), (.one (.si .i64))], []⟩

def s_ctPair_L3_sh : LSh := ⟨(fun ex => match ex with | .norm => [(0, none), (1, none)] | .exit i => if i = 0 then [(0, none)] else [] | .ret => [(4, none)]), [(0, (.one (.si .i64))), (1, (.one (.si .i64)))], [], [⟨(.exit 0), [(0, (.one (.si .i64)))], []⟩]⟩
noncomputable def s_ctPair_L3_step : (Int × Int) → T ((Int × Int) ⊕ Int) := fun (num, den) =>
  (.test (decide (den > 0))
  (.test (decide (den ≠ 0))
   (.ret (Sum.inl (den, (Int.tmod num den))))
   .fail)
  (.ret (Sum.inr num)))
noncomputable def s_ctPair_L3 (v : (Int × Int)) : Option Int := loopO (fun v => (s_ctPair_L3_step v).run) v

def s_ctPair_fo : List FO := [⟨[(.one .sb)], []⟩]
noncomputable def s_ctPair_t : (Int × Int) → T Bool := fun (num, den) =>
  (.sub (s_l1In (num, ((1 : Int), (1000000 : Int)))) fun z0 =>
  (.test (! z0)
  (.ret false)
  (.sub (s_l1In (den, ((1 : Int), (1000000 : Int)))) fun z1 =>
   (.test (! z1)
   (.ret false)
   (.sub (s_ctPair_L3 (num, den)) fun z2 =>
    (.ret (z2 == 1)))))))
noncomputable def s_ctPair (v : (Int × Int)) : Option Bool := (s_ctPair_t v).run
noncomputable def s_ctPair_E : TEnv := (E0.add1 n_s_l1In s_l1In_sh s_l1In_fo s_l1In)
theorem s_ctPair_Eok : (s_ctPair_E).OK := (E0ok.add1 s_l1In_ok)
noncomputable def s_ctPair_told : Nat → Option SealT := fun id => if id = 3 then some (LSh.told s_ctPair_L3_sh 0 (s_ctPair_L3_step)) else none
theorem s_ctPair_L3_ok : ToldOK Try.prog 0 (loopAt (bodyOf fn_s_ctPair) [0]) (LSh.told s_ctPair_L3_sh 0 (s_ctPair_L3_step)) :=
  loop_ok (E := s_ctPair_E) (s_ctPair_Eok) (told := s_ctPair_told) (l := s_ctPair_L3_sh) (step := s_ctPair_L3_step) (loopsOK_of (ls := []) (by kernel_rfl) trivial) (by kernel_rfl) (fun v => by kernel_rfl)
theorem s_ctPair_ok : FOK Try.prog n_s_ctPair s_ctPair_sh s_ctPair_fo s_ctPair :=
  fn_ok (E := s_ctPair_E) (s_ctPair_Eok) (told := s_ctPair_told) (fl := []) (c := bodyOf fn_s_ctPair) (s := s_ctPair_sh) (l := s_ctPair_fo) (tree := s_ctPair_t) fnat_s_ctPair (by kernel_rfl) (by kernel_rfl) (by kernel_rfl) (loopsOK_of (ls := [loopAt (bodyOf fn_s_ctPair) [0]]) (by kernel_rfl) ⟨.inr ⟨_, by kernel_rfl, s_ctPair_L3_ok⟩, trivial⟩) (fun v => by kernel_rfl)

theorem s_ctPair_eq (num den : Int) : s_ctPair (num, den) = some (lowP num den) := by
  have h := loop_eq (step := fun v => (s_ctPair_L3_step v).run) (fun v => v.2.toNat) (fun v => 0 ≤ v.1 ∧ 0 ≤ v.2) (fun v => ((Nat.gcd v.1.toNat v.2.toNat : Nat) : Int))
    (by
      rintro ⟨a, b⟩ ⟨ha, hb⟩
      simp only at ha hb
      by_cases h0 : b = 0
      · right
        subst h0
        have : ((a.toNat : Nat) : Int) = a := Int.toNat_of_nonneg ha
        simp [s_ctPair_L3_step, T.run, this]
      · left
        have hp : b > 0 := by omega
        obtain ⟨g1, g2, g3⟩ := gcd_toNat_step ha (show 0 < b by omega)
        refine ⟨(b, Int.tmod a b), ?_, ⟨hb, g2⟩, ?_, ?_⟩
        · simp [s_ctPair_L3_step, T.run, h0, hp]
        · simp only; omega
        · simp only [g1])
  simp only [s_ctPair, s_ctPair_t, T.run, s_l1In_eq, Option.bind_some, lowP]
  cases h1 : inB 1 1000000 num with
  | false => simp
  | true =>
    cases h2 : inB 1 1000000 den with
    | false => simp
    | true =>
      rw [inB_iff] at h1 h2
      simp only [s_ctPair_L3] at h ⊢
      rw [h (num, den) ⟨by simp only; omega, by simp only; omega⟩]
      simp only [if_true, Option.bind_some, Bool.true_and, beq_int, Bool.not_true, Bool.false_eq_true, if_false]
      congr 1
      rw [decide_eq_decide]
      omega


def s_l1All_sh : FSh := ⟨[(.one (.sl (.int .i64) false false)), (.one (.si .i64)), (.one (.si .i64))], []⟩

def s_l1All_L2_sh : LSh := ⟨(fun ex => match ex with | .norm => [(1, none), (2, none), (9, none), (10, none), (11, none)] | .exit i => if i = 0 then [] else [] | .ret => [(6, none)]), [(1, (.one (.si .i64))), (2, (.one (.si .i64))), (9, (.one (.sl (.int .i64) false false))), (10, (.one (.si .i64))), (11, (.one (.si .i64)))], [], [⟨.ret, [(6, (.one .sb))], []⟩, ⟨(.exit 0), [], []⟩]⟩
noncomputable def s_l1All_L2_step : (Int × Int × List (Int) × Int × Int) → T ((Int × Int × List (Int) × Int × Int) ⊕ (Bool ⊕ Unit)) := fun (lo, hi, t9, t10, t11) =>
  (.test (decide (t11 < t10))
  (.test (decide ((0 ≤ t11) ∧ (t11 < ((List.length t9) : Int))))
   (.sub (t9[(Int.toNat t11)]?) fun z0 =>
    (.sub (s_l1In (z0, (lo, hi))) fun z1 =>
    (.test (! z1)
    (.ret (Sum.inr (Sum.inl false)))
    (.ret (Sum.inl (lo, (hi, (t9, (t10, (w64 (t11 + 1)))))))))))
   .fail)
  (.ret (Sum.inr (Sum.inr ()))))
noncomputable def s_l1All_L2 (v : (Int × Int × List (Int) × Int × Int)) : Option (Bool ⊕ Unit) := loopO (fun v => (s_l1All_L2_step v).run) v

def s_l1All_fo : List FO := [⟨[(.one .sb)], []⟩]
noncomputable def s_l1All_t : (List (Int) × Int × Int) → T Bool := fun (l, lo, hi) =>
  (.sub (s_l1All_L2 (lo, (hi, (l, (((List.length l) : Int), (0 : Int)))))) fun z0 =>
  (.test (Sum.isLeft z0)
  (.sub (Sum.getLeft? z0) fun z1 =>
   (.ret z1))
  (.sub (Sum.getRight? z0) fun z2 =>
   (.ret true))))
noncomputable def s_l1All (v : (List (Int) × Int × Int)) : Option Bool := (s_l1All_t v).run
noncomputable def s_l1All_E : TEnv := (E0.add1 n_s_l1In s_l1In_sh s_l1In_fo s_l1In)
theorem s_l1All_Eok : (s_l1All_E).OK := (E0ok.add1 s_l1In_ok)
noncomputable def s_l1All_told : Nat → Option SealT := fun id => if id = 2 then some (LSh.told s_l1All_L2_sh 0 (s_l1All_L2_step)) else none
theorem s_l1All_L2_ok : ToldOK Try.prog 0 (loopAt (bodyOf fn_s_l1All) [0]) (LSh.told s_l1All_L2_sh 0 (s_l1All_L2_step)) :=
  loop_ok (E := s_l1All_E) (s_l1All_Eok) (told := s_l1All_told) (l := s_l1All_L2_sh) (step := s_l1All_L2_step) (loopsOK_of (ls := []) (by kernel_rfl) trivial) (by kernel_rfl) (fun v => by kernel_rfl)
theorem s_l1All_ok : FOK Try.prog n_s_l1All s_l1All_sh s_l1All_fo s_l1All :=
  fn_ok (E := s_l1All_E) (s_l1All_Eok) (told := s_l1All_told) (fl := []) (c := bodyOf fn_s_l1All) (s := s_l1All_sh) (l := s_l1All_fo) (tree := s_l1All_t) fnat_s_l1All (by kernel_rfl) (by kernel_rfl) (by kernel_rfl) (loopsOK_of (ls := [loopAt (bodyOf fn_s_l1All) [0]]) (by kernel_rfl) ⟨.inr ⟨_, by kernel_rfl, s_l1All_L2_ok⟩, trivial⟩) (fun v => by kernel_rfl)

theorem s_l1All_eq (l : List Int) (lo hi : Int) (hl : l.length < 4611686018427387904) : s_l1All (l, lo, hi) = some (l.all (inB lo hi)) := by
  have h := loop_any (step := fun v => (s_l1All_L2_step v).run) (xs := l) (fun n => !inB lo hi n) (fun k => (lo, hi, l, (l.length : Int), (k : Int))) (.inl false) (.inr ())
    (fun k x hx => by
      have hk := getElem?_lt hx
      simp only [s_l1All_L2_step, T.run, s_l1In_eq, Option.bind_some, Int.toNat_natCast, hx]
      rw [w64_id (by omega) (by omega)]
      cases inB lo hi x <;> simp [hk])
    (by simp [s_l1All_L2_step, T.run])
  simp only [s_l1All, s_l1All_t, T.run, s_l1All_L2]
  simp only [Int.natCast_zero] at h
  rw [h, ← all_any]
  cases hb : l.any (fun n => !inB lo hi n) <;> simp


def s_ctGood_sh : FSh := ⟨[(.one (.sl (.int .i64) false false))], []⟩

def s_ctGood_fo : List FO := [⟨[(.one .sb)], []⟩]
noncomputable def s_ctGood_t : List (Int) → T Bool := fun list =>
  (.test (decide (((List.length list) : Int) ≤ 10))
  (.sub (s_l1All (list, ((-30), (30 : Int)))) fun z0 =>
   (.ret z0))
  (.ret false))
noncomputable def s_ctGood (v : List (Int)) : Option Bool := (s_ctGood_t v).run
noncomputable def s_ctGood_E : TEnv := (E0.add1 n_s_l1All s_l1All_sh s_l1All_fo s_l1All)
theorem s_ctGood_Eok : (s_ctGood_E).OK := (E0ok.add1 s_l1All_ok)
noncomputable def s_ctGood_told : Nat → Option SealT := fun id => none
theorem s_ctGood_ok : FOK Try.prog n_s_ctGood s_ctGood_sh s_ctGood_fo s_ctGood :=
  fn_ok (E := s_ctGood_E) (s_ctGood_Eok) (told := s_ctGood_told) (fl := []) (c := bodyOf fn_s_ctGood) (s := s_ctGood_sh) (l := s_ctGood_fo) (tree := s_ctGood_t) fnat_s_ctGood (by kernel_rfl) (by kernel_rfl) (by kernel_rfl) (loopsOK_of (ls := []) (by kernel_rfl) trivial) (fun v => by kernel_rfl)

theorem s_ctGood_eq (l : List Int) (hl : l.length < 4611686018427387904) : s_ctGood l = some (isTerms l) := by
  simp only [s_ctGood, s_ctGood_t, T.run, s_l1All_eq _ _ _ hl, Option.bind_some, isTerms, decide_eq_true_eq]
  by_cases h : l.length ≤ 10
  · rw [if_pos (by omega)]; simp [h]
  · rw [if_neg (by omega)]; simp [h]


def s_ctMinus_sh : FSh := ⟨[(.one (.si .i64)), (.one (.si .i64))], []⟩

def s_ctMinus_L2_sh : LSh := ⟨(fun ex => match ex with | .norm => [(0, none), (1, none), (6, none)] | .exit i => if i = 0 then [(4, none), (5, none)] else [] | .ret => [(4, none), (5, none)]), [(0, (.one (.si .i64))), (1, (.one (.si .i64))), (6, (.one (.rw 0 0)))], [(.row 0 (.int .i64))], [⟨.ret, [(4, (.one (.rw 0 0))), (5, (.one .sb))], [(.row 0 (.int .i64))]⟩]⟩
noncomputable def s_ctMinus_L2_step : ((Int × Int × Unit) × List (Int)) → T (((Int × Int × Unit) × List (Int)) ⊕ ((Unit × Bool) × List (Int))) := fun ((num, den, ()), out) =>
  (.test (decide (den ≠ 0))
  (.test (decide (1 ≤ (List.length (List.set (List.replicate 1 (0 : Int)) 0 (w64 (Int.tdiv (w64 ((w64 (num + den)) - 1)) den))))))
   (.test (decide ((0 + (List.length out)) ≤ (List.length out)))
    (.test (decide ((2 * (((List.length out) + (List.length (win (List.set (List.replicate 1 (0 : Int)) 0 (w64 (Int.tdiv (w64 ((w64 (num + den)) - 1)) den))) 0 1))) * 9)) ≤ 140737488355328))
     (.test (decide ((0 + ((List.length out) + (List.length (win (List.set (List.replicate 1 (0 : Int)) 0 (w64 (Int.tdiv (w64 ((w64 (num + den)) - 1)) den))) 0 1)))) ≤ (List.length ((win out 0 (List.length out)) ++ (win (List.set (List.replicate 1 (0 : Int)) 0 (w64 (Int.tdiv (w64 ((w64 (num + den)) - 1)) den))) 0 1)))))
      (.sub (s_ctGood (win ((win out 0 (List.length out)) ++ (win (List.set (List.replicate 1 (0 : Int)) 0 (w64 (Int.tdiv (w64 ((w64 (num + den)) - 1)) den))) 0 1)) 0 ((List.length out) + (List.length (win (List.set (List.replicate 1 (0 : Int)) 0 (w64 (Int.tdiv (w64 ((w64 (num + den)) - 1)) den))) 0 1))))) fun z0 =>
       (.test (! z0)
       (.test true
        (.ret (Sum.inr (((), false), ([] : List (Int)))))
        .fail)
       (.test ((w64 ((w64 ((w64 (Int.tdiv (w64 ((w64 (num + den)) - 1)) den)) * den)) - num)) == 0)
        (.test (decide ((0 = 0) ∧ (((List.length out) + (List.length (win (List.set (List.replicate 1 (0 : Int)) 0 (w64 (Int.tdiv (w64 ((w64 (num + den)) - 1)) den))) 0 1))) = (List.length ((win out 0 (List.length out)) ++ (win (List.set (List.replicate 1 (0 : Int)) 0 (w64 (Int.tdiv (w64 ((w64 (num + den)) - 1)) den))) 0 1))))))
         (.ret (Sum.inr (((), true), ((win out 0 (List.length out)) ++ (win (List.set (List.replicate 1 (0 : Int)) 0 (w64 (Int.tdiv (w64 ((w64 (num + den)) - 1)) den))) 0 1)))))
         .fail)
        (.test (decide ((0 = 0) ∧ (((List.length out) + (List.length (win (List.set (List.replicate 1 (0 : Int)) 0 (w64 (Int.tdiv (w64 ((w64 (num + den)) - 1)) den))) 0 1))) = (List.length ((win out 0 (List.length out)) ++ (win (List.set (List.replicate 1 (0 : Int)) 0 (w64 (Int.tdiv (w64 ((w64 (num + den)) - 1)) den))) 0 1))))))
         (.ret (Sum.inl ((den, ((w64 ((w64 ((w64 (Int.tdiv (w64 ((w64 (num + den)) - 1)) den)) * den)) - num)), ())), ((win out 0 (List.length out)) ++ (win (List.set (List.replicate 1 (0 : Int)) 0 (w64 (Int.tdiv (w64 ((w64 (num + den)) - 1)) den))) 0 1)))))
         .fail))))
      .fail)
     .fail)
    .fail)
   .fail)
  .fail)
noncomputable def s_ctMinus_L2 (v : ((Int × Int × Unit) × List (Int))) : Option ((Unit × Bool) × List (Int)) := loopO (fun v => (s_ctMinus_L2_step v).run) v

def s_ctMinus_fo : List FO := [⟨[(.one (.rw 0 0)), (.one .sb)], [(.row 0 (.int .i64))]⟩]
noncomputable def s_ctMinus_t : (Int × Int) → T ((Unit × Bool) × List (Int)) := fun (num, den) =>
  (.test true
  (.sub (s_ctMinus_L2 ((num, (den, ())), ([] : List (Int)))) fun z0 =>
   (.test (decide ((0 = 0) ∧ ((List.length z0.2) = (List.length z0.2))))
   (.ret (((), z0.1.2), z0.2))
   .fail))
  .fail)
noncomputable def s_ctMinus (v : (Int × Int)) : Option ((Unit × Bool) × List (Int)) := (s_ctMinus_t v).run
noncomputable def s_ctMinus_E : TEnv := (E0.add1 n_s_ctGood s_ctGood_sh s_ctGood_fo s_ctGood)
theorem s_ctMinus_Eok : (s_ctMinus_E).OK := (E0ok.add1 s_ctGood_ok)
noncomputable def s_ctMinus_told : Nat → Option SealT := fun id => if id = 2 then some (LSh.told s_ctMinus_L2_sh 0 (s_ctMinus_L2_step)) else none
theorem s_ctMinus_L2_ok : ToldOK Try.prog 0 (loopAt (bodyOf fn_s_ctMinus) [0]) (LSh.told s_ctMinus_L2_sh 0 (s_ctMinus_L2_step)) :=
  loop_ok (E := s_ctMinus_E) (s_ctMinus_Eok) (told := s_ctMinus_told) (l := s_ctMinus_L2_sh) (step := s_ctMinus_L2_step) (loopsOK_of (ls := []) (by kernel_rfl) trivial) (by kernel_rfl) (fun v => by kernel_rfl)
theorem s_ctMinus_ok : FOK Try.prog n_s_ctMinus s_ctMinus_sh s_ctMinus_fo s_ctMinus :=
  fn_ok (E := s_ctMinus_E) (s_ctMinus_Eok) (told := s_ctMinus_told) (fl := []) (c := bodyOf fn_s_ctMinus) (s := s_ctMinus_sh) (l := s_ctMinus_fo) (tree := s_ctMinus_t) fnat_s_ctMinus (by kernel_rfl) (by kernel_rfl) (by kernel_rfl) (loopsOK_of (ls := [loopAt (bodyOf fn_s_ctMinus) [0]]) (by kernel_rfl) ⟨.inr ⟨_, by kernel_rfl, s_ctMinus_L2_ok⟩, trivial⟩) (fun v => by kernel_rfl)

def s_MinusTerms_sh : FSh := ⟨[(.one (.si .i64)), (.one (.si .i64))], []⟩

def s_MinusTerms_fo : List FO := [⟨[(.one (.rw 0 0)), (.one .sb)], [(.row 0 (.int .i64))]⟩]
noncomputable def s_MinusTerms_t : (Int × Int) → T ((Unit × Bool) × List (Int)) := fun (num, den) =>
  (.sub (s_ctPair (num, den)) fun z0 =>
  (.test (! z0)
  (.test true
   (.ret (((), false), ([] : List (Int))))
   .fail)
  (.sub (s_ctMinus (num, den)) fun z1 =>
   (.test (decide ((0 = 0) ∧ ((List.length z1.2) = (List.length z1.2))))
   (.ret (((), z1.1.2), z1.2))
   .fail))))
noncomputable def s_MinusTerms (v : (Int × Int)) : Option ((Unit × Bool) × List (Int)) := (s_MinusTerms_t v).run
noncomputable def s_MinusTerms_E : TEnv := ((E0.add1 n_s_ctPair s_ctPair_sh s_ctPair_fo s_ctPair).add1 n_s_ctMinus s_ctMinus_sh s_ctMinus_fo s_ctMinus)
theorem s_MinusTerms_Eok : (s_MinusTerms_E).OK := ((E0ok.add1 s_ctPair_ok).add1 s_ctMinus_ok)
noncomputable def s_MinusTerms_told : Nat → Option SealT := fun id => none
theorem s_MinusTerms_ok : FOK Try.prog n_s_MinusTerms s_MinusTerms_sh s_MinusTerms_fo s_MinusTerms :=
  fn_ok (E := s_MinusTerms_E) (s_MinusTerms_Eok) (told := s_MinusTerms_told) (fl := []) (c := bodyOf fn_s_MinusTerms) (s := s_MinusTerms_sh) (l := s_MinusTerms_fo) (tree := s_MinusTerms_t) fnat_s_MinusTerms (by kernel_rfl) (by kernel_rfl) (by kernel_rfl) (loopsOK_of (ls := []) (by kernel_rfl) trivial) (fun v => by kernel_rfl)

def i_within_sh : FSh := ⟨[(.one (.si .i64)), (.one (.si .i64)), (.one (.si .i64))], []⟩

def i_within_fo : List FO := [⟨[(.one .sb)], []⟩]
noncomputable def i_within_t : (Int × Int × Int) → T Bool := fun (n, low, high) =>
  (.test (decide (n ≥ low))
  (.ret (decide (n ≤ high)))
  (.ret false))
noncomputable def i_within (v : (Int × Int × Int)) : Option Bool := (i_within_t v).run
noncomputable def i_within_E : TEnv := E0
theorem i_within_Eok : (i_within_E).OK := E0ok
noncomputable def i_within_told : Nat → Option SealT := fun id => none
theorem i_within_ok : FOK Try.prog n_i_within i_within_sh i_within_fo i_within :=
  fn_ok (E := i_within_E) (i_within_Eok) (told := i_within_told) (fl := []) (c := bodyOf fn_i_within) (s := i_within_sh) (l := i_within_fo) (tree := i_within_t) fnat_i_within (by kernel_rfl) (by kernel_rfl) (by kernel_rfl) (loopsOK_of (ls := []) (by kernel_rfl) trivial) (fun v => by kernel_rfl)

theorem i_within_eq (n low high : Int) : i_within (n, low, high) = some (inB low high n) := by
  simp only [i_within, i_within_t, T.run, ge_iff_le, decide_eq_true_eq, inB]
  by_cases h : low ≤ n <;> simp [h]


def i_divisor_sh : FSh := ⟨[(.one (.si .i64)), (.one (.si .i64))], []⟩

def i_divisor_L1_sh : LSh := ⟨(fun ex => match ex with | .norm => [(0, none), (1, none)] | .exit i => if i = 0 then [(0, none)] else [] | .ret => [(4, none)]), [(0, (.one (.si .i64))), (1, (.one (.si .i64)))], [], [⟨(.exit 0), [(0, (.one (.si .i64)))], []⟩]⟩
noncomputable def i_divisor_L1_step : (Int × Int) → T ((Int × Int) ⊕ Int) := fun (a, b) =>
  (.test (b != 0)
  (.test (decide (b ≠ 0))
   (.ret (Sum.inl (b, (Int.tmod a b))))
   .fail)
  (.ret (Sum.inr a)))
noncomputable def i_divisor_L1 (v : (Int × Int)) : Option Int := loopO (fun v => (i_divisor_L1_step v).run) v

def i_divisor_fo : List FO := [⟨[(.one (.si .i64))], []⟩]
noncomputable def i_divisor_t : (Int × Int) → T Int := fun (a, b) =>
  (.sub (i_divisor_L1 (a, b)) fun z0 =>
  (.ret z0))
noncomputable def i_divisor (v : (Int × Int)) : Option Int := (i_divisor_t v).run
noncomputable def i_divisor_E : TEnv := E0
theorem i_divisor_Eok : (i_divisor_E).OK := E0ok
noncomputable def i_divisor_told : Nat → Option SealT := fun id => if id = 1 then some (LSh.told i_divisor_L1_sh 0 (i_divisor_L1_step)) else none
theorem i_divisor_L1_ok : ToldOK Try.prog 0 (loopAt (bodyOf fn_i_divisor) [0]) (LSh.told i_divisor_L1_sh 0 (i_divisor_L1_step)) :=
  loop_ok (E := i_divisor_E) (i_divisor_Eok) (told := i_divisor_told) (l := i_divisor_L1_sh) (step := i_divisor_L1_step) (loopsOK_of (ls := []) (by kernel_rfl) trivial) (by kernel_rfl) (fun v => by kernel_rfl)
theorem i_divisor_ok : FOK Try.prog n_i_divisor i_divisor_sh i_divisor_fo i_divisor :=
  fn_ok (E := i_divisor_E) (i_divisor_Eok) (told := i_divisor_told) (fl := []) (c := bodyOf fn_i_divisor) (s := i_divisor_sh) (l := i_divisor_fo) (tree := i_divisor_t) fnat_i_divisor (by kernel_rfl) (by kernel_rfl) (by kernel_rfl) (loopsOK_of (ls := [loopAt (bodyOf fn_i_divisor) [0]]) (by kernel_rfl) ⟨.inr ⟨_, by kernel_rfl, i_divisor_L1_ok⟩, trivial⟩) (fun v => by kernel_rfl)

theorem i_divisor_eq (a b : Int) (ha : 0 ≤ a) (hb : 0 ≤ b) : i_divisor (a, b) = some ((Nat.gcd a.toNat b.toNat : Nat) : Int) := by
  have h := loop_eq (step := fun v => (i_divisor_L1_step v).run) (fun v => v.2.toNat) (fun v => 0 ≤ v.1 ∧ 0 ≤ v.2) (fun v => ((Nat.gcd v.1.toNat v.2.toNat : Nat) : Int))
    (by
      rintro ⟨a, b⟩ ⟨ha, hb⟩
      simp only at ha hb
      by_cases h0 : b = 0
      · right
        subst h0
        have : ((a.toNat : Nat) : Int) = a := Int.toNat_of_nonneg ha
        simp [i_divisor_L1_step, T.run, this]
      · left
        obtain ⟨g1, g2, g3⟩ := gcd_toNat_step ha (show 0 < b by omega)
        refine ⟨(b, Int.tmod a b), ?_, ⟨hb, g2⟩, ?_, ?_⟩
        · simp [i_divisor_L1_step, T.run, h0]
        · simp only; omega
        · simp only [g1]) (a, b) ⟨ha, hb⟩
  simp only [i_divisor, i_divisor_t, T.run, i_divisor_L1]
  rw [h]; rfl


def i_isLowest_sh : FSh := ⟨[(.one (.si .i64)), (.one (.si .i64))], []⟩

def i_isLowest_fo : List FO := [⟨[(.one .sb)], []⟩]
noncomputable def i_isLowest_t : (Int × Int) → T Bool := fun (num, den) =>
  (.sub (i_within (num, ((1 : Int), (1000000 : Int)))) fun z0 =>
  (.test z0
  (.sub (i_within (den, ((1 : Int), (1000000 : Int)))) fun z1 =>
   (.test z1
   (.sub (i_divisor (num, den)) fun z2 =>
    (.ret (z2 == 1)))
   (.ret false)))
  (.ret false)))
noncomputable def i_isLowest (v : (Int × Int)) : Option Bool := (i_isLowest_t v).run
noncomputable def i_isLowest_E : TEnv := ((E0.add1 n_i_within i_within_sh i_within_fo i_within).add1 n_i_divisor i_divisor_sh i_divisor_fo i_divisor)
theorem i_isLowest_Eok : (i_isLowest_E).OK := ((E0ok.add1 i_within_ok).add1 i_divisor_ok)
noncomputable def i_isLowest_told : Nat → Option SealT := fun id => none
theorem i_isLowest_ok : FOK Try.prog n_i_isLowest i_isLowest_sh i_isLowest_fo i_isLowest :=
  fn_ok (E := i_isLowest_E) (i_isLowest_Eok) (told := i_isLowest_told) (fl := []) (c := bodyOf fn_i_isLowest) (s := i_isLowest_sh) (l := i_isLowest_fo) (tree := i_isLowest_t) fnat_i_isLowest (by kernel_rfl) (by kernel_rfl) (by kernel_rfl) (loopsOK_of (ls := []) (by kernel_rfl) trivial) (fun v => by kernel_rfl)

theorem i_isLowest_eq (num den : Int) : i_isLowest (num, den) = some (lowP num den) := by
  simp only [i_isLowest, i_isLowest_t, T.run, i_within_eq, Option.bind_some, lowP]
  cases h1 : inB 1 1000000 num with
  | false => simp
  | true =>
    cases h2 : inB 1 1000000 den with
    | false => simp
    | true =>
      rw [inB_iff] at h1 h2
      rw [i_divisor_eq _ _ (by omega) (by omega)]
      simp only [if_true, Option.bind_some, Bool.true_and, beq_int]
      congr 1
      rw [decide_eq_decide]
      omega


def i_IsTermList_1_sh : FSh := ⟨[(.one (.si .i64))], []⟩

def i_IsTermList_1_fo : List FO := [⟨[(.one .sb)], []⟩]
noncomputable def i_IsTermList_1_t : Int → T Bool := fun n =>
  (.sub (i_within (n, ((-30), (30 : Int)))) fun z0 =>
  (.ret (! z0)))
noncomputable def i_IsTermList_1 (v : Int) : Option Bool := (i_IsTermList_1_t v).run
noncomputable def i_IsTermList_1_E : TEnv := (E0.add1 n_i_within i_within_sh i_within_fo i_within)
theorem i_IsTermList_1_Eok : (i_IsTermList_1_E).OK := (E0ok.add1 i_within_ok)
noncomputable def i_IsTermList_1_told : Nat → Option SealT := fun id => none
theorem i_IsTermList_1_ok : FOK Try.prog n_i_IsTermList_1 i_IsTermList_1_sh i_IsTermList_1_fo i_IsTermList_1 :=
  fn_ok (E := i_IsTermList_1_E) (i_IsTermList_1_Eok) (told := i_IsTermList_1_told) (fl := []) (c := bodyOf fn_i_IsTermList_1) (s := i_IsTermList_1_sh) (l := i_IsTermList_1_fo) (tree := i_IsTermList_1_t) fnat_i_IsTermList_1 (by kernel_rfl) (by kernel_rfl) (by kernel_rfl) (loopsOK_of (ls := []) (by kernel_rfl) trivial) (fun v => by kernel_rfl)

theorem i_IsTermList_1_eq (k : Int) : i_IsTermList_1 k = some (!inB (-30) 30 k) := by
  simp only [i_IsTermList_1, i_IsTermList_1_t, T.run, i_within_eq, Option.bind_some]


def slices_IndexFunc_int__i_IsTermList_1_sh : FSh := ⟨[(.one (.sl (.int .i64) false false)), (.one (.fn n_i_IsTermList_1))], []⟩

def slices_IndexFunc_int__i_IsTermList_1_L2_sh : LSh := ⟨(fun ex => match ex with | .norm => [(0, none), (1, none), (7, none), (8, none)] | .exit i => if i = 0 then [] else [] | .ret => [(4, none)]), [(0, (.one (.sl (.int .i64) false false))), (1, (.one (.fn n_i_IsTermList_1))), (7, (.one (.si .i64))), (8, (.one (.si .i64)))], [], [⟨.ret, [(4, (.one (.si .i64)))], []⟩, ⟨(.exit 0), [], []⟩]⟩
noncomputable def slices_IndexFunc_int__i_IsTermList_1_L2_step : (List (Int) × Unit × Int × Int) → T ((List (Int) × Unit × Int × Int) ⊕ (Int ⊕ Unit)) := fun (s, (), t7, t8) =>
  (.test (decide (t8 < t7))
  (.test (decide ((0 ≤ t8) ∧ (t8 < ((List.length s) : Int))))
   (.sub (s[(Int.toNat t8)]?) fun z0 =>
    (.sub (i_IsTermList_1 z0) fun z1 =>
    (.test z1
    (.ret (Sum.inr (Sum.inl t8)))
    (.ret (Sum.inl (s, ((), (t7, (w64 (t8 + 1))))))))))
   .fail)
  (.ret (Sum.inr (Sum.inr ()))))
noncomputable def slices_IndexFunc_int__i_IsTermList_1_L2 (v : (List (Int) × Unit × Int × Int)) : Option (Int ⊕ Unit) := loopO (fun v => (slices_IndexFunc_int__i_IsTermList_1_L2_step v).run) v

def slices_IndexFunc_int__i_IsTermList_1_fo : List FO := [⟨[(.one (.si .i64))], []⟩]
noncomputable def slices_IndexFunc_int__i_IsTermList_1_t : (List (Int) × Unit) → T Int := fun (s, ()) =>
  (.sub (slices_IndexFunc_int__i_IsTermList_1_L2 (s, ((), (((List.length s) : Int), (0 : Int))))) fun z0 =>
  (.test (Sum.isLeft z0)
  (.sub (Sum.getLeft? z0) fun z1 =>
   (.ret z1))
  (.sub (Sum.getRight? z0) fun z2 =>
   (.ret (-1)))))
noncomputable def slices_IndexFunc_int__i_IsTermList_1 (v : (List (Int) × Unit)) : Option Int := (slices_IndexFunc_int__i_IsTermList_1_t v).run
noncomputable def slices_IndexFunc_int__i_IsTermList_1_E : TEnv := (E0.add1 n_i_IsTermList_1 i_IsTermList_1_sh i_IsTermList_1_fo i_IsTermList_1)
theorem slices_IndexFunc_int__i_IsTermList_1_Eok : (slices_IndexFunc_int__i_IsTermList_1_E).OK := (E0ok.add1 i_IsTermList_1_ok)
noncomputable def slices_IndexFunc_int__i_IsTermList_1_told : Nat → Option SealT := fun id => if id = 2 then some (LSh.told slices_IndexFunc_int__i_IsTermList_1_L2_sh 0 (slices_IndexFunc_int__i_IsTermList_1_L2_step)) else none
theorem slices_IndexFunc_int__i_IsTermList_1_L2_ok : ToldOK Try.prog 0 (loopAt (bodyOf fn_slices_IndexFunc_int) [0]) (LSh.told slices_IndexFunc_int__i_IsTermList_1_L2_sh 0 (slices_IndexFunc_int__i_IsTermList_1_L2_step)) :=
  loop_ok (E := slices_IndexFunc_int__i_IsTermList_1_E) (slices_IndexFunc_int__i_IsTermList_1_Eok) (told := slices_IndexFunc_int__i_IsTermList_1_told) (l := slices_IndexFunc_int__i_IsTermList_1_L2_sh) (step := slices_IndexFunc_int__i_IsTermList_1_L2_step) (loopsOK_of (ls := []) (by kernel_rfl) trivial) (by kernel_rfl) (fun v => by kernel_rfl)
theorem slices_IndexFunc_int__i_IsTermList_1_ok : FOK Try.prog n_slices_IndexFunc_int slices_IndexFunc_int__i_IsTermList_1_sh slices_IndexFunc_int__i_IsTermList_1_fo slices_IndexFunc_int__i_IsTermList_1 :=
  fn_ok (E := slices_IndexFunc_int__i_IsTermList_1_E) (slices_IndexFunc_int__i_IsTermList_1_Eok) (told := slices_IndexFunc_int__i_IsTermList_1_told) (fl := []) (c := bodyOf fn_slices_IndexFunc_int) (s := slices_IndexFunc_int__i_IsTermList_1_sh) (l := slices_IndexFunc_int__i_IsTermList_1_fo) (tree := slices_IndexFunc_int__i_IsTermList_1_t) fnat_slices_IndexFunc_int (by kernel_rfl) (by kernel_rfl) (by kernel_rfl) (loopsOK_of (ls := [loopAt (bodyOf fn_slices_IndexFunc_int) [0]]) (by kernel_rfl) ⟨.inr ⟨_, by kernel_rfl, slices_IndexFunc_int__i_IsTermList_1_L2_ok⟩, trivial⟩) (fun v => by kernel_rfl)

theorem slices_IndexFunc_int__i_IsTermList_1_eq (l : List Int) (hl : l.length < 4611686018427387904) : slices_IndexFunc_int__i_IsTermList_1 (l, ()) = some (idxI (fun k => !inB (-30) 30 k) l) := by
  have h := loop_find (step := fun v => (slices_IndexFunc_int__i_IsTermList_1_L2_step v).run) (xs := l) (fun k => !inB (-30) 30 k) (fun k => (l, (), (l.length : Int), (k : Int))) (fun k => .inl (k : Int)) (.inr ())
    (fun k x hx => by
      have hk := getElem?_lt hx
      simp only [slices_IndexFunc_int__i_IsTermList_1_L2_step, T.run, i_IsTermList_1_eq, Option.bind_some, Int.toNat_natCast, hx]
      rw [w64_id (by omega) (by omega)]
      cases inB (-30) 30 x <;> simp [hk])
    (by simp [slices_IndexFunc_int__i_IsTermList_1_L2_step, T.run])
  simp only [slices_IndexFunc_int__i_IsTermList_1, slices_IndexFunc_int__i_IsTermList_1_t, T.run, slices_IndexFunc_int__i_IsTermList_1_L2]
  simp only [Int.natCast_zero] at h
  rw [h, idxI]
  cases l.findIdx? (fun k => !inB (-30) 30 k) <;> simp


def slices_ContainsFunc_int__i_IsTermList_1_sh : FSh := ⟨[(.one (.sl (.int .i64) false false)), (.one (.fn n_i_IsTermList_1))], []⟩

def slices_ContainsFunc_int__i_IsTermList_1_fo : List FO := [⟨[(.one .sb)], []⟩]
noncomputable def slices_ContainsFunc_int__i_IsTermList_1_t : (List (Int) × Unit) → T Bool := fun (s, ()) =>
  (.sub (slices_IndexFunc_int__i_IsTermList_1 (s, ())) fun z0 =>
  (.ret (decide (z0 ≥ 0))))
noncomputable def slices_ContainsFunc_int__i_IsTermList_1 (v : (List (Int) × Unit)) : Option Bool := (slices_ContainsFunc_int__i_IsTermList_1_t v).run
noncomputable def slices_ContainsFunc_int__i_IsTermList_1_E : TEnv := (E0.add1 n_slices_IndexFunc_int slices_IndexFunc_int__i_IsTermList_1_sh slices_IndexFunc_int__i_IsTermList_1_fo slices_IndexFunc_int__i_IsTermList_1)
theorem slices_ContainsFunc_int__i_IsTermList_1_Eok : (slices_ContainsFunc_int__i_IsTermList_1_E).OK := (E0ok.add1 slices_IndexFunc_int__i_IsTermList_1_ok)
noncomputable def slices_ContainsFunc_int__i_IsTermList_1_told : Nat → Option SealT := fun id => none
theorem slices_ContainsFunc_int__i_IsTermList_1_ok : FOK Try.prog n_slices_ContainsFunc_int slices_ContainsFunc_int__i_IsTermList_1_sh slices_ContainsFunc_int__i_IsTermList_1_fo slices_ContainsFunc_int__i_IsTermList_1 :=
  fn_ok (E := slices_ContainsFunc_int__i_IsTermList_1_E) (slices_ContainsFunc_int__i_IsTermList_1_Eok) (told := slices_ContainsFunc_int__i_IsTermList_1_told) (fl := []) (c := bodyOf fn_slices_ContainsFunc_int) (s := slices_ContainsFunc_int__i_IsTermList_1_sh) (l := slices_ContainsFunc_int__i_IsTermList_1_fo) (tree := slices_ContainsFunc_int__i_IsTermList_1_t) fnat_slices_ContainsFunc_int (by kernel_rfl) (by kernel_rfl) (by kernel_rfl) (loopsOK_of (ls := []) (by kernel_rfl) trivial) (fun v => by kernel_rfl)

theorem slices_ContainsFunc_int__i_IsTermList_1_eq (l : List Int) (hl : l.length < 4611686018427387904) : slices_ContainsFunc_int__i_IsTermList_1 (l, ()) = some (l.any (fun k => !inB (-30) 30 k)) := by
  simp only [slices_ContainsFunc_int__i_IsTermList_1, slices_ContainsFunc_int__i_IsTermList_1_t, T.run, slices_IndexFunc_int__i_IsTermList_1_eq _ hl, Option.bind_some, idxI_ge]


def i_IsTermList_sh : FSh := ⟨[(.one (.sl (.int .i64) false false))], []⟩

def i_IsTermList_fo : List FO := [⟨[(.one .sb)], []⟩]
noncomputable def i_IsTermList_t : List (Int) → T Bool := fun list =>
  (.test (decide (((List.length list) : Int) ≤ 10))
  (.sub (slices_ContainsFunc_int__i_IsTermList_1 (list, ())) fun z0 =>
   (.ret (! z0)))
  (.ret false))
noncomputable def i_IsTermList (v : List (Int)) : Option Bool := (i_IsTermList_t v).run
noncomputable def i_IsTermList_E : TEnv := (E0.add1 n_slices_ContainsFunc_int slices_ContainsFunc_int__i_IsTermList_1_sh slices_ContainsFunc_int__i_IsTermList_1_fo slices_ContainsFunc_int__i_IsTermList_1)
theorem i_IsTermList_Eok : (i_IsTermList_E).OK := (E0ok.add1 slices_ContainsFunc_int__i_IsTermList_1_ok)
noncomputable def i_IsTermList_told : Nat → Option SealT := fun id => none
theorem i_IsTermList_ok : FOK Try.prog n_i_IsTermList i_IsTermList_sh i_IsTermList_fo i_IsTermList :=
  fn_ok (E := i_IsTermList_E) (i_IsTermList_Eok) (told := i_IsTermList_told) (fl := []) (c := bodyOf fn_i_IsTermList) (s := i_IsTermList_sh) (l := i_IsTermList_fo) (tree := i_IsTermList_t) fnat_i_IsTermList (by kernel_rfl) (by kernel_rfl) (by kernel_rfl) (loopsOK_of (ls := []) (by kernel_rfl) trivial) (fun v => by kernel_rfl)

theorem i_IsTermList_eq (l : List Int) (hl : l.length < 4611686018427387904) : i_IsTermList l = some (isTerms l) := by
  simp only [i_IsTermList, i_IsTermList_t, T.run, slices_ContainsFunc_int__i_IsTermList_1_eq _ hl, Option.bind_some, isTerms, decide_eq_true_eq, all_any]
  by_cases h : l.length ≤ 10
  · rw [if_pos (by omega)]; simp [h]
  · rw [if_neg (by omega)]; simp [h]


def i_minusTerms_sh : FSh := ⟨[(.one (.si .i64)), (.one (.si .i64))], []⟩

def i_minusTerms_L2_sh : LSh := ⟨(fun ex => match ex with | .norm => [(0, none), (1, none), (6, none)] | .exit i => if i = 0 then [(6, none)] else [] | .ret => [(4, none), (5, none)]), [(0, (.one (.si .i64))), (1, (.one (.si .i64))), (6, (.one (.rw 0 0)))], [(.row 0 (.int .i64))], [⟨(.exit 0), [(6, (.one (.rw 0 0)))], [(.row 0 (.int .i64))]⟩]⟩
noncomputable def i_minusTerms_L2_step : ((Int × Int × Unit) × List (Int)) → T (((Int × Int × Unit) × List (Int)) ⊕ (Unit × List (Int))) := fun ((num, den, ()), out) =>
  (.test (decide (((List.length out) : Int) ≤ 10))
  (.test (decide (den ≠ 0))
   (.test (decide (1 ≤ (List.length (List.set (List.replicate 1 (0 : Int)) 0 (w64 (Int.tdiv (w64 ((w64 (num + den)) - 1)) den))))))
    (.test (decide ((0 + (List.length out)) ≤ (List.length out)))
     (.test (decide ((2 * (((List.length out) + (List.length (win (List.set (List.replicate 1 (0 : Int)) 0 (w64 (Int.tdiv (w64 ((w64 (num + den)) - 1)) den))) 0 1))) * 9)) ≤ 140737488355328))
      (.test ((w64 ((w64 (Int.tdiv (w64 ((w64 (num + den)) - 1)) den)) * den)) == num)
       (.test (decide ((0 = 0) ∧ (((List.length out) + (List.length (win (List.set (List.replicate 1 (0 : Int)) 0 (w64 (Int.tdiv (w64 ((w64 (num + den)) - 1)) den))) 0 1))) = (List.length ((win out 0 (List.length out)) ++ (win (List.set (List.replicate 1 (0 : Int)) 0 (w64 (Int.tdiv (w64 ((w64 (num + den)) - 1)) den))) 0 1))))))
        (.ret (Sum.inr ((), ((win out 0 (List.length out)) ++ (win (List.set (List.replicate 1 (0 : Int)) 0 (w64 (Int.tdiv (w64 ((w64 (num + den)) - 1)) den))) 0 1)))))
        .fail)
       (.test (decide ((0 = 0) ∧ (((List.length out) + (List.length (win (List.set (List.replicate 1 (0 : Int)) 0 (w64 (Int.tdiv (w64 ((w64 (num + den)) - 1)) den))) 0 1))) = (List.length ((win out 0 (List.length out)) ++ (win (List.set (List.replicate 1 (0 : Int)) 0 (w64 (Int.tdiv (w64 ((w64 (num + den)) - 1)) den))) 0 1))))))
        (.ret (Sum.inl ((den, ((w64 ((w64 ((w64 (Int.tdiv (w64 ((w64 (num + den)) - 1)) den)) * den)) - num)), ())), ((win out 0 (List.length out)) ++ (win (List.set (List.replicate 1 (0 : Int)) 0 (w64 (Int.tdiv (w64 ((w64 (num + den)) - 1)) den))) 0 1)))))
        .fail))
      .fail)
     .fail)
    .fail)
   .fail)
  (.test (decide ((0 = 0) ∧ ((List.length out) = (List.length out))))
   (.ret (Sum.inr ((), out)))
   .fail))
noncomputable def i_minusTerms_L2 (v : ((Int × Int × Unit) × List (Int))) : Option (Unit × List (Int)) := loopO (fun v => (i_minusTerms_L2_step v).run) v

def i_minusTerms_fo : List FO := [⟨[(.one (.rw 0 0)), (.one .sb)], [(.row 0 (.int .i64))]⟩]
noncomputable def i_minusTerms_t : (Int × Int) → T ((Unit × Bool) × List (Int)) := fun (num, den) =>
  (.test true
  (.sub (i_minusTerms_L2 ((num, (den, ())), (List.replicate 0 (0 : Int)))) fun z0 =>
   (.test (decide ((0 + (List.length z0.2)) ≤ (List.length z0.2)))
   (.sub (i_IsTermList (win z0.2 0 (List.length z0.2))) fun z1 =>
    (.test (decide ((0 = 0) ∧ ((List.length z0.2) = (List.length z0.2))))
    (.ret (((), z1), z0.2))
    .fail))
   .fail))
  .fail)
noncomputable def i_minusTerms (v : (Int × Int)) : Option ((Unit × Bool) × List (Int)) := (i_minusTerms_t v).run
noncomputable def i_minusTerms_E : TEnv := (E0.add1 n_i_IsTermList i_IsTermList_sh i_IsTermList_fo i_IsTermList)
theorem i_minusTerms_Eok : (i_minusTerms_E).OK := (E0ok.add1 i_IsTermList_ok)
noncomputable def i_minusTerms_told : Nat → Option SealT := fun id => if id = 2 then some (LSh.told i_minusTerms_L2_sh 0 (i_minusTerms_L2_step)) else none
theorem i_minusTerms_L2_ok : ToldOK Try.prog 0 (loopAt (bodyOf fn_i_minusTerms) [0]) (LSh.told i_minusTerms_L2_sh 0 (i_minusTerms_L2_step)) :=
  loop_ok (E := i_minusTerms_E) (i_minusTerms_Eok) (told := i_minusTerms_told) (l := i_minusTerms_L2_sh) (step := i_minusTerms_L2_step) (loopsOK_of (ls := []) (by kernel_rfl) trivial) (by kernel_rfl) (fun v => by kernel_rfl)
theorem i_minusTerms_ok : FOK Try.prog n_i_minusTerms i_minusTerms_sh i_minusTerms_fo i_minusTerms :=
  fn_ok (E := i_minusTerms_E) (i_minusTerms_Eok) (told := i_minusTerms_told) (fl := []) (c := bodyOf fn_i_minusTerms) (s := i_minusTerms_sh) (l := i_minusTerms_fo) (tree := i_minusTerms_t) fnat_i_minusTerms (by kernel_rfl) (by kernel_rfl) (by kernel_rfl) (loopsOK_of (ls := [loopAt (bodyOf fn_i_minusTerms) [0]]) (by kernel_rfl) ⟨.inr ⟨_, by kernel_rfl, i_minusTerms_L2_ok⟩, trivial⟩) (fun v => by kernel_rfl)

theorem minus_loops : ∀ (n : Nat) (num den : Int) (out : List Int), out.length + n = 11 → 1 ≤ num → num ≤ 1000000000000000 → 1 ≤ den → den ≤ 1000000000000000 →
    ∃ ext : List Int, (out ++ ext).length ≤ 11 ∧ i_minusTerms_L2 ((num, (den, ())), out) = some ((), out ++ ext) ∧
      (out = [] ∨ isTerms out = true → s_ctMinus_L2 ((num, (den, ())), out) = some (if isTerms (out ++ ext) = true then (((), true), out ++ ext) else (((), false), []))) := by
  intro n
  induction n with
  | zero =>
    intro num den out hn h1 h2 h3 h4
    refine ⟨[], by simp; omega, ?_, ?_⟩
    · simp only [i_minusTerms_L2]
      have : ¬ ((out.length : Int) ≤ 10) := by omega
      exact loopO_done (by simp [i_minusTerms_L2_step, T.run, this])
    · rintro (rfl | ho)
      · simp at hn
      · rw [isTerms_iff] at ho; omega
  | succ n ih =>
    intro num den out hn h1 h2 h3 h4
    obtain ⟨q1, q2, q3, q4⟩ := upQ_B h1 h3
    have hd0 : den ≠ 0 := by omega
    have w1 : w64 (num + den) = num + den := w64_id (by omega) (by omega)
    have w2 : w64 (num + den - 1) = num + den - 1 := w64_id (by omega) (by omega)
    have w3 : Int.tdiv (num + den - 1) den = upQ num den := Int.tdiv_eq_ediv_of_nonneg (by omega)
    have w4 : w64 (upQ num den) = upQ num den := w64_id (by omega) (by omega)
    have w5 : w64 (upQ num den * den) = upQ num den * den := w64_id (by omega) (by omega)
    have w6 : w64 (upQ num den * den - num) = upQ num den * den - num := w64_id (by omega) (by omega)
    have hlen : 2 * ((out.length + 1) * 9) ≤ 140737488355328 := by omega
    have hle : (out.length : Int) ≤ 10 := by omega
    have hl : (out ++ [upQ num den]).length < 4611686018427387904 := by simp; omega
    have hw : win (out ++ [upQ num den]) 0 (out.length + 1) = out ++ [upQ num den] := by
      have := win_all (out ++ [upQ num den]); rwa [List.length_append] at this
    have hst : (s_ctMinus_L2_step ((num, (den, ())), out)).run = some (if isTerms (out ++ [upQ num den]) then (if upQ num den * den = num then .inr (((), true), out ++ [upQ num den]) else .inl ((den, (upQ num den * den - num, ())), out ++ [upQ num den])) else .inr (((), false), [])) := by
      simp only [s_ctMinus_L2_step, T.run, w1, w2, w3, w4, w5, w6, win_all, win_one, List.length_append, List.length_singleton, hw, s_ctGood_eq _ hl]
      have he : (upQ num den * den - num == 0) = decide (upQ num den * den = num) := by rw [beq_int, decide_eq_decide]; omega
      rw [he]
      cases isTerms (out ++ [upQ num den]) with
      | false => simp [hlen, hd0]
      | true => by_cases hz : upQ num den * den = num <;> simp [hlen, hd0, hz]
    by_cases hz : upQ num den * den = num
    · refine ⟨[upQ num den], by simp; omega, ?_, ?_⟩
      · simp only [i_minusTerms_L2]
        have w7 : w64 num = num := w64_id (by omega) (by omega)
        exact loopO_done (by simp [i_minusTerms_L2_step, T.run, w1, w2, w3, w4, w5, w6, w7, win_all, win_one, win_sing, hlen, hle, hd0, hz])
      · intro ho
        simp only [s_ctMinus_L2]
        rw [if_pos hz] at hst
        refine loopO_done (hst.trans ?_)
        cases isTerms (out ++ [upQ num den]) <;> rfl
    · obtain ⟨ext, e1, e2, e3⟩ := ih den (upQ num den * den - num) (out ++ [upQ num den]) (by simp; omega) h3 h4 (by omega) (by omega)
      have es : out ++ [upQ num den] ++ ext = out ++ (upQ num den :: ext) := by simp
      rw [es] at e1 e2 e3
      refine ⟨upQ num den :: ext, e1, ?_, ?_⟩
      · simp only [i_minusTerms_L2] at e2 ⊢
        rw [← e2]
        exact loopO_next (by simp [i_minusTerms_L2_step, T.run, w1, w2, w3, w4, w5, w6, win_all, win_one, win_sing, hlen, hle, hd0, hz])
      · intro ho
        rw [if_neg hz] at hst
        simp only [s_ctMinus_L2] at e3 ⊢
        cases ht : isTerms (out ++ [upQ num den]) with
        | true =>
          rw [ht] at hst
          rw [loopO_next hst]
          exact e3 (Or.inr ht)
        | false =>
          rw [ht] at hst
          have : ¬ (isTerms (out ++ (upQ num den :: ext)) = true) := by
            intro h; rw [← es] at h; have := isTerms_snoc h; rw [ht] at this; cases this
          rw [if_neg this]
          exact loopO_done hst
theorem minus_both (num den : Int) (h1 : 1 ≤ num) (h2 : num ≤ 1000000000000000) (h3 : 1 ≤ den) (h4 : den ≤ 1000000000000000) : ∃ ext : List Int, ext.length ≤ 11 ∧
    i_minusTerms (num, den) = some (((), isTerms ext), ext) ∧ s_ctMinus (num, den) = some (if isTerms ext = true then (((), true), ext) else (((), false), [])) := by
  obtain ⟨ext, e1, e2, e3⟩ := minus_loops 11 num den [] rfl h1 h2 h3 h4
  rw [List.nil_append] at e1 e2 e3
  have e3 := e3 (Or.inl rfl)
  refine ⟨ext, e1, ?_, ?_⟩
  · simp [i_minusTerms, i_minusTerms_t, T.run, e2, win_all, i_IsTermList_eq ext (by omega)]
  · simp only [s_ctMinus, s_ctMinus_t, T.run, e3]
    cases isTerms ext <;> simp


def i_listed_sh : FSh := ⟨[(.one (.rw 0 0)), (.one .sb)], [(.row 0 (.int .i64))]⟩

def i_listed_fo : List FO := [⟨[(.one (.rw 1 0)), (.one .sb)], [(.row 0 (.int .i64)), (.row 0 (.int .i64))]⟩, ⟨[(.one (.rw 0 0)), (.one .sb)], [(.row 0 (.int .i64))]⟩]
noncomputable def i_listed_t : ((Unit × Bool) × List (Int)) → T (((Unit × Bool) × (List (Int) × List (Int))) ⊕ ((Unit × Bool) × List (Int))) := fun (((), ok), list) =>
  (.test (! ok)
  (.test (decide ((0 = 0) ∧ (0 = (List.length ([] : List (Int))))))
   (.ret (Sum.inl (((), false), (list, ([] : List (Int))))))
   .fail)
  (.test (decide ((0 = 0) ∧ ((List.length list) = (List.length list))))
   (.ret (Sum.inr (((), true), list)))
   .fail))
noncomputable def i_listed (v : ((Unit × Bool) × List (Int))) : Option (((Unit × Bool) × (List (Int) × List (Int))) ⊕ ((Unit × Bool) × List (Int))) := (i_listed_t v).run
noncomputable def i_listed_E : TEnv := E0
theorem i_listed_Eok : (i_listed_E).OK := E0ok
noncomputable def i_listed_told : Nat → Option SealT := fun id => none
theorem i_listed_ok : FOK Try.prog n_i_listed i_listed_sh i_listed_fo i_listed :=
  fn_ok (E := i_listed_E) (i_listed_Eok) (told := i_listed_told) (fl := []) (c := bodyOf fn_i_listed) (s := i_listed_sh) (l := i_listed_fo) (tree := i_listed_t) fnat_i_listed (by kernel_rfl) (by kernel_rfl) (by kernel_rfl) (loopsOK_of (ls := []) (by kernel_rfl) trivial) (fun v => by kernel_rfl)

theorem i_listed_eq (ok : Bool) (l : List Int) : i_listed (((), ok), l) = some (if ok then .inr (((), true), l) else .inl (((), false), (l, []))) := by
  cases ok <;> simp [i_listed, i_listed_t, T.run]


def i_MinusTerms_sh : FSh := ⟨[(.one (.si .i64)), (.one (.si .i64))], []⟩

def i_MinusTerms_fo : List FO := [⟨[(.one (.rw 0 0)), (.one .sb)], [(.row 0 (.int .i64))]⟩]
noncomputable def i_MinusTerms_t : (Int × Int) → T ((Unit × Bool) × List (Int)) := fun (num, den) =>
  (.sub (i_isLowest (num, den)) fun z0 =>
  (.test (! z0)
  (.test true
   (.ret (((), false), ([] : List (Int))))
   .fail)
  (.sub (i_minusTerms (num, den)) fun z1 =>
   (.test (decide ((0 = 0) ∧ ((List.length z1.2) = (List.length z1.2))))
   (.sub (i_listed (((), z1.1.2), z1.2)) fun z2 =>
    (.test (Sum.isLeft z2)
    (.sub (Sum.getLeft? z2) fun z3 =>
     (.test (decide ((0 = 0) ∧ ((List.length z3.2.2) = (List.length z3.2.2))))
     (.ret (((), z3.1.2), z3.2.2))
     .fail))
    (.sub (Sum.getRight? z2) fun z4 =>
     (.test (decide ((0 = 0) ∧ ((List.length z4.2) = (List.length z4.2))))
     (.ret (((), z4.1.2), z4.2))
     .fail))))
   .fail))))
noncomputable def i_MinusTerms (v : (Int × Int)) : Option ((Unit × Bool) × List (Int)) := (i_MinusTerms_t v).run
noncomputable def i_MinusTerms_E : TEnv := (((E0.add1 n_i_isLowest i_isLowest_sh i_isLowest_fo i_isLowest).add1 n_i_minusTerms i_minusTerms_sh i_minusTerms_fo i_minusTerms).add1 n_i_listed i_listed_sh i_listed_fo i_listed)
theorem i_MinusTerms_Eok : (i_MinusTerms_E).OK := (((E0ok.add1 i_isLowest_ok).add1 i_minusTerms_ok).add1 i_listed_ok)
noncomputable def i_MinusTerms_told : Nat → Option SealT := fun id => none
theorem i_MinusTerms_ok : FOK Try.prog n_i_MinusTerms i_MinusTerms_sh i_MinusTerms_fo i_MinusTerms :=
  fn_ok (E := i_MinusTerms_E) (i_MinusTerms_Eok) (told := i_MinusTerms_told) (fl := []) (c := bodyOf fn_i_MinusTerms) (s := i_MinusTerms_sh) (l := i_MinusTerms_fo) (tree := i_MinusTerms_t) fnat_i_MinusTerms (by kernel_rfl) (by kernel_rfl) (by kernel_rfl) (loopsOK_of (ls := []) (by kernel_rfl) trivial) (fun v => by kernel_rfl)

theorem minus_terms (num den : Int) : ∃ r : Bool × List Int, r.2.length ≤ 10 ∧ i_MinusTerms (num, den) = some (((), r.1), r.2) ∧ s_MinusTerms (num, den) = some (((), r.1), r.2) := by
  simp only [i_MinusTerms, i_MinusTerms_t, s_MinusTerms, s_MinusTerms_t, T.run, i_isLowest_eq, s_ctPair_eq, Option.bind_some]
  cases hl : lowP num den with
  | false => exact ⟨(false, []), by simp, by simp, by simp⟩
  | true =>
    simp only [lowP, Bool.and_eq_true, inB_iff] at hl
    obtain ⟨ext, e1, e2, e3⟩ := minus_both num den (by omega) (by omega) (by omega) (by omega)
    simp only [e2, e3, i_listed_eq, Option.bind_some]
    cases ht : isTerms ext with
    | true => exact ⟨(true, ext), by rw [isTerms_iff] at ht; exact ht.1, by simp [Sum.isLeft], by simp [Sum.isLeft]⟩
    | false => exact ⟨(false, []), by simp, by simp [Sum.isLeft], by simp [Sum.isLeft]⟩


def l_eqIntS_sh : FSh := ⟨[(.one (.sl (.int .i64) false false)), (.one (.sl (.int .i64) false false))], []⟩

def l_eqIntS_L4_sh : LSh := ⟨(fun ex => match ex with | .norm => [(0, none), (1, none), (5, none)] | .exit i => if i = 0 then [] else [] | .ret => [(4, none)]), [(0, (.one (.sl (.int .i64) false false))), (1, (.one (.sl (.int .i64) false false))), (5, (.one (.si .i64)))], [], [⟨.ret, [(4, (.one .sb))], []⟩, ⟨(.exit 0), [], []⟩]⟩
noncomputable def l_eqIntS_L4_step : (List (Int) × List (Int) × Int) → T ((List (Int) × List (Int) × Int) ⊕ (Bool ⊕ Unit)) := fun (a, b, i) =>
  (.test (decide (i < ((List.length a) : Int)))
  (.test (decide ((0 ≤ i) ∧ (i < ((List.length a) : Int))))
   (.sub (a[(Int.toNat i)]?) fun z0 =>
    (.test (decide ((0 ≤ i) ∧ (i < ((List.length b) : Int))))
    (.sub (b[(Int.toNat i)]?) fun z1 =>
     (.test (z0 != z1)
     (.ret (Sum.inr (Sum.inl false)))
     (.ret (Sum.inl (a, (b, (w64 (i + 1))))))))
    .fail))
   .fail)
  (.ret (Sum.inr (Sum.inr ()))))
noncomputable def l_eqIntS_L4 (v : (List (Int) × List (Int) × Int)) : Option (Bool ⊕ Unit) := loopO (fun v => (l_eqIntS_L4_step v).run) v

def l_eqIntS_fo : List FO := [⟨[(.one .sb)], []⟩]
noncomputable def l_eqIntS_t : (List (Int) × List (Int)) → T Bool := fun (a, b) =>
  (.test (((List.length a) : Int) != ((List.length b) : Int))
  (.ret false)
  (.sub (l_eqIntS_L4 (a, (b, (0 : Int)))) fun z0 =>
   (.test (Sum.isLeft z0)
   (.sub (Sum.getLeft? z0) fun z1 =>
    (.ret z1))
   (.sub (Sum.getRight? z0) fun z2 =>
    (.ret true)))))
noncomputable def l_eqIntS (v : (List (Int) × List (Int))) : Option Bool := (l_eqIntS_t v).run
noncomputable def l_eqIntS_E : TEnv := E0
theorem l_eqIntS_Eok : (l_eqIntS_E).OK := E0ok
noncomputable def l_eqIntS_told : Nat → Option SealT := fun id => if id = 4 then some (LSh.told l_eqIntS_L4_sh 0 (l_eqIntS_L4_step)) else none
theorem l_eqIntS_L4_ok : ToldOK Try.prog 0 (loopAt (bodyOf fn_l_eqIntS) [0]) (LSh.told l_eqIntS_L4_sh 0 (l_eqIntS_L4_step)) :=
  loop_ok (E := l_eqIntS_E) (l_eqIntS_Eok) (told := l_eqIntS_told) (l := l_eqIntS_L4_sh) (step := l_eqIntS_L4_step) (loopsOK_of (ls := []) (by kernel_rfl) trivial) (by kernel_rfl) (fun v => by kernel_rfl)
theorem l_eqIntS_ok : FOK Try.prog n_l_eqIntS l_eqIntS_sh l_eqIntS_fo l_eqIntS :=
  fn_ok (E := l_eqIntS_E) (l_eqIntS_Eok) (told := l_eqIntS_told) (fl := []) (c := bodyOf fn_l_eqIntS) (s := l_eqIntS_sh) (l := l_eqIntS_fo) (tree := l_eqIntS_t) fnat_l_eqIntS (by kernel_rfl) (by kernel_rfl) (by kernel_rfl) (loopsOK_of (ls := [loopAt (bodyOf fn_l_eqIntS) [0]]) (by kernel_rfl) ⟨.inr ⟨_, by kernel_rfl, l_eqIntS_L4_ok⟩, trivial⟩) (fun v => by kernel_rfl)

theorem l_eqIntS_eq (a b : List Int) (hl : a.length < 4611686018427387904) : l_eqIntS (a, b) = some (decide (a = b)) := by
  by_cases hab : a.length = b.length
  · have h := loop_any (step := fun v => (l_eqIntS_L4_step v).run) (xs := a.zip b) (fun p => p.1 != p.2) (fun k => (a, b, (k : Int))) (.inl false) (.inr ())
      (fun k x hx => by
        have hk := getElem?_lt hx
        rw [List.length_zip, hab, Nat.min_self] at hk
        rw [List.getElem?_zip_eq_some] at hx
        simp only [l_eqIntS_L4_step, T.run, Option.bind_some, Int.toNat_natCast, hx.1, hx.2]
        rw [w64_id (by omega) (by omega)]
        have hka : k < a.length := by omega
        cases x.1 != x.2 <;> simp [hk, hka])
      (by simp [l_eqIntS_L4_step, T.run, hab])
    simp only [l_eqIntS, l_eqIntS_t, T.run, l_eqIntS_L4]
    simp only [Int.natCast_zero] at h
    rw [h, hab]
    have e : (a.zip b).any (fun p => p.1 != p.2) = !decide (a = b) := zip_any_ne a b hab
    rw [e]
    cases decide (a = b) <;> simp
  · simp only [l_eqIntS, l_eqIntS_t, T.run]
    have : a ≠ b := fun e => hab (by rw [e])
    simp [this]
    omega


def l_markIntS_sh : FSh := ⟨[(.one (.rw 0 0)), (.one (.si .i64))], [(.row 0 (.int .i64))]⟩

def l_markIntS_L2_sh : LSh := ⟨(fun ex => match ex with | .norm => [(0, none), (1, none), (5, none)] | .exit i => if i = 0 then [(1, none)] else [] | .ret => [(4, none)]), [(0, (.one (.rw 0 0))), (1, (.one (.si .i64))), (5, (.one (.si .i64)))], [(.row 0 (.int .i64))], [⟨(.exit 0), [(1, (.one (.si .i64)))], [(.row 0 (.int .i64))]⟩]⟩
noncomputable def l_markIntS_L2_step : ((Unit × Int × Int) × List (Int)) → T (((Unit × Int × Int) × List (Int)) ⊕ (Int × List (Int))) := fun (((), k, i), a) =>
  (.test (decide (i < ((List.length a) : Int)))
  (.test (decide ((0 ≤ i) ∧ (i < ((List.length a) : Int))))
   (.sub (a[(0 + (Int.toNat i))]?) fun z0 =>
    (.test (decide ((0 = 0) ∧ ((List.length a) = (List.length (List.set a (0 + (Int.toNat i)) k)))))
    (.ret (Sum.inl (((), ((w64 (k + 1)), (w64 (i + 1)))), (List.set a (0 + (Int.toNat i)) k))))
    .fail))
   .fail)
  (.ret (Sum.inr (k, a))))
noncomputable def l_markIntS_L2 (v : ((Unit × Int × Int) × List (Int))) : Option (Int × List (Int)) := loopO (fun v => (l_markIntS_L2_step v).run) v

def l_markIntS_fo : List FO := [⟨[(.one (.si .i64))], [(.row 0 (.int .i64))]⟩]
noncomputable def l_markIntS_t : ((Unit × Int) × List (Int)) → T (Int × List (Int)) := fun (((), k), a) =>
  (.test (decide ((0 = 0) ∧ ((List.length a) = (List.length a))))
  (.sub (l_markIntS_L2 (((), (k, (0 : Int))), a)) fun z0 =>
   (.ret (z0.1, z0.2)))
  .fail)
noncomputable def l_markIntS (v : ((Unit × Int) × List (Int))) : Option (Int × List (Int)) := (l_markIntS_t v).run
noncomputable def l_markIntS_E : TEnv := E0
theorem l_markIntS_Eok : (l_markIntS_E).OK := E0ok
noncomputable def l_markIntS_told : Nat → Option SealT := fun id => if id = 2 then some (LSh.told l_markIntS_L2_sh 1 (l_markIntS_L2_step)) else none
theorem l_markIntS_L2_ok : ToldOK Try.prog 1 (loopAt (bodyOf fn_l_markIntS) [0]) (LSh.told l_markIntS_L2_sh 1 (l_markIntS_L2_step)) :=
  loop_ok (E := l_markIntS_E) (l_markIntS_Eok) (told := l_markIntS_told) (l := l_markIntS_L2_sh) (step := l_markIntS_L2_step) (loopsOK_of (ls := []) (by kernel_rfl) trivial) (by kernel_rfl) (fun v => by kernel_rfl)
theorem l_markIntS_ok : FOK Try.prog n_l_markIntS l_markIntS_sh l_markIntS_fo l_markIntS :=
  fn_ok (E := l_markIntS_E) (l_markIntS_Eok) (told := l_markIntS_told) (fl := []) (c := bodyOf fn_l_markIntS) (s := l_markIntS_sh) (l := l_markIntS_fo) (tree := l_markIntS_t) fnat_l_markIntS (by kernel_rfl) (by kernel_rfl) (by kernel_rfl) (loopsOK_of (ls := [loopAt (bodyOf fn_l_markIntS) [0]]) (by kernel_rfl) ⟨.inr ⟨_, by kernel_rfl, l_markIntS_L2_ok⟩, trivial⟩) (fun v => by kernel_rfl)

theorem l_markIntS_L2_eq (k : Int) (l : List Int) (hk : 0 ≤ k ∧ k < 1000000000000) (hl : l.length < 1000000000000000) : ∀ n i, i + n = l.length →
    l_markIntS_L2 (((), (k + i, (i : Int))), iot k i ++ l.drop i) = some (k + l.length, iot k l.length) := by
  intro n
  induction n with
  | zero =>
    intro i hi
    obtain rfl : i = l.length := by omega
    rw [List.drop_length, List.append_nil]
    simp only [l_markIntS_L2]
    exact loopO_done (by simp [l_markIntS_L2_step, T.run, iot_len])
  | succ n ih =>
    intro i hi
    have hlt : i < l.length := by omega
    have hd : l.drop i = l[i] :: l.drop (i + 1) := List.drop_eq_getElem_cons hlt
    have hlen : (iot k i ++ l.drop i).length = l.length := by rw [List.length_append, iot_len, List.length_drop]; omega
    have hget : (iot k i ++ l.drop i)[i]? = some l[i] := by
      rw [List.getElem?_append_right (by rw [iot_len]; omega), iot_len, Nat.sub_self, hd]; rfl
    have hset : List.set (iot k i ++ l.drop i) i (k + i) = iot k (i + 1) ++ l.drop (i + 1) := by
      rw [List.set_append_right _ _ (by rw [iot_len]; omega), iot_len, Nat.sub_self, hd, iot_succ, List.append_assoc]; rfl
    simp only [l_markIntS_L2] at ih ⊢
    have hst : (l_markIntS_L2_step (((), (k + i, (i : Int))), iot k i ++ l.drop i)).run = some (.inl (((), (k + (i + 1 : Nat), ((i + 1 : Nat) : Int))), iot k (i + 1) ++ l.drop (i + 1))) := by
      simp only [l_markIntS_L2_step, T.run, hlen, Int.toNat_natCast, Nat.zero_add, hget, Option.bind_some, hset]
      rw [w64_id (z := k + i + 1) (by omega) (by omega), w64_id (z := (i : Int) + 1) (by omega) (by omega)]
      have h1 : (i : Int) < (l.length : Int) := by omega
      have h2 : (0 : Int) ≤ i ∧ (i : Int) < (l.length : Int) := by omega
      simp only [h1, h2, decide_true, if_true]
      have h3 : (iot k (i + 1) ++ l.drop (i + 1)).length = l.length := by rw [List.length_append, iot_len, List.length_drop]; omega
      simp [h3, Int.add_assoc]
    rw [loopO_next hst]
    exact ih (i + 1) (by omega)
theorem l_markIntS_eq (k : Int) (l : List Int) (hk : 0 ≤ k ∧ k < 1000000000000) (hl : l.length < 1000000000000000) : l_markIntS (((), k), l) = some (k + l.length, iot k l.length) := by
  have h := l_markIntS_L2_eq k l hk hl l.length 0 (by omega)
  simp only [l_markIntS, l_markIntS_t, T.run]
  have e : iot k 0 ++ l.drop 0 = l := by simp [iot]
  rw [e, show ((0 : Nat) : Int) = 0 from rfl, Int.add_zero] at h
  simp [h]


def l_heldIntS_sh : FSh := ⟨[(.one (.sl (.int .i64) false false)), (.one (.si .i64))], []⟩

def l_heldIntS_L2_sh : LSh := ⟨(fun ex => match ex with | .norm => [(0, none), (1, none), (5, none)] | .exit i => if i = 0 then [(1, none)] else [] | .ret => [(4, none)]), [(0, (.one (.sl (.int .i64) false false))), (1, (.one (.si .i64))), (5, (.one (.si .i64)))], [], [⟨.ret, [(4, (.one (.si .i64)))], []⟩, ⟨(.exit 0), [(1, (.one (.si .i64)))], []⟩]⟩
noncomputable def l_heldIntS_L2_step : (List (Int) × Int × Int) → T ((List (Int) × Int × Int) ⊕ (Int ⊕ Int)) := fun (a, k, i) =>
  (.test (decide (i < ((List.length a) : Int)))
  (.test (decide ((0 ≤ i) ∧ (i < ((List.length a) : Int))))
   (.sub (a[(Int.toNat i)]?) fun z0 =>
    (.test (z0 != k)
    (.ret (Sum.inr (Sum.inl (-1))))
    (.ret (Sum.inl (a, ((w64 (k + 1)), (w64 (i + 1))))))))
   .fail)
  (.ret (Sum.inr (Sum.inr k))))
noncomputable def l_heldIntS_L2 (v : (List (Int) × Int × Int)) : Option (Int ⊕ Int) := loopO (fun v => (l_heldIntS_L2_step v).run) v

def l_heldIntS_fo : List FO := [⟨[(.one (.si .i64))], []⟩]
noncomputable def l_heldIntS_t : (List (Int) × Int) → T Int := fun (a, k) =>
  (.sub (l_heldIntS_L2 (a, (k, (0 : Int)))) fun z0 =>
  (.test (Sum.isLeft z0)
  (.sub (Sum.getLeft? z0) fun z1 =>
   (.ret z1))
  (.sub (Sum.getRight? z0) fun z2 =>
   (.ret z2))))
noncomputable def l_heldIntS (v : (List (Int) × Int)) : Option Int := (l_heldIntS_t v).run
noncomputable def l_heldIntS_E : TEnv := E0
theorem l_heldIntS_Eok : (l_heldIntS_E).OK := E0ok
noncomputable def l_heldIntS_told : Nat → Option SealT := fun id => if id = 2 then some (LSh.told l_heldIntS_L2_sh 0 (l_heldIntS_L2_step)) else none
theorem l_heldIntS_L2_ok : ToldOK Try.prog 0 (loopAt (bodyOf fn_l_heldIntS) [0]) (LSh.told l_heldIntS_L2_sh 0 (l_heldIntS_L2_step)) :=
  loop_ok (E := l_heldIntS_E) (l_heldIntS_Eok) (told := l_heldIntS_told) (l := l_heldIntS_L2_sh) (step := l_heldIntS_L2_step) (loopsOK_of (ls := []) (by kernel_rfl) trivial) (by kernel_rfl) (fun v => by kernel_rfl)
theorem l_heldIntS_ok : FOK Try.prog n_l_heldIntS l_heldIntS_sh l_heldIntS_fo l_heldIntS :=
  fn_ok (E := l_heldIntS_E) (l_heldIntS_Eok) (told := l_heldIntS_told) (fl := []) (c := bodyOf fn_l_heldIntS) (s := l_heldIntS_sh) (l := l_heldIntS_fo) (tree := l_heldIntS_t) fnat_l_heldIntS (by kernel_rfl) (by kernel_rfl) (by kernel_rfl) (loopsOK_of (ls := [loopAt (bodyOf fn_l_heldIntS) [0]]) (by kernel_rfl) ⟨.inr ⟨_, by kernel_rfl, l_heldIntS_L2_ok⟩, trivial⟩) (fun v => by kernel_rfl)

theorem l_heldIntS_eq (k : Int) (n : Nat) (hk : 0 ≤ k ∧ k < 1000000000000) (hl : n < 1000000000000000) : l_heldIntS (iot k n, k) = some (k + n) := by
  have h := loop_count (step := fun v => (l_heldIntS_L2_step v).run) (n := n) (fun i (_ : Unit) => (iot k n, (k + (i : Int), (i : Int)))) (fun _ _ => Sum.inl ()) (fun _ => Sum.inr (k + (n : Int)))
    (by
      intro i s hi
      simp only [l_heldIntS_L2_step, T.run, iot_len, Int.toNat_natCast, iot_get k hi, Option.bind_some]
      rw [w64_id (z := k + i + 1) (by omega) (by omega), w64_id (z := (i : Int) + 1) (by omega) (by omega)]
      have h1 : (i : Int) < (n : Int) := by omega
      have h2 : (0 : Int) ≤ i ∧ (i : Int) < (n : Int) := by omega
      simp [h1, h2, Int.add_assoc])
    (by intro s; simp [l_heldIntS_L2_step, T.run, iot_len]) 0 () (Nat.zero_le _)
  rw [show ((0 : Nat) : Int) = 0 from rfl, Int.add_zero] at h
  have hf : ∀ l : List Nat, forE (fun (_ : Unit) (_ : Nat) => (Sum.inl () : Unit ⊕ (Int ⊕ Int))) (fun _ => Sum.inr (k + (n : Int))) l () = Sum.inr (k + (n : Int)) := by
    intro l
    induction l with
    | nil => rfl
    | cons x t ih => rw [forE_cons]; exact ih
  rw [hf] at h
  simp only [l_heldIntS, l_heldIntS_t, T.run, l_heldIntS_L2]
  rw [h]
  simp [Sum.isLeft]


def l_FnExactMinusTerms_sh : FSh := ⟨[(.one (.si .i64)), (.one (.si .i64))], []⟩

def l_FnExactMinusTerms_fo : List FO := [⟨[(.one .sb)], []⟩]
noncomputable def l_FnExactMinusTerms_t : (Int × Int) → T Bool := fun (aNum, aDen) =>
  (.sub (s_MinusTerms (aNum, aDen)) fun z0 =>
  (.sub (i_MinusTerms (aNum, aDen)) fun z1 =>
  (.test (decide ((0 + (List.length z1.2)) ≤ (List.length z1.2)))
  (.test (decide ((0 + (List.length z0.2)) ≤ (List.length z0.2)))
   (.sub (l_eqIntS ((win z1.2 0 (List.length z1.2)), (win z0.2 0 (List.length z0.2)))) fun z2 =>
    (.test (! z2)
    (.ret false)
    (.test (! (z1.1.2 == z0.1.2))
     (.ret false)
     (.test (decide ((0 = 0) ∧ ((List.length z1.2) = (List.length z1.2))))
      (.sub (l_markIntS (((), (1 : Int)), z1.2)) fun z3 =>
       (.test (decide ((0 + (List.length z1.2)) ≤ (List.length z3.2)))
       (.sub (l_heldIntS ((win z3.2 0 (List.length z1.2)), (1 : Int))) fun z4 =>
        (.test (decide (z4 < 0))
        (.ret false)
        (.test (z4 != z3.1)
         (.ret false)
         (.sub (i_MinusTerms (aNum, aDen)) fun z5 =>
          (.test (decide ((0 + (List.length z5.2)) ≤ (List.length z5.2)))
          (.test (decide ((0 + (List.length z0.2)) ≤ (List.length z0.2)))
           (.sub (l_eqIntS ((win z5.2 0 (List.length z5.2)), (win z0.2 0 (List.length z0.2)))) fun z6 =>
            (.test (! z6)
            (.ret false)
            (.test (! (z5.1.2 == z0.1.2))
             (.ret false)
             (.test (decide ((0 + (List.length z1.2)) ≤ (List.length z3.2)))
              (.sub (l_heldIntS ((win z3.2 0 (List.length z1.2)), (1 : Int))) fun z7 =>
               (.test (decide (z7 < 0))
               (.ret false)
               (.test (z7 != z3.1)
                (.ret false)
                (.ret true))))
              .fail))))
           .fail)
          .fail)))))
       .fail))
      .fail))))
   .fail)
  .fail)))
noncomputable def l_FnExactMinusTerms (v : (Int × Int)) : Option Bool := (l_FnExactMinusTerms_t v).run
noncomputable def l_FnExactMinusTerms_E : TEnv := (((((E0.add1 n_s_MinusTerms s_MinusTerms_sh s_MinusTerms_fo s_MinusTerms).add1 n_i_MinusTerms i_MinusTerms_sh i_MinusTerms_fo i_MinusTerms).add1 n_l_eqIntS l_eqIntS_sh l_eqIntS_fo l_eqIntS).add1 n_l_markIntS l_markIntS_sh l_markIntS_fo l_markIntS).add1 n_l_heldIntS l_heldIntS_sh l_heldIntS_fo l_heldIntS)
theorem l_FnExactMinusTerms_Eok : (l_FnExactMinusTerms_E).OK := (((((E0ok.add1 s_MinusTerms_ok).add1 i_MinusTerms_ok).add1 l_eqIntS_ok).add1 l_markIntS_ok).add1 l_heldIntS_ok)
noncomputable def l_FnExactMinusTerms_told : Nat → Option SealT := fun id => none
theorem l_FnExactMinusTerms_ok : FOK Try.prog n_l_FnExactMinusTerms l_FnExactMinusTerms_sh l_FnExactMinusTerms_fo l_FnExactMinusTerms :=
  fn_ok (E := l_FnExactMinusTerms_E) (l_FnExactMinusTerms_Eok) (told := l_FnExactMinusTerms_told) (fl := []) (c := bodyOf fn_l_FnExactMinusTerms) (s := l_FnExactMinusTerms_sh) (l := l_FnExactMinusTerms_fo) (tree := l_FnExactMinusTerms_t) fnat_l_FnExactMinusTerms (by kernel_rfl) (by kernel_rfl) (by kernel_rfl) (loopsOK_of (ls := []) (by kernel_rfl) trivial) (fun v => by kernel_rfl)

theorem l_FnExactMinusTerms_true (v : Int × Int) (hs : smallL ASh.small [.one (.si .i64), .one (.si .i64)] v) : l_FnExactMinusTerms v = some true := by
  obtain ⟨num, den⟩ := v
  obtain ⟨⟨ok, l⟩, hl, h1, h2⟩ := minus_terms num den
  simp only at hl h1 h2
  have hl1 : l.length < 4611686018427387904 := by omega
  have hm := l_markIntS_eq 1 l (by omega) (by omega)
  have hh := l_heldIntS_eq 1 l.length (by omega) (by omega)
  have hw : win (iot 1 l.length) 0 l.length = iot 1 l.length := by have := win_all (iot 1 l.length); rwa [iot_len] at this
  have hx : ¬ ((1 : Int) + l.length < 0) := by omega
  simp [l_FnExactMinusTerms, l_FnExactMinusTerms_t, T.run, h1, h2, win_all, l_eqIntS_eq l l hl1, hm, iot_len, hw, hh, hx]


def l_toIntS_sh : FSh := ⟨[(.one (.sl (.int .i64) false false))], []⟩

def l_toIntS_L3_sh : LSh := ⟨(fun ex => match ex with | .norm => [(0, none), (3, none), (4, none)] | .exit i => if i = 0 then [(3, none)] else [] | .ret => [(2, none)]), [(0, (.one (.sl (.int .i64) false false))), (3, (.one (.rw 0 0))), (4, (.one (.si .i64)))], [(.row 0 (.int .i64))], [⟨(.exit 0), [(3, (.one (.rw 0 0)))], [(.row 0 (.int .i64))]⟩]⟩
noncomputable def l_toIntS_L3_step : ((List (Int) × Unit × Int) × List (Int)) → T (((List (Int) × Unit × Int) × List (Int)) ⊕ (Unit × List (Int))) := fun ((a, (), i), out) =>
  (.test (decide (i < ((List.length a) : Int)))
  (.test (decide ((0 ≤ i) ∧ (i < ((List.length a) : Int))))
   (.sub (a[(Int.toNat i)]?) fun z0 =>
    (.test (decide ((0 ≤ i) ∧ (i < ((List.length out) : Int))))
    (.sub (out[(0 + (Int.toNat i))]?) fun z1 =>
     (.test (decide ((0 = 0) ∧ ((List.length out) = (List.length (List.set out (0 + (Int.toNat i)) z0)))))
     (.ret (Sum.inl ((a, ((), (w64 (i + 1)))), (List.set out (0 + (Int.toNat i)) z0))))
     .fail))
    .fail))
   .fail)
  (.test (decide ((0 = 0) ∧ ((List.length out) = (List.length out))))
   (.ret (Sum.inr ((), out)))
   .fail))
noncomputable def l_toIntS_L3 (v : ((List (Int) × Unit × Int) × List (Int))) : Option (Unit × List (Int)) := loopO (fun v => (l_toIntS_L3_step v).run) v

def l_toIntS_fo : List FO := [⟨[(.one (.rw 0 0))], [(.row 0 (.int .i64))]⟩]
noncomputable def l_toIntS_t : List (Int) → T (Unit × List (Int)) := fun a =>
  (.test (decide ((0 ≤ ((List.length a) : Int)) ∧ ((((List.length a) : Int) ≤ ((List.length a) : Int)) ∧ (((Int.toNat ((List.length a) : Int)) * 9) ≤ 140737488355328))))
  (.test (decide ((0 = 0) ∧ ((Int.toNat ((List.length a) : Int)) = (List.length (List.replicate (Int.toNat ((List.length a) : Int)) (0 : Int))))))
   (.sub (l_toIntS_L3 ((a, ((), (0 : Int))), (List.replicate (Int.toNat ((List.length a) : Int)) (0 : Int)))) fun z0 =>
    (.test (decide ((0 = 0) ∧ ((List.length z0.2) = (List.length z0.2))))
    (.ret ((), z0.2))
    .fail))
   .fail)
  .fail)
noncomputable def l_toIntS (v : List (Int)) : Option (Unit × List (Int)) := (l_toIntS_t v).run
noncomputable def l_toIntS_E : TEnv := E0
theorem l_toIntS_Eok : (l_toIntS_E).OK := E0ok
noncomputable def l_toIntS_told : Nat → Option SealT := fun id => if id = 3 then some (LSh.told l_toIntS_L3_sh 0 (l_toIntS_L3_step)) else none
theorem l_toIntS_L3_ok : ToldOK Try.prog 0 (loopAt (bodyOf fn_l_toIntS) [0]) (LSh.told l_toIntS_L3_sh 0 (l_toIntS_L3_step)) :=
  loop_ok (E := l_toIntS_E) (l_toIntS_Eok) (told := l_toIntS_told) (l := l_toIntS_L3_sh) (step := l_toIntS_L3_step) (loopsOK_of (ls := []) (by kernel_rfl) trivial) (by kernel_rfl) (fun v => by kernel_rfl)
theorem l_toIntS_ok : FOK Try.prog n_l_toIntS l_toIntS_sh l_toIntS_fo l_toIntS :=
  fn_ok (E := l_toIntS_E) (l_toIntS_Eok) (told := l_toIntS_told) (fl := []) (c := bodyOf fn_l_toIntS) (s := l_toIntS_sh) (l := l_toIntS_fo) (tree := l_toIntS_t) fnat_l_toIntS (by kernel_rfl) (by kernel_rfl) (by kernel_rfl) (loopsOK_of (ls := [loopAt (bodyOf fn_l_toIntS) [0]]) (by kernel_rfl) ⟨.inr ⟨_, by kernel_rfl, l_toIntS_L3_ok⟩, trivial⟩) (fun v => by kernel_rfl)

theorem l_toIntS_eq (a : List Int) (hl : a.length < 10000000000000) : l_toIntS a = some ((), a) := by
  have h := loop_eq (step := fun v => (l_toIntS_L3_step v).run) (fun v => a.length - v.1.2.2.toNat) (fun v => v.1.1 = a ∧ ∃ k : Nat, k ≤ a.length ∧ v.1.2.2 = k ∧ v.2.length = a.length ∧ v.2.take k = a.take k) (fun _ => ((), a)) (by
    rintro ⟨⟨a', ⟨⟩, i⟩, out⟩ ⟨e, k, hk, e2, hlen, ht⟩
    simp only at e e2 hlen ht
    subst e e2
    by_cases hlt : k < a'.length
    · left
      refine ⟨((a', (), (k + 1 : Nat)), out.set k a'[k]), ?_, ⟨rfl, k + 1, by omega, rfl, by simp [hlen], ?_⟩, by simp only [Int.toNat_natCast]; omega, rfl⟩
      · simp only [l_toIntS_L3_step, T.run, Int.toNat_natCast, Option.bind_some, List.getElem?_eq_getElem hlt, Nat.zero_add, List.getElem?_eq_getElem (show k < out.length by omega)]
        rw [w64_id (by omega) (by omega)]
        simp [hlen, hlt]
      · rw [List.take_succ_eq_append_getElem (by simp; omega), List.take_succ_eq_append_getElem hlt, List.take_set_of_le (Nat.le_refl _), ht]
        simp
    · right
      have : k = a'.length := by omega
      subst this
      rw [List.take_length, ← hlen, List.take_length] at ht
      subst ht
      simp [l_toIntS_L3_step, T.run])
    ((a, (), 0), List.replicate a.length 0) ⟨rfl, 0, Nat.zero_le _, rfl, by simp, by simp⟩
  simp only [l_toIntS, l_toIntS_t, T.run, l_toIntS_L3, Int.toNat_natCast]
  rw [h]
  simp
  omega


def s_ctPositive_sh : FSh := ⟨[(.one (.sl (.int .i64) false false))], []⟩

def s_ctPositive_fo : List FO := [⟨[(.one .sb)], []⟩]
noncomputable def s_ctPositive_t : List (Int) → T Bool := fun list =>
  (.sub (s_ctGood list) fun z0 =>
  (.test z0
  (.test (decide (((List.length list) : Int) > 0))
   (.sub (s_l1All (list, ((1 : Int), (30 : Int)))) fun z1 =>
    (.ret z1))
   (.ret false))
  (.ret false)))
noncomputable def s_ctPositive (v : List (Int)) : Option Bool := (s_ctPositive_t v).run
noncomputable def s_ctPositive_E : TEnv := ((E0.add1 n_s_ctGood s_ctGood_sh s_ctGood_fo s_ctGood).add1 n_s_l1All s_l1All_sh s_l1All_fo s_l1All)
theorem s_ctPositive_Eok : (s_ctPositive_E).OK := ((E0ok.add1 s_ctGood_ok).add1 s_l1All_ok)
noncomputable def s_ctPositive_told : Nat → Option SealT := fun id => none
theorem s_ctPositive_ok : FOK Try.prog n_s_ctPositive s_ctPositive_sh s_ctPositive_fo s_ctPositive :=
  fn_ok (E := s_ctPositive_E) (s_ctPositive_Eok) (told := s_ctPositive_told) (fl := []) (c := bodyOf fn_s_ctPositive) (s := s_ctPositive_sh) (l := s_ctPositive_fo) (tree := s_ctPositive_t) fnat_s_ctPositive (by kernel_rfl) (by kernel_rfl) (by kernel_rfl) (loopsOK_of (ls := []) (by kernel_rfl) trivial) (fun v => by kernel_rfl)

theorem s_ctPositive_eq (l : List Int) (hl : l.length < 4611686018427387904) : s_ctPositive l = some (posT l) := by
  simp only [s_ctPositive, s_ctPositive_t, T.run, s_ctGood_eq l hl, s_l1All_eq l _ _ hl, Option.bind_some, posT]
  have : decide ((l.length : Int) > 0) = decide (l ≠ []) := by cases l <;> simp
  rw [this]
  cases isTerms l <;> by_cases h : l = [] <;> simp [h]


def s_ctFraction_sh : FSh := ⟨[(.one (.sl (.int .i64) false false)), (.one (.si .i64))], []⟩

def s_ctFraction_L3_sh : LSh := ⟨(fun ex => match ex with | .norm => [(0, none), (1, none), (7, none), (8, none), (9, none)] | .exit i => if i = 0 then [(7, none), (8, none)] else [] | .ret => [(4, none), (5, none), (6, none)]), [(0, (.one (.sl (.int .i64) false false))), (1, (.one (.si .i64))), (7, (.one (.si .i64))), (8, (.one (.si .i64))), (9, (.one (.si .i64)))], [], [⟨.ret, [(4, (.one (.si .i64))), (5, (.one (.si .i64))), (6, (.one .sb))], []⟩, ⟨(.exit 0), [(7, (.one (.si .i64))), (8, (.one (.si .i64)))], []⟩]⟩
noncomputable def s_ctFraction_L3_step : (List (Int) × Int × Int × Int × Int) → T ((List (Int) × Int × Int × Int × Int) ⊕ ((Int × Int × Bool) ⊕ (Int × Int))) := fun (list, sign, num, den, i) =>
  (.test (decide (i ≥ 0))
  (.test (num == 0)
   (.ret (Sum.inr (Sum.inl ((0 : Int), ((0 : Int), false)))))
   (.test (decide ((0 ≤ i) ∧ (i < ((List.length list) : Int))))
    (.sub (list[(Int.toNat i)]?) fun z0 =>
     (.test (decide (num < 0))
     (.ret (Sum.inl (list, (sign, ((w64 (0 - (w64 ((w64 (z0 * num)) + (w64 (sign * den)))))), ((w64 (0 - num)), (w64 (i - 1))))))))
     (.ret (Sum.inl (list, (sign, ((w64 ((w64 (z0 * num)) + (w64 (sign * den)))), (num, (w64 (i - 1))))))))))
    .fail))
  (.ret (Sum.inr (Sum.inr (num, den)))))
noncomputable def s_ctFraction_L3 (v : (List (Int) × Int × Int × Int × Int)) : Option ((Int × Int × Bool) ⊕ (Int × Int)) := loopO (fun v => (s_ctFraction_L3_step v).run) v

def s_ctFraction_fo : List FO := [⟨[(.one (.si .i64)), (.one (.si .i64)), (.one .sb)], []⟩]
noncomputable def s_ctFraction_t : (List (Int) × Int) → T (Int × Int × Bool) := fun (list, sign) =>
  (.test (decide ((0 ≤ (w64 (((List.length list) : Int) - 1))) ∧ ((w64 (((List.length list) : Int) - 1)) < ((List.length list) : Int))))
  (.sub (list[(Int.toNat (w64 (((List.length list) : Int) - 1)))]?) fun z0 =>
   (.sub (s_ctFraction_L3 (list, (sign, (z0, ((1 : Int), (w64 (((List.length list) : Int) - 2))))))) fun z1 =>
   (.test (Sum.isLeft z1)
   (.sub (Sum.getLeft? z1) fun z2 =>
    (.ret (z2.1, (z2.2.1, z2.2.2))))
   (.sub (Sum.getRight? z1) fun z3 =>
    (.ret (z3.1, (z3.2, true)))))))
  .fail)
noncomputable def s_ctFraction (v : (List (Int) × Int)) : Option (Int × Int × Bool) := (s_ctFraction_t v).run
noncomputable def s_ctFraction_E : TEnv := E0
theorem s_ctFraction_Eok : (s_ctFraction_E).OK := E0ok
noncomputable def s_ctFraction_told : Nat → Option SealT := fun id => if id = 3 then some (LSh.told s_ctFraction_L3_sh 0 (s_ctFraction_L3_step)) else none
theorem s_ctFraction_L3_ok : ToldOK Try.prog 0 (loopAt (bodyOf fn_s_ctFraction) [0]) (LSh.told s_ctFraction_L3_sh 0 (s_ctFraction_L3_step)) :=
  loop_ok (E := s_ctFraction_E) (s_ctFraction_Eok) (told := s_ctFraction_told) (l := s_ctFraction_L3_sh) (step := s_ctFraction_L3_step) (loopsOK_of (ls := []) (by kernel_rfl) trivial) (by kernel_rfl) (fun v => by kernel_rfl)
theorem s_ctFraction_ok : FOK Try.prog n_s_ctFraction s_ctFraction_sh s_ctFraction_fo s_ctFraction :=
  fn_ok (E := s_ctFraction_E) (s_ctFraction_Eok) (told := s_ctFraction_told) (fl := []) (c := bodyOf fn_s_ctFraction) (s := s_ctFraction_sh) (l := s_ctFraction_fo) (tree := s_ctFraction_t) fnat_s_ctFraction (by kernel_rfl) (by kernel_rfl) (by kernel_rfl) (loopsOK_of (ls := [loopAt (bodyOf fn_s_ctFraction) [0]]) (by kernel_rfl) ⟨.inr ⟨_, by kernel_rfl, s_ctFraction_L3_ok⟩, trivial⟩) (fun v => by kernel_rfl)

def s_MinusOfPlus_sh : FSh := ⟨[(.one (.sl (.int .i64) false false))], []⟩

def s_MinusOfPlus_fo : List FO := [⟨[(.one (.rw 0 0)), (.one .sb)], [(.row 0 (.int .i64))]⟩]
noncomputable def s_MinusOfPlus_t : List (Int) → T ((Unit × Bool) × List (Int)) := fun list =>
  (.sub (s_ctPositive list) fun z0 =>
  (.test (! z0)
  (.test true
   (.ret (((), false), ([] : List (Int))))
   .fail)
  (.sub (s_ctFraction (list, (1 : Int))) fun z1 =>
   (.sub (s_ctMinus (z1.1, z1.2.1)) fun z2 =>
   (.test (decide ((0 = 0) ∧ ((List.length z2.2) = (List.length z2.2))))
   (.ret (((), z2.1.2), z2.2))
   .fail)))))
noncomputable def s_MinusOfPlus (v : List (Int)) : Option ((Unit × Bool) × List (Int)) := (s_MinusOfPlus_t v).run
noncomputable def s_MinusOfPlus_E : TEnv := (((E0.add1 n_s_ctPositive s_ctPositive_sh s_ctPositive_fo s_ctPositive).add1 n_s_ctFraction s_ctFraction_sh s_ctFraction_fo s_ctFraction).add1 n_s_ctMinus s_ctMinus_sh s_ctMinus_fo s_ctMinus)
theorem s_MinusOfPlus_Eok : (s_MinusOfPlus_E).OK := (((E0ok.add1 s_ctPositive_ok).add1 s_ctFraction_ok).add1 s_ctMinus_ok)
noncomputable def s_MinusOfPlus_told : Nat → Option SealT := fun id => none
theorem s_MinusOfPlus_ok : FOK Try.prog n_s_MinusOfPlus s_MinusOfPlus_sh s_MinusOfPlus_fo s_MinusOfPlus :=
  fn_ok (E := s_MinusOfPlus_E) (s_MinusOfPlus_Eok) (told := s_MinusOfPlus_told) (fl := []) (c := bodyOf fn_s_MinusOfPlus) (s := s_MinusOfPlus_sh) (l := s_MinusOfPlus_fo) (tree := s_MinusOfPlus_t) fnat_s_MinusOfPlus (by kernel_rfl) (by kernel_rfl) (by kernel_rfl) (loopsOK_of (ls := []) (by kernel_rfl) trivial) (fun v => by kernel_rfl)

def slices_Min_int_sh : FSh := ⟨[(.one (.sl (.int .i64) false false))], []⟩

def slices_Min_int_L5_sh : LSh := ⟨(fun ex => match ex with | .norm => [(0, none), (3, none), (4, none)] | .exit i => if i = 0 then [(3, none)] else [] | .ret => [(2, none)]), [(0, (.one (.sl (.int .i64) false false))), (3, (.one (.si .i64))), (4, (.one (.si .i64)))], [], [⟨(.exit 0), [(3, (.one (.si .i64)))], []⟩]⟩
noncomputable def slices_Min_int_L5_step : (List (Int) × Int × Int) → T ((List (Int) × Int × Int) ⊕ Int) := fun (x, m, i) =>
  (.test (decide (i < ((List.length x) : Int)))
  (.test (decide ((0 ≤ i) ∧ (i < ((List.length x) : Int))))
   (.sub (x[(Int.toNat i)]?) fun z0 =>
    (.ret (Sum.inl (x, ((if (z0 < m) then z0 else m), (w64 (i + 1)))))))
   .fail)
  (.ret (Sum.inr m)))
noncomputable def slices_Min_int_L5 (v : (List (Int) × Int × Int)) : Option Int := loopO (fun v => (slices_Min_int_L5_step v).run) v

def slices_Min_int_fo : List FO := [⟨[(.one (.si .i64))], []⟩]
noncomputable def slices_Min_int_t : List (Int) → T Int := fun x =>
  (.test (decide (((List.length x) : Int) < 1))
  .fail
  (.test (decide (((0 : Int) ≤ (0 : Int)) ∧ (0 < ((List.length x) : Int))))
   (.sub (x[0]?) fun z0 =>
    (.sub (slices_Min_int_L5 (x, (z0, (1 : Int)))) fun z1 =>
    (.ret z1)))
   .fail))
noncomputable def slices_Min_int (v : List (Int)) : Option Int := (slices_Min_int_t v).run
noncomputable def slices_Min_int_E : TEnv := E0
theorem slices_Min_int_Eok : (slices_Min_int_E).OK := E0ok
noncomputable def slices_Min_int_told : Nat → Option SealT := fun id => if id = 5 then some (LSh.told slices_Min_int_L5_sh 0 (slices_Min_int_L5_step)) else none
theorem slices_Min_int_L5_ok : ToldOK Try.prog 0 (loopAt (bodyOf fn_slices_Min_int) [0]) (LSh.told slices_Min_int_L5_sh 0 (slices_Min_int_L5_step)) :=
  loop_ok (E := slices_Min_int_E) (slices_Min_int_Eok) (told := slices_Min_int_told) (l := slices_Min_int_L5_sh) (step := slices_Min_int_L5_step) (loopsOK_of (ls := []) (by kernel_rfl) trivial) (by kernel_rfl) (fun v => by kernel_rfl)
theorem slices_Min_int_ok : FOK Try.prog n_slices_Min_int slices_Min_int_sh slices_Min_int_fo slices_Min_int :=
  fn_ok (E := slices_Min_int_E) (slices_Min_int_Eok) (told := slices_Min_int_told) (fl := []) (c := bodyOf fn_slices_Min_int) (s := slices_Min_int_sh) (l := slices_Min_int_fo) (tree := slices_Min_int_t) fnat_slices_Min_int (by kernel_rfl) (by kernel_rfl) (by kernel_rfl) (loopsOK_of (ls := [loopAt (bodyOf fn_slices_Min_int) [0]]) (by kernel_rfl) ⟨.inr ⟨_, by kernel_rfl, slices_Min_int_L5_ok⟩, trivial⟩) (fun v => by kernel_rfl)

theorem slices_Min_int_eq (l : List Int) (h0 : l ≠ []) (hl : l.length < 4611686018427387904) : ∃ m, slices_Min_int l = some m ∧ ∀ c, c ≤ m ↔ ∀ y ∈ l, c ≤ y := by
  have key : ∀ n k m, k + n = l.length → (∀ c : Int, c ≤ m ↔ ∀ y ∈ l.take k, c ≤ y) → ∃ m', slices_Min_int_L5 (l, (m, (k : Int))) = some m' ∧ ∀ c, c ≤ m' ↔ ∀ y ∈ l, c ≤ y := by
    intro n
    induction n with
    | zero =>
      intro k m hk h
      obtain rfl : k = l.length := by omega
      rw [List.take_length] at h
      refine ⟨m, ?_, h⟩
      simp only [slices_Min_int_L5]
      exact loopO_done (by simp [slices_Min_int_L5_step, T.run])
    | succ n ih =>
      intro k m hk h
      have hlt : k < l.length := by omega
      have hst : (slices_Min_int_L5_step (l, (m, (k : Int)))).run = some (.inl (l, ((if l[k] < m then l[k] else m), ((k + 1 : Nat) : Int)))) := by
        simp only [slices_Min_int_L5_step, T.run, Int.toNat_natCast, List.getElem?_eq_getElem hlt, Option.bind_some]
        rw [w64_id (z := (k : Int) + 1) (by omega) (by omega)]
        have h1 : (k : Int) < (l.length : Int) := by omega
        have h2 : (0 : Int) ≤ k ∧ (k : Int) < (l.length : Int) := by omega
        simp [h1, h2]
      simp only [slices_Min_int_L5] at ih ⊢
      rw [loopO_next hst]
      refine ih (k + 1) _ (by omega) ?_
      intro c
      rw [List.take_add_one, List.getElem?_eq_getElem hlt]
      simp only [Option.toList_some, List.mem_append, List.mem_singleton]
      have hc := h c
      constructor
      · intro h1 y hy
        rcases hy with hy | rfl
        · exact hc.1 (by split at h1 <;> omega) y hy
        · split at h1 <;> omega
      · intro h1
        have h2 := hc.2 (fun y hy => h1 y (Or.inl hy))
        have h3 := h1 l[k] (Or.inr rfl)
        split <;> omega
  obtain ⟨x, t, rfl⟩ := List.exists_cons_of_ne_nil h0
  obtain ⟨m', e, hm⟩ := key t.length 1 x (by simp; omega) (by intro c; simp)
  refine ⟨m', ?_, hm⟩
  have hn : ¬ (((x :: t).length : Int) < 1) := by simp; omega
  simp only [slices_Min_int, slices_Min_int_t, T.run, hn, decide_false, Bool.false_eq_true, if_false]
  rw [show ((1 : Nat) : Int) = 1 from rfl] at e
  simp [e]


def i_areFrom_sh : FSh := ⟨[(.one (.sl (.int .i64) false false)), (.one (.si .i64))], []⟩

def i_areFrom_fo : List FO := [⟨[(.one .sb)], []⟩]
noncomputable def i_areFrom_t : (List (Int) × Int) → T Bool := fun (list, least) =>
  (.sub (i_IsTermList list) fun z0 =>
  (.test z0
  (.test (decide (((List.length list) : Int) > 0))
   (.sub (slices_Min_int list) fun z1 =>
    (.ret (decide (z1 ≥ least))))
   (.ret false))
  (.ret false)))
noncomputable def i_areFrom (v : (List (Int) × Int)) : Option Bool := (i_areFrom_t v).run
noncomputable def i_areFrom_E : TEnv := ((E0.add1 n_i_IsTermList i_IsTermList_sh i_IsTermList_fo i_IsTermList).add1 n_slices_Min_int slices_Min_int_sh slices_Min_int_fo slices_Min_int)
theorem i_areFrom_Eok : (i_areFrom_E).OK := ((E0ok.add1 i_IsTermList_ok).add1 slices_Min_int_ok)
noncomputable def i_areFrom_told : Nat → Option SealT := fun id => none
theorem i_areFrom_ok : FOK Try.prog n_i_areFrom i_areFrom_sh i_areFrom_fo i_areFrom :=
  fn_ok (E := i_areFrom_E) (i_areFrom_Eok) (told := i_areFrom_told) (fl := []) (c := bodyOf fn_i_areFrom) (s := i_areFrom_sh) (l := i_areFrom_fo) (tree := i_areFrom_t) fnat_i_areFrom (by kernel_rfl) (by kernel_rfl) (by kernel_rfl) (loopsOK_of (ls := []) (by kernel_rfl) trivial) (fun v => by kernel_rfl)

theorem i_areFrom_eq (l : List Int) (hl : l.length < 4611686018427387904) : i_areFrom (l, 1) = some (posT l) := by
  simp only [i_areFrom, i_areFrom_t, T.run, i_IsTermList_eq l hl, Option.bind_some, posT]
  have : decide ((l.length : Int) > 0) = decide (l ≠ []) := by cases l <;> simp
  rw [this]
  cases ht : isTerms l with
  | false => simp
  | true =>
    by_cases h : l = []
    · simp [h]
    · obtain ⟨m, e, hm⟩ := slices_Min_int_eq l h hl
      have : decide (m ≥ 1) = l.all (inB 1 30) := by
        rw [Bool.eq_iff_iff, List.all_eq_true]
        simp only [ge_iff_le, decide_eq_true_eq, hm, inB_iff]
        rw [isTerms_iff] at ht
        constructor
        · intro h1 x hx; exact ⟨h1 x hx, (ht.2 x hx).2⟩
        · intro h1 x hx; exact (h1 x hx).1
      simp [h, e, this]


def i_fraction_sh : FSh := ⟨[(.one (.sl (.int .i64) false false)), (.one (.si .i64))], []⟩

def i_fraction_L3_sh : LSh := ⟨(fun ex => match ex with | .norm => [(0, none), (1, none), (7, none), (8, none), (9, none)] | .exit i => if i = 0 then [(7, none), (8, none)] else [] | .ret => [(4, none), (5, none), (6, none)]), [(0, (.one (.sl (.int .i64) false false))), (1, (.one (.si .i64))), (7, (.one (.si .i64))), (8, (.one (.si .i64))), (9, (.one (.si .i64)))], [], [⟨.ret, [(4, (.one (.si .i64))), (5, (.one (.si .i64))), (6, (.one .sb))], []⟩, ⟨(.exit 0), [(7, (.one (.si .i64))), (8, (.one (.si .i64)))], []⟩]⟩
noncomputable def i_fraction_L3_step : (List (Int) × Int × Int × Int × Int) → T ((List (Int) × Int × Int × Int × Int) ⊕ ((Int × Int × Bool) ⊕ (Int × Int))) := fun (list, sign, num, den, i) =>
  (.test (decide (i ≥ 0))
  (.test (num == 0)
   (.ret (Sum.inr (Sum.inl ((0 : Int), ((0 : Int), false)))))
   (.test (decide ((0 ≤ i) ∧ (i < ((List.length list) : Int))))
    (.sub (list[(Int.toNat i)]?) fun z0 =>
     (.ret (Sum.inl (list, (sign, ((w64 ((w64 (z0 * num)) + (w64 (sign * den)))), (num, (w64 (i - 1)))))))))
    .fail))
  (.ret (Sum.inr (Sum.inr (num, den)))))
noncomputable def i_fraction_L3 (v : (List (Int) × Int × Int × Int × Int)) : Option ((Int × Int × Bool) ⊕ (Int × Int)) := loopO (fun v => (i_fraction_L3_step v).run) v

def i_fraction_fo : List FO := [⟨[(.one (.si .i64)), (.one (.si .i64)), (.one .sb)], []⟩]
noncomputable def i_fraction_t : (List (Int) × Int) → T (Int × Int × Bool) := fun (list, sign) =>
  (.test (decide ((0 ≤ (w64 (((List.length list) : Int) - 1))) ∧ ((w64 (((List.length list) : Int) - 1)) < ((List.length list) : Int))))
  (.sub (list[(Int.toNat (w64 (((List.length list) : Int) - 1)))]?) fun z0 =>
   (.sub (i_fraction_L3 (list, (sign, (z0, ((1 : Int), (w64 (((List.length list) : Int) - 2))))))) fun z1 =>
   (.test (Sum.isLeft z1)
   (.sub (Sum.getLeft? z1) fun z2 =>
    (.ret (z2.1, (z2.2.1, z2.2.2))))
   (.sub (Sum.getRight? z1) fun z3 =>
    (.test (decide (z3.2 < 0))
    (.ret ((w64 (0 - z3.1)), ((w64 (0 - z3.2)), true)))
    (.ret (z3.1, (z3.2, true))))))))
  .fail)
noncomputable def i_fraction (v : (List (Int) × Int)) : Option (Int × Int × Bool) := (i_fraction_t v).run
noncomputable def i_fraction_E : TEnv := E0
theorem i_fraction_Eok : (i_fraction_E).OK := E0ok
noncomputable def i_fraction_told : Nat → Option SealT := fun id => if id = 3 then some (LSh.told i_fraction_L3_sh 0 (i_fraction_L3_step)) else none
theorem i_fraction_L3_ok : ToldOK Try.prog 0 (loopAt (bodyOf fn_i_fraction) [0]) (LSh.told i_fraction_L3_sh 0 (i_fraction_L3_step)) :=
  loop_ok (E := i_fraction_E) (i_fraction_Eok) (told := i_fraction_told) (l := i_fraction_L3_sh) (step := i_fraction_L3_step) (loopsOK_of (ls := []) (by kernel_rfl) trivial) (by kernel_rfl) (fun v => by kernel_rfl)
theorem i_fraction_ok : FOK Try.prog n_i_fraction i_fraction_sh i_fraction_fo i_fraction :=
  fn_ok (E := i_fraction_E) (i_fraction_Eok) (told := i_fraction_told) (fl := []) (c := bodyOf fn_i_fraction) (s := i_fraction_sh) (l := i_fraction_fo) (tree := i_fraction_t) fnat_i_fraction (by kernel_rfl) (by kernel_rfl) (by kernel_rfl) (loopsOK_of (ls := [loopAt (bodyOf fn_i_fraction) [0]]) (by kernel_rfl) ⟨.inr ⟨_, by kernel_rfl, i_fraction_L3_ok⟩, trivial⟩) (fun v => by kernel_rfl)

theorem i_fraction_loop (l : List Int) (h30 : ∀ x ∈ l, 1 ≤ x ∧ x ≤ 30) (h10 : l.length ≤ 10) : ∀ (n : Nat) (i : Int) (a b : Int) (k : Nat), n + k = l.length → i = (n : Int) - 1 → 1 ≤ a → a ≤ pw k → 1 ≤ b → b ≤ pw k →
    ∃ q : Int × Int, i_fraction_L3 (l, (1, (a, (b, i)))) = some (.inr q) ∧ s_ctFraction_L3 (l, (1, (a, (b, i)))) = some (.inr q) ∧ 1 ≤ q.1 ∧ q.1 ≤ pw l.length ∧ 1 ≤ q.2 ∧ q.2 ≤ pw l.length := by
  intro n
  induction n with
  | zero =>
    intro i a b k hk hi h1 h2 h3 h4
    obtain rfl : k = l.length := by omega
    obtain rfl : i = -1 := by omega
    refine ⟨(a, b), ?_, ?_, h1, h2, h3, h4⟩
    · simp only [i_fraction_L3]; exact loopO_done (by simp [i_fraction_L3_step, T.run])
    · simp only [s_ctFraction_L3]; exact loopO_done (by simp [s_ctFraction_L3_step, T.run])
  | succ n ih =>
    intro i a b k hk hi h1 h2 h3 h4
    obtain rfl : i = (n : Int) := by omega
    have hlt : n < l.length := by omega
    have hx := h30 l[n] (List.getElem_mem hlt)
    have hp := pw_le (k := k) (by omega)
    have hps := pw_succ k
    have hm := mul_le (a := l[n]) (b := a) (A := 30) (B := pw k) (by omega) (by omega) (by omega) h2
    have hm1 : 1 * 1 ≤ l[n] * a := Int.mul_le_mul hx.1 h1 (by omega) (by omega)
    obtain ⟨q, q1, q2, q3⟩ := ih ((n : Int) - 1) (l[n] * a + b) a (k + 1) (by omega) rfl (by omega) (by omega) h1 (by omega)
    have w1 : w64 (l[n] * a) = l[n] * a := w64_id (by omega) (by omega)
    have w2 : w64 (1 * b) = b := by rw [Int.one_mul]; exact w64_id (by omega) (by omega)
    have w3 : w64 (l[n] * a + b) = l[n] * a + b := w64_id (by omega) (by omega)
    have w4 : w64 ((n : Int) - 1) = (n : Int) - 1 := w64_id (by omega) (by omega)
    have c1 : (n : Int) ≥ 0 := by omega
    have c2 : (0 : Int) ≤ n ∧ (n : Int) < (l.length : Int) := by omega
    have c3 : (a == 0) = false := by rw [beq_int]; simp; omega
    have c4 : ¬ (a < 0) := by omega
    refine ⟨q, ?_, ?_, q3⟩
    · simp only [i_fraction_L3] at q1 ⊢
      rw [← q1]
      refine loopO_next ?_
      simp only [i_fraction_L3_step, T.run, Int.toNat_natCast, List.getElem?_eq_getElem hlt, Option.bind_some, w1, w2, w3, w4, c1, c2, c3, decide_true, if_true, Bool.false_eq_true, if_false, and_self]
    · simp only [s_ctFraction_L3] at q2 ⊢
      rw [← q2]
      refine loopO_next ?_
      simp only [s_ctFraction_L3_step, T.run, Int.toNat_natCast, List.getElem?_eq_getElem hlt, Option.bind_some, w1, w2, w3, w4, c1, c2, c3, c4, decide_true, decide_false, if_true, Bool.false_eq_true, if_false, and_self]
theorem fraction_both (l : List Int) (h : posT l = true) : ∃ q : Int × Int, i_fraction (l, 1) = some (q.1, (q.2, true)) ∧ s_ctFraction (l, 1) = some (q.1, (q.2, true)) ∧ 1 ≤ q.1 ∧ q.1 ≤ pw l.length ∧ 1 ≤ q.2 ∧ q.2 ≤ pw l.length ∧ l.length ≤ 10 := by
  simp only [posT, Bool.and_eq_true, isTerms_iff, decide_eq_true_eq, List.all_eq_true, inB_iff] at h
  obtain ⟨⟨h10, _⟩, hne, h30⟩ := h
  have hpos : 0 < l.length := List.length_pos_iff.2 hne
  have hlt : l.length - 1 < l.length := by omega
  have hx := h30 l[l.length - 1] (List.getElem_mem hlt)
  have hp1 : pw 1 = 31 := by decide
  obtain ⟨q, q1, q2, q3⟩ := i_fraction_loop l h30 h10 (l.length - 1) ((l.length : Int) - 2) l[l.length - 1] 1 1 (by omega) (by omega) (by omega) (by omega) (by omega) (by omega)
  have w1 : w64 ((l.length : Int) - 1) = (l.length : Int) - 1 := w64_id (by omega) (by omega)
  have w2 : w64 ((l.length : Int) - 2) = (l.length : Int) - 2 := w64_id (by omega) (by omega)
  have e1 : ((l.length : Int) - 1).toNat = l.length - 1 := by omega
  have c1 : (0 : Int) ≤ (l.length : Int) - 1 ∧ (l.length : Int) - 1 < (l.length : Int) := by omega
  have c2 : ¬ (q.2 < 0) := by omega
  refine ⟨q, ?_, ?_, q3.1, q3.2.1, q3.2.2.1, q3.2.2.2, h10⟩
  · simp only [i_fraction, i_fraction_t, T.run, w1, w2, e1, List.getElem?_eq_getElem hlt, Option.bind_some, c1, and_self, decide_true, if_true, q1, Sum.isLeft, Bool.false_eq_true, if_false, Sum.getRight?, c2, decide_false]
  · simp only [s_ctFraction, s_ctFraction_t, T.run, w1, w2, e1, List.getElem?_eq_getElem hlt, Option.bind_some, c1, and_self, decide_true, if_true, q2, Sum.isLeft, Bool.false_eq_true, if_false, Sum.getRight?]


def i_FractionOfPlus_sh : FSh := ⟨[(.one (.sl (.int .i64) false false))], []⟩

def i_FractionOfPlus_fo : List FO := [⟨[(.one (.si .i64)), (.one (.si .i64)), (.one .sb)], []⟩]
noncomputable def i_FractionOfPlus_t : List (Int) → T (Int × Int × Bool) := fun list =>
  (.sub (i_areFrom (list, (1 : Int))) fun z0 =>
  (.test (! z0)
  (.ret ((0 : Int), ((0 : Int), false)))
  (.sub (i_fraction (list, (1 : Int))) fun z1 =>
   (.ret (z1.1, (z1.2.1, z1.2.2))))))
noncomputable def i_FractionOfPlus (v : List (Int)) : Option (Int × Int × Bool) := (i_FractionOfPlus_t v).run
noncomputable def i_FractionOfPlus_E : TEnv := ((E0.add1 n_i_areFrom i_areFrom_sh i_areFrom_fo i_areFrom).add1 n_i_fraction i_fraction_sh i_fraction_fo i_fraction)
theorem i_FractionOfPlus_Eok : (i_FractionOfPlus_E).OK := ((E0ok.add1 i_areFrom_ok).add1 i_fraction_ok)
noncomputable def i_FractionOfPlus_told : Nat → Option SealT := fun id => none
theorem i_FractionOfPlus_ok : FOK Try.prog n_i_FractionOfPlus i_FractionOfPlus_sh i_FractionOfPlus_fo i_FractionOfPlus :=
  fn_ok (E := i_FractionOfPlus_E) (i_FractionOfPlus_Eok) (told := i_FractionOfPlus_told) (fl := []) (c := bodyOf fn_i_FractionOfPlus) (s := i_FractionOfPlus_sh) (l := i_FractionOfPlus_fo) (tree := i_FractionOfPlus_t) fnat_i_FractionOfPlus (by kernel_rfl) (by kernel_rfl) (by kernel_rfl) (loopsOK_of (ls := []) (by kernel_rfl) trivial) (fun v => by kernel_rfl)

def i_MinusOfPlus_sh : FSh := ⟨[(.one (.sl (.int .i64) false false))], []⟩

def i_MinusOfPlus_fo : List FO := [⟨[(.one (.rw 0 0)), (.one .sb)], [(.row 0 (.int .i64))]⟩]
noncomputable def i_MinusOfPlus_t : List (Int) → T ((Unit × Bool) × List (Int)) := fun list =>
  (.sub (i_FractionOfPlus list) fun z0 =>
  (.test (! z0.2.2)
  (.test true
   (.ret (((), false), ([] : List (Int))))
   .fail)
  (.sub (i_minusTerms (z0.1, z0.2.1)) fun z1 =>
   (.test (decide ((0 = 0) ∧ ((List.length z1.2) = (List.length z1.2))))
   (.sub (i_listed (((), z1.1.2), z1.2)) fun z2 =>
    (.test (Sum.isLeft z2)
    (.sub (Sum.getLeft? z2) fun z3 =>
     (.test (decide ((0 = 0) ∧ ((List.length z3.2.2) = (List.length z3.2.2))))
     (.ret (((), z3.1.2), z3.2.2))
     .fail))
    (.sub (Sum.getRight? z2) fun z4 =>
     (.test (decide ((0 = 0) ∧ ((List.length z4.2) = (List.length z4.2))))
     (.ret (((), z4.1.2), z4.2))
     .fail))))
   .fail))))
noncomputable def i_MinusOfPlus (v : List (Int)) : Option ((Unit × Bool) × List (Int)) := (i_MinusOfPlus_t v).run
noncomputable def i_MinusOfPlus_E : TEnv := (((E0.add1 n_i_FractionOfPlus i_FractionOfPlus_sh i_FractionOfPlus_fo i_FractionOfPlus).add1 n_i_minusTerms i_minusTerms_sh i_minusTerms_fo i_minusTerms).add1 n_i_listed i_listed_sh i_listed_fo i_listed)
theorem i_MinusOfPlus_Eok : (i_MinusOfPlus_E).OK := (((E0ok.add1 i_FractionOfPlus_ok).add1 i_minusTerms_ok).add1 i_listed_ok)
noncomputable def i_MinusOfPlus_told : Nat → Option SealT := fun id => none
theorem i_MinusOfPlus_ok : FOK Try.prog n_i_MinusOfPlus i_MinusOfPlus_sh i_MinusOfPlus_fo i_MinusOfPlus :=
  fn_ok (E := i_MinusOfPlus_E) (i_MinusOfPlus_Eok) (told := i_MinusOfPlus_told) (fl := []) (c := bodyOf fn_i_MinusOfPlus) (s := i_MinusOfPlus_sh) (l := i_MinusOfPlus_fo) (tree := i_MinusOfPlus_t) fnat_i_MinusOfPlus (by kernel_rfl) (by kernel_rfl) (by kernel_rfl) (loopsOK_of (ls := []) (by kernel_rfl) trivial) (fun v => by kernel_rfl)

theorem minus_plus (l : List Int) (hl : l.length < 4611686018427387904) : ∃ r : Bool × List Int, r.2.length ≤ 10 ∧ i_MinusOfPlus l = some (((), r.1), r.2) ∧ s_MinusOfPlus l = some (((), r.1), r.2) := by
  simp only [i_MinusOfPlus, i_MinusOfPlus_t, s_MinusOfPlus, s_MinusOfPlus_t, i_FractionOfPlus, i_FractionOfPlus_t, T.run, i_areFrom_eq l hl, s_ctPositive_eq l hl, Option.bind_some]
  cases hp : posT l with
  | false => exact ⟨(false, []), by simp, by simp, by simp⟩
  | true =>
    obtain ⟨q, f1, f2, g1, g2, g3, g4, g5⟩ := fraction_both l hp
    have hpw := pw_le g5
    obtain ⟨ext, e1, e2, e3⟩ := minus_both q.1 q.2 (by omega) (by omega) (by omega) (by omega)
    simp only [f1, f2, Bool.not_true, Bool.false_eq_true, if_false, Option.bind_some, e2, e3, i_listed_eq]
    cases ht : isTerms ext with
    | true => exact ⟨(true, ext), by rw [isTerms_iff] at ht; exact ht.1, by simp [Sum.isLeft], by simp [Sum.isLeft]⟩
    | false => exact ⟨(false, []), by simp, by simp [Sum.isLeft], by simp [Sum.isLeft]⟩


def l_FnExactMinusOfPlus_sh : FSh := ⟨[(.one (.sl (.int .i64) false false))], []⟩

def l_FnExactMinusOfPlus_fo : List FO := [⟨[(.one .sb)], []⟩]
noncomputable def l_FnExactMinusOfPlus_t : List (Int) → T Bool := fun aList =>
  (.test (decide (((List.length aList) : Int) > 1048576))
  (.ret true)
  (.sub (l_toIntS aList) fun z0 =>
   (.test (decide ((0 + (List.length z0.2)) ≤ (List.length z0.2)))
   (.sub (s_MinusOfPlus (win z0.2 0 (List.length z0.2))) fun z1 =>
    (.sub (l_toIntS aList) fun z2 =>
    (.test (decide ((0 + (List.length z2.2)) ≤ (List.length z2.2)))
    (.sub (i_MinusOfPlus (win z2.2 0 (List.length z2.2))) fun z3 =>
     (.test (decide ((0 + (List.length z3.2)) ≤ (List.length z3.2)))
     (.test (decide ((0 + (List.length z1.2)) ≤ (List.length z1.2)))
      (.sub (l_eqIntS ((win z3.2 0 (List.length z3.2)), (win z1.2 0 (List.length z1.2)))) fun z4 =>
       (.test (! z4)
       (.ret false)
       (.test (! (z3.1.2 == z1.1.2))
        (.ret false)
        (.sub (l_toIntS aList) fun z5 =>
         (.test (decide ((0 + (List.length z2.2)) ≤ (List.length z2.2)))
         (.test (decide ((0 + (List.length z5.2)) ≤ (List.length z5.2)))
          (.sub (l_eqIntS ((win z2.2 0 (List.length z2.2)), (win z5.2 0 (List.length z5.2)))) fun z6 =>
           (.test (! z6)
           (.ret false)
           (.test (decide ((0 = 0) ∧ ((List.length z2.2) = (List.length z2.2))))
            (.sub (l_markIntS (((), (1 : Int)), z2.2)) fun z7 =>
             (.test (decide (z7.1 < 0))
             (.ret false)
             (.test (decide ((0 + (List.length z3.2)) ≤ (List.length z3.2)))
              (.test (decide ((0 + (List.length z1.2)) ≤ (List.length z1.2)))
               (.sub (l_eqIntS ((win z3.2 0 (List.length z3.2)), (win z1.2 0 (List.length z1.2)))) fun z8 =>
                (.test (! z8)
                (.ret false)
                (.test (! (z3.1.2 == z1.1.2))
                 (.ret false)
                 (.test (decide ((0 = 0) ∧ ((List.length z3.2) = (List.length z3.2))))
                  (.sub (l_markIntS (((), (1 : Int)), z3.2)) fun z9 =>
                   (.test (decide ((0 + (List.length z3.2)) ≤ (List.length z9.2)))
                   (.sub (l_heldIntS ((win z9.2 0 (List.length z3.2)), (1 : Int))) fun z10 =>
                    (.test (decide (z10 < 0))
                    (.ret false)
                    (.test (z10 != z9.1)
                     (.ret false)
                     (.sub (l_toIntS aList) fun z11 =>
                      (.test (decide ((0 + (List.length z11.2)) ≤ (List.length z11.2)))
                      (.sub (i_MinusOfPlus (win z11.2 0 (List.length z11.2))) fun z12 =>
                       (.test (decide ((0 + (List.length z12.2)) ≤ (List.length z12.2)))
                       (.test (decide ((0 + (List.length z1.2)) ≤ (List.length z1.2)))
                        (.sub (l_eqIntS ((win z12.2 0 (List.length z12.2)), (win z1.2 0 (List.length z1.2)))) fun z13 =>
                         (.test (! z13)
                         (.ret false)
                         (.test (! (z12.1.2 == z1.1.2))
                          (.ret false)
                          (.test (decide ((0 + (List.length z3.2)) ≤ (List.length z9.2)))
                           (.sub (l_heldIntS ((win z9.2 0 (List.length z3.2)), (1 : Int))) fun z14 =>
                            (.test (decide (z14 < 0))
                            (.ret false)
                            (.test (z14 != z9.1)
                             (.ret false)
                             (.ret true))))
                           .fail))))
                        .fail)
                       .fail))
                      .fail)))))
                   .fail))
                  .fail))))
               .fail)
              .fail)))
            .fail)))
          .fail)
         .fail)))))
      .fail)
     .fail))
    .fail)))
   .fail)))
noncomputable def l_FnExactMinusOfPlus (v : List (Int)) : Option Bool := (l_FnExactMinusOfPlus_t v).run
noncomputable def l_FnExactMinusOfPlus_E : TEnv := ((((((E0.add1 n_l_toIntS l_toIntS_sh l_toIntS_fo l_toIntS).add1 n_s_MinusOfPlus s_MinusOfPlus_sh s_MinusOfPlus_fo s_MinusOfPlus).add1 n_i_MinusOfPlus i_MinusOfPlus_sh i_MinusOfPlus_fo i_MinusOfPlus).add1 n_l_eqIntS l_eqIntS_sh l_eqIntS_fo l_eqIntS).add1 n_l_markIntS l_markIntS_sh l_markIntS_fo l_markIntS).add1 n_l_heldIntS l_heldIntS_sh l_heldIntS_fo l_heldIntS)
theorem l_FnExactMinusOfPlus_Eok : (l_FnExactMinusOfPlus_E).OK := ((((((E0ok.add1 l_toIntS_ok).add1 s_MinusOfPlus_ok).add1 i_MinusOfPlus_ok).add1 l_eqIntS_ok).add1 l_markIntS_ok).add1 l_heldIntS_ok)
noncomputable def l_FnExactMinusOfPlus_told : Nat → Option SealT := fun id => none
theorem l_FnExactMinusOfPlus_ok : FOK Try.prog n_l_FnExactMinusOfPlus l_FnExactMinusOfPlus_sh l_FnExactMinusOfPlus_fo l_FnExactMinusOfPlus :=
  fn_ok (E := l_FnExactMinusOfPlus_E) (l_FnExactMinusOfPlus_Eok) (told := l_FnExactMinusOfPlus_told) (fl := []) (c := bodyOf fn_l_FnExactMinusOfPlus) (s := l_FnExactMinusOfPlus_sh) (l := l_FnExactMinusOfPlus_fo) (tree := l_FnExactMinusOfPlus_t) fnat_l_FnExactMinusOfPlus (by kernel_rfl) (by kernel_rfl) (by kernel_rfl) (loopsOK_of (ls := []) (by kernel_rfl) trivial) (fun v => by kernel_rfl)

theorem l_FnExactMinusOfPlus_true (l : List Int) (hs : smallL ASh.small [.one (.sl (.int .i64) false false)] l) : l_FnExactMinusOfPlus l = some true := by
  have hl : l.length < 4611686018427387904 := by have := hs.1; omega
  rw [l_FnExactMinusOfPlus, l_FnExactMinusOfPlus_t, T.run_test]
  simp only [decide_eq_true_eq]
  split
  · rfl
  · have h : l.length < 10000000000000 := by omega
    obtain ⟨⟨ok, r⟩, hr, h1, h2⟩ := minus_plus l hl
    simp only at hr h1 h2
    have hl1 : r.length < 4611686018427387904 := by omega
    have hm := l_markIntS_eq 1 r (by omega) (by omega)
    have hml := l_markIntS_eq 1 l (by omega) (by omega)
    have hh := l_heldIntS_eq 1 r.length (by omega) (by omega)
    have hw : win (iot 1 r.length) 0 r.length = iot 1 r.length := by have := win_all (iot 1 r.length); rwa [iot_len] at this
    have hx : ¬ ((1 : Int) + r.length < 0) := by omega
    have hx2 : ¬ ((1 : Int) + l.length < 0) := by omega
    simp (config := { maxSteps := 10000000 }) [T.run, l_toIntS_eq l h, win_all, h1, h2, l_eqIntS_eq r r hl1, l_eqIntS_eq l l hl, hm, hml, iot_len, hw, hh, hx, hx2]


end Go.Proofs.W
