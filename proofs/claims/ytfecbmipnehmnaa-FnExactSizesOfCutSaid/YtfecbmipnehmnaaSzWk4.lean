/- Functions of the program, walked, and what they compute. -/
import Derived.Test.YtfecbmipnehmnaaSzWk3
set_option linter.unusedVariables false
set_option linter.unusedSimpArgs false
set_option maxRecDepth 100000
set_option maxHeartbeats 4000000
namespace Go.Proofs.W
open Go Go.Gm Go.Proofs
open Go.RowKit Go.Shelf
def l_markDiagonalS_sh : FSh := ⟨[(.one (.rw 0 0)), (.one (.si .i64))], [(.row 0 (.pair (.int .i64) (.int .i64)))]⟩

def l_markDiagonalS_L2_sh : LSh := ⟨(fun ex => match ex with | .norm => [(0, none), (1, none), (5, none)] | .exit i => if i = 0 then [(1, none)] else [] | .ret => [(4, none)]), [(0, (.one (.rw 0 0))), (1, (.one (.si .i64))), (5, (.one (.si .i64)))], [(.row 0 (.pair (.int .i64) (.int .i64)))], [⟨(.exit 0), [(1, (.one (.si .i64)))], [(.row 0 (.pair (.int .i64) (.int .i64)))]⟩], [], []⟩
noncomputable def l_markDiagonalS_L2_step : ((Unit × Int × Int) × List ((Int × Int))) → T (((Unit × Int × Int) × List ((Int × Int))) ⊕ (Int × List ((Int × Int)))) := fun (((), k, i), a) =>
  (.test (decide (i < ((List.length a) : Int)))
  (.test (decide ((0 ≤ i) ∧ (i < ((List.length a) : Int))))
   (.sub (a[(0 + (Int.toNat i))]?) fun z0 =>
    (.test (decide ((0 ≤ i) ∧ (i < ((List.length a) : Int))))
    (.sub ((List.set a (0 + (Int.toNat i)) (k, z0.2))[(0 + (Int.toNat i))]?) fun z1 =>
     (.test (decide ((0 = 0) ∧ ((List.length a) = (List.length (List.set (List.set a (0 + (Int.toNat i)) (k, z0.2)) (0 + (Int.toNat i)) (z1.1, (w64 (k + 1))))))))
     (.ret (Sum.inl (((), ((w64 ((w64 (k + 1)) + 1)), (w64 (i + 1)))), (List.set (List.set a (0 + (Int.toNat i)) (k, z0.2)) (0 + (Int.toNat i)) (z1.1, (w64 (k + 1)))))))
     .fail))
    .fail))
   .fail)
  (.ret (Sum.inr (k, a))))
noncomputable def l_markDiagonalS_L2 (v : ((Unit × Int × Int) × List ((Int × Int)))) : Option (Int × List ((Int × Int))) := loopO (fun v => (l_markDiagonalS_L2_step v).run) v

def l_markDiagonalS_fo : List FO := [⟨[(.one (.si .i64))], [(.row 0 (.pair (.int .i64) (.int .i64)))]⟩]
noncomputable def l_markDiagonalS_t : ((Unit × Int) × List ((Int × Int))) → T (Int × List ((Int × Int))) := fun (((), k), a) =>
  (.test (decide ((0 = 0) ∧ ((List.length a) = (List.length a))))
  (.sub (l_markDiagonalS_L2 (((), (k, (0 : Int))), a)) fun z0 =>
   (.ret (z0.1, z0.2)))
  .fail)
noncomputable def l_markDiagonalS (v : ((Unit × Int) × List ((Int × Int)))) : Option (Int × List ((Int × Int))) := (l_markDiagonalS_t v).run
noncomputable def l_markDiagonalS_E : TEnv := E0
theorem l_markDiagonalS_Eok : (l_markDiagonalS_E).OK := E0ok
noncomputable def l_markDiagonalS_told : Nat → Option SealT := fun id => if id = 2 then some (LSh.told l_markDiagonalS_L2_sh 1 (l_markDiagonalS_L2_step)) else none
theorem l_markDiagonalS_L2_ok : ToldOK Try.prog 1 (loopAt (bodyOf fn_l_markDiagonalS) [0]) (LSh.told l_markDiagonalS_L2_sh 1 (l_markDiagonalS_L2_step)) :=
  loop_ok (E := l_markDiagonalS_E) (l_markDiagonalS_Eok) (told := l_markDiagonalS_told) (l := l_markDiagonalS_L2_sh) (step := l_markDiagonalS_L2_step) (loopsOK_of (ls := []) (by kernel_rfl) trivial) (by kernel_rfl) (fun v => by kernel_rfl)
theorem l_markDiagonalS_ok : FOK Try.prog n_l_markDiagonalS l_markDiagonalS_sh l_markDiagonalS_fo l_markDiagonalS :=
  fn_ok (E := l_markDiagonalS_E) (l_markDiagonalS_Eok) (told := l_markDiagonalS_told) (fl := []) (c := bodyOf fn_l_markDiagonalS) (s := l_markDiagonalS_sh) (l := l_markDiagonalS_fo) (tree := l_markDiagonalS_t) fnat_l_markDiagonalS (by kernel_rfl) (by kernel_rfl) (by kernel_rfl) (loopsOK_of (ls := [loopAt (bodyOf fn_l_markDiagonalS) [0]]) (by kernel_rfl) ⟨.inr ⟨_, by kernel_rfl, l_markDiagonalS_L2_ok⟩, trivial⟩) (fun v => by kernel_rfl)

theorem l_markDiagonalS_L2_eq (k : Int) (l : List (Int × Int)) (hk : 0 ≤ k ∧ k < 1000000000000) (hl : l.length < 1000000000000000) : ∀ n i, i + n = l.length →
    l_markDiagonalS_L2 (((), (k + 2 * (i : Int), (i : Int))), iotD k i ++ l.drop i) = some (k + 2 * (l.length : Int), iotD k l.length) := by
  intro n
  induction n with
  | zero =>
    intro i hi
    obtain rfl : i = l.length := by omega
    rw [List.drop_length, List.append_nil]
    simp only [l_markDiagonalS_L2]
    exact loopO_done (by simp [l_markDiagonalS_L2_step, T.run, iotD_len])
  | succ n ih =>
    intro i hi
    have hlt : i < l.length := by omega
    have hd : l.drop i = l[i] :: l.drop (i + 1) := List.drop_eq_getElem_cons hlt
    have hlen : (iotD k i ++ l.drop i).length = l.length := by rw [List.length_append, iotD_len, List.length_drop]; omega
    have hget : (iotD k i ++ l.drop i)[i]? = some l[i] := by
      rw [List.getElem?_append_right (by rw [iotD_len]; omega), iotD_len, Nat.sub_self, hd]; rfl
    have hset : ∀ x : Int × Int, List.set (iotD k i ++ l.drop i) i x = iotD k i ++ x :: l.drop (i + 1) := fun x => by
      rw [List.set_append_right _ _ (by rw [iotD_len]; omega), iotD_len, Nat.sub_self, hd]; rfl
    have hset2 : ∀ x y : Int × Int, List.set (iotD k i ++ x :: l.drop (i + 1)) i y = iotD k i ++ y :: l.drop (i + 1) := fun x y => by
      rw [List.set_append_right _ _ (by rw [iotD_len]; omega), iotD_len, Nat.sub_self]; rfl
    have hget2 : ∀ x : Int × Int, (iotD k i ++ x :: l.drop (i + 1))[i]? = some x := fun x => by
      rw [List.getElem?_append_right (by rw [iotD_len]; omega), iotD_len, Nat.sub_self]; rfl
    have hlen2 : ∀ x : Int × Int, (iotD k i ++ x :: l.drop (i + 1)).length = l.length := fun x => by rw [List.length_append, iotD_len, List.length_cons, List.length_drop]; omega
    simp only [l_markDiagonalS_L2] at ih ⊢
    have h1 : (i : Int) < (l.length : Int) := by omega
    have h2 : (0 : Int) ≤ i ∧ (i : Int) < (l.length : Int) := by omega
    have e1 : k + 2 * (i : Int) + 1 + 1 = k + 2 * ((i + 1 : Nat) : Int) := by omega
    have e2 : ((i : Int) + 1) = ((i + 1 : Nat) : Int) := by omega
    have hst : (l_markDiagonalS_L2_step (((), (k + 2 * (i : Int), (i : Int))), iotD k i ++ l.drop i)).run = some (.inl (((), (k + 2 * ((i + 1 : Nat) : Int), ((i + 1 : Nat) : Int))), iotD k (i + 1) ++ l.drop (i + 1))) := by
      simp only [l_markDiagonalS_L2_step, T.run_test, T.run_sub, T.run_ret, T.run_fail, hlen, Int.toNat_natCast, Nat.zero_add, hget, Option.bind_some, hset, hget2, hset2, hlen2]
      rw [w64_id (z := k + 2 * (i : Int) + 1) (by omega) (by omega), w64_id (z := k + 2 * (i : Int) + 1 + 1) (by omega) (by omega), w64_id (z := (i : Int) + 1) (by omega) (by omega), e1, e2]
      simp only [h1, h2, decide_true, if_true, and_self]
      rw [iotD_succ, List.append_assoc]
      rfl
    rw [loopO_next hst]
    exact ih (i + 1) (by omega)
theorem l_markDiagonalS_eq (k : Int) (l : List (Int × Int)) (hk : 0 ≤ k ∧ k < 1000000000000) (hl : l.length < 1000000000000000) : l_markDiagonalS (((), k), l) = some (k + 2 * (l.length : Int), iotD k l.length) := by
  have h := l_markDiagonalS_L2_eq k l hk hl l.length 0 (by omega)
  simp only [l_markDiagonalS, l_markDiagonalS_t, T.run]
  have e : iotD k 0 ++ l.drop 0 = l := by simp [iotD]
  rw [e, show ((0 : Nat) : Int) = 0 from rfl, Int.mul_zero, Int.add_zero] at h
  simp [h]


def l_markIntS_sh : FSh := ⟨[(.one (.rw 0 0)), (.one (.si .i64))], [(.row 0 (.int .i64))]⟩

def l_markIntS_L2_sh : LSh := ⟨(fun ex => match ex with | .norm => [(0, none), (1, none), (5, none)] | .exit i => if i = 0 then [(1, none)] else [] | .ret => [(4, none)]), [(0, (.one (.rw 0 0))), (1, (.one (.si .i64))), (5, (.one (.si .i64)))], [(.row 0 (.int .i64))], [⟨(.exit 0), [(1, (.one (.si .i64)))], [(.row 0 (.int .i64))]⟩], [], []⟩
noncomputable def l_markIntS_L2_step : ((Unit × Int × Int) × List (Int)) → T (((Unit × Int × Int) × List (Int)) ⊕ (Int × List (Int))) := fun (((), k, i), a) =>
  (.test (decide (i < ((List.length a) : Int)))
  (.test (decide ((0 ≤ i) ∧ (i < ((List.length a) : Int))))
   (.sub (a[(0 + (Int.toNat i))]?) fun z0 =>
    (.test (decide ((0 = 0) ∧ ((List.length a) = (List.length (List.set a (0 + (Int.toNat i)) k)))))
    (.ret (Sum.inl (((), ((w64 (k + 1)), (w64 (i + 1)))), (List.set a (0 + (Int.toNat i)) k))))
    .fail))
   .fail)
  (.ret (Sum.inr (k, a))))
noncomputable def l_markIntS_L2 (v : ((Unit × Int × Int) × List (Int))) : Option (Int × List (Int)) := loopO (fun v => (l_markIntS_L2_step v).run) v

def l_markIntS_fo : List FO := [⟨[(.one (.si .i64))], [(.row 0 (.int .i64))]⟩]
noncomputable def l_markIntS_t : ((Unit × Int) × List (Int)) → T (Int × List (Int)) := fun (((), k), a) =>
  (.test (decide ((0 = 0) ∧ ((List.length a) = (List.length a))))
  (.sub (l_markIntS_L2 (((), (k, (0 : Int))), a)) fun z0 =>
   (.ret (z0.1, z0.2)))
  .fail)
noncomputable def l_markIntS (v : ((Unit × Int) × List (Int))) : Option (Int × List (Int)) := (l_markIntS_t v).run
noncomputable def l_markIntS_E : TEnv := E0
theorem l_markIntS_Eok : (l_markIntS_E).OK := E0ok
noncomputable def l_markIntS_told : Nat → Option SealT := fun id => if id = 2 then some (LSh.told l_markIntS_L2_sh 1 (l_markIntS_L2_step)) else none
theorem l_markIntS_L2_ok : ToldOK Try.prog 1 (loopAt (bodyOf fn_l_markIntS) [0]) (LSh.told l_markIntS_L2_sh 1 (l_markIntS_L2_step)) :=
  loop_ok (E := l_markIntS_E) (l_markIntS_Eok) (told := l_markIntS_told) (l := l_markIntS_L2_sh) (step := l_markIntS_L2_step) (loopsOK_of (ls := []) (by kernel_rfl) trivial) (by kernel_rfl) (fun v => by kernel_rfl)
theorem l_markIntS_ok : FOK Try.prog n_l_markIntS l_markIntS_sh l_markIntS_fo l_markIntS :=
  fn_ok (E := l_markIntS_E) (l_markIntS_Eok) (told := l_markIntS_told) (fl := []) (c := bodyOf fn_l_markIntS) (s := l_markIntS_sh) (l := l_markIntS_fo) (tree := l_markIntS_t) fnat_l_markIntS (by kernel_rfl) (by kernel_rfl) (by kernel_rfl) (loopsOK_of (ls := [loopAt (bodyOf fn_l_markIntS) [0]]) (by kernel_rfl) ⟨.inr ⟨_, by kernel_rfl, l_markIntS_L2_ok⟩, trivial⟩) (fun v => by kernel_rfl)

theorem l_markIntS_L2_eq (k : Int) (l : List Int) (hk : 0 ≤ k ∧ k < 1000000000000) (hl : l.length < 1000000000000000) : ∀ n i, i + n = l.length →
    l_markIntS_L2 (((), (k + i, (i : Int))), iot k i ++ l.drop i) = some (k + l.length, iot k l.length) := by
  intro n
  induction n with
  | zero =>
    intro i hi
    obtain rfl : i = l.length := by omega
    rw [List.drop_length, List.append_nil]
    simp only [l_markIntS_L2]
    exact loopO_done (by simp [l_markIntS_L2_step, T.run, iot_len])
  | succ n ih =>
    intro i hi
    have hlt : i < l.length := by omega
    have hd : l.drop i = l[i] :: l.drop (i + 1) := List.drop_eq_getElem_cons hlt
    have hlen : (iot k i ++ l.drop i).length = l.length := by rw [List.length_append, iot_len, List.length_drop]; omega
    have hget : (iot k i ++ l.drop i)[i]? = some l[i] := by
      rw [List.getElem?_append_right (by rw [iot_len]; omega), iot_len, Nat.sub_self, hd]; rfl
    have hset : List.set (iot k i ++ l.drop i) i (k + i) = iot k (i + 1) ++ l.drop (i + 1) := by
      rw [List.set_append_right _ _ (by rw [iot_len]; omega), iot_len, Nat.sub_self, hd, iot_succ, List.append_assoc]; rfl
    simp only [l_markIntS_L2] at ih ⊢
    have hst : (l_markIntS_L2_step (((), (k + i, (i : Int))), iot k i ++ l.drop i)).run = some (.inl (((), (k + (i + 1 : Nat), ((i + 1 : Nat) : Int))), iot k (i + 1) ++ l.drop (i + 1))) := by
      simp only [l_markIntS_L2_step, T.run, hlen, Int.toNat_natCast, Nat.zero_add, hget, Option.bind_some, hset]
      rw [w64_id (z := k + i + 1) (by omega) (by omega), w64_id (z := (i : Int) + 1) (by omega) (by omega)]
      have h1 : (i : Int) < (l.length : Int) := by omega
      have h2 : (0 : Int) ≤ i ∧ (i : Int) < (l.length : Int) := by omega
      simp only [h1, h2, decide_true, if_true]
      have h3 : (iot k (i + 1) ++ l.drop (i + 1)).length = l.length := by rw [List.length_append, iot_len, List.length_drop]; omega
      simp [h3, Int.add_assoc]
    rw [loopO_next hst]
    exact ih (i + 1) (by omega)
theorem l_markIntS_eq (k : Int) (l : List Int) (hk : 0 ≤ k ∧ k < 1000000000000) (hl : l.length < 1000000000000000) : l_markIntS (((), k), l) = some (k + l.length, iot k l.length) := by
  have h := l_markIntS_L2_eq k l hk hl l.length 0 (by omega)
  simp only [l_markIntS, l_markIntS_t, T.run]
  have e : iot k 0 ++ l.drop 0 = l := by simp [iot]
  rw [e, show ((0 : Nat) : Int) = 0 from rfl, Int.add_zero] at h
  simp [h]


def l_heldIntS_sh : FSh := ⟨[(.one (.sl (.int .i64) false false)), (.one (.si .i64))], []⟩

def l_heldIntS_L2_sh : LSh := ⟨(fun ex => match ex with | .norm => [(0, none), (1, none), (5, none)] | .exit i => if i = 0 then [(1, none)] else [] | .ret => [(4, none)]), [(0, (.one (.sl (.int .i64) false false))), (1, (.one (.si .i64))), (5, (.one (.si .i64)))], [], [⟨.ret, [(4, (.one (.si .i64)))], []⟩, ⟨(.exit 0), [(1, (.one (.si .i64)))], []⟩], [], []⟩
noncomputable def l_heldIntS_L2_step : (List (Int) × Int × Int) → T ((List (Int) × Int × Int) ⊕ (Int ⊕ Int)) := fun (a, k, i) =>
  (.test (decide (i < ((List.length a) : Int)))
  (.test (decide ((0 ≤ i) ∧ (i < ((List.length a) : Int))))
   (.sub (a[(Int.toNat i)]?) fun z0 =>
    (.test (z0 != k)
    (.ret (Sum.inr (Sum.inl (-1))))
    (.ret (Sum.inl (a, ((w64 (k + 1)), (w64 (i + 1))))))))
   .fail)
  (.ret (Sum.inr (Sum.inr k))))
noncomputable def l_heldIntS_L2 (v : (List (Int) × Int × Int)) : Option (Int ⊕ Int) := loopO (fun v => (l_heldIntS_L2_step v).run) v

def l_heldIntS_fo : List FO := [⟨[(.one (.si .i64))], []⟩]
noncomputable def l_heldIntS_t : (List (Int) × Int) → T Int := fun (a, k) =>
  (.sub (l_heldIntS_L2 (a, (k, (0 : Int)))) fun z0 =>
  (.test (Sum.isLeft z0)
  (.sub (Sum.getLeft? z0) fun z1 =>
   (.ret z1))
  (.sub (Sum.getRight? z0) fun z2 =>
   (.ret z2))))
noncomputable def l_heldIntS (v : (List (Int) × Int)) : Option Int := (l_heldIntS_t v).run
noncomputable def l_heldIntS_E : TEnv := E0
theorem l_heldIntS_Eok : (l_heldIntS_E).OK := E0ok
noncomputable def l_heldIntS_told : Nat → Option SealT := fun id => if id = 2 then some (LSh.told l_heldIntS_L2_sh 0 (l_heldIntS_L2_step)) else none
theorem l_heldIntS_L2_ok : ToldOK Try.prog 0 (loopAt (bodyOf fn_l_heldIntS) [0]) (LSh.told l_heldIntS_L2_sh 0 (l_heldIntS_L2_step)) :=
  loop_ok (E := l_heldIntS_E) (l_heldIntS_Eok) (told := l_heldIntS_told) (l := l_heldIntS_L2_sh) (step := l_heldIntS_L2_step) (loopsOK_of (ls := []) (by kernel_rfl) trivial) (by kernel_rfl) (fun v => by kernel_rfl)
theorem l_heldIntS_ok : FOK Try.prog n_l_heldIntS l_heldIntS_sh l_heldIntS_fo l_heldIntS :=
  fn_ok (E := l_heldIntS_E) (l_heldIntS_Eok) (told := l_heldIntS_told) (fl := []) (c := bodyOf fn_l_heldIntS) (s := l_heldIntS_sh) (l := l_heldIntS_fo) (tree := l_heldIntS_t) fnat_l_heldIntS (by kernel_rfl) (by kernel_rfl) (by kernel_rfl) (loopsOK_of (ls := [loopAt (bodyOf fn_l_heldIntS) [0]]) (by kernel_rfl) ⟨.inr ⟨_, by kernel_rfl, l_heldIntS_L2_ok⟩, trivial⟩) (fun v => by kernel_rfl)

theorem l_heldIntS_eq (k : Int) (n : Nat) (hk : 0 ≤ k ∧ k < 1000000000000) (hl : n < 1000000000000000) : l_heldIntS (iot k n, k) = some (k + n) := by
  have h := loop_count (step := fun v => (l_heldIntS_L2_step v).run) (n := n) (fun i (_ : Unit) => (iot k n, (k + (i : Int), (i : Int)))) (fun _ _ => Sum.inl ()) (fun _ => Sum.inr (k + (n : Int)))
    (by
      intro i s hi
      simp only [l_heldIntS_L2_step, T.run, iot_len, Int.toNat_natCast, iot_get k hi, Option.bind_some]
      rw [w64_id (z := k + i + 1) (by omega) (by omega), w64_id (z := (i : Int) + 1) (by omega) (by omega)]
      have h1 : (i : Int) < (n : Int) := by omega
      have h2 : (0 : Int) ≤ i ∧ (i : Int) < (n : Int) := by omega
      simp [h1, h2, Int.add_assoc])
    (by intro s; simp [l_heldIntS_L2_step, T.run, iot_len]) 0 () (Nat.zero_le _)
  rw [show ((0 : Nat) : Int) = 0 from rfl, Int.add_zero] at h
  have hf : ∀ l : List Nat, forE (fun (_ : Unit) (_ : Nat) => (Sum.inl () : Unit ⊕ (Int ⊕ Int))) (fun _ => Sum.inr (k + (n : Int))) l () = Sum.inr (k + (n : Int)) := by
    intro l
    induction l with
    | nil => rfl
    | cons x t ih => rw [forE_cons]; exact ih
  rw [hf] at h
  simp only [l_heldIntS, l_heldIntS_t, T.run, l_heldIntS_L2]
  rw [h]
  simp [Sum.isLeft]


def l_FnExactSizesOfCut_sh : FSh := ⟨[(.one (.si .i64)), (.one (.sl (.pair (.int .i64) (.int .i64)) false false))], []⟩

def l_FnExactSizesOfCut_fo : List FO := [⟨[(.one .sb)], []⟩]
noncomputable def l_FnExactSizesOfCut_t : (Int × List ((Int × Int))) → T Bool := fun (aN, aDs) =>
  (.sub (l_szDiagonalS (aDs, (1048576 : Int))) fun z0 =>
  (.test (decide (z0 < 0))
  (.ret true)
  (.sub (l_toDiagonalS aDs) fun z1 =>
   (.test (decide ((0 + (List.length z1.2)) ≤ (List.length z1.2)))
   (.sub (s_SizesOfCut (aN, (win z1.2 0 (List.length z1.2)))) fun z2 =>
    (.sub (l_toDiagonalS aDs) fun z3 =>
    (.test (decide ((0 + (List.length z3.2)) ≤ (List.length z3.2)))
    (.sub (i_SizesOfCut (aN, (win z3.2 0 (List.length z3.2)))) fun z4 =>
     (.test (decide ((0 + (List.length z4.2)) ≤ (List.length z4.2)))
     (.test (decide ((0 + (List.length z2.2)) ≤ (List.length z2.2)))
      (.sub (l_eqIntS ((win z4.2 0 (List.length z4.2)), (win z2.2 0 (List.length z2.2)))) fun z5 =>
       (.test (! z5)
       (.ret false)
       (.test (! (z4.1.2 == z2.1.2))
        (.ret false)
        (.sub (l_toDiagonalS aDs) fun z6 =>
         (.test (decide ((0 + (List.length z3.2)) ≤ (List.length z3.2)))
         (.test (decide ((0 + (List.length z6.2)) ≤ (List.length z6.2)))
          (.sub (l_eqDiagonalS ((win z3.2 0 (List.length z3.2)), (win z6.2 0 (List.length z6.2)))) fun z7 =>
           (.test (! z7)
           (.ret false)
           (.test (decide ((0 = 0) ∧ ((List.length z3.2) = (List.length z3.2))))
            (.sub (l_markDiagonalS (((), (1 : Int)), z3.2)) fun z8 =>
             (.test (decide (z8.1 < 0))
             (.ret false)
             (.test (decide ((0 + (List.length z4.2)) ≤ (List.length z4.2)))
              (.test (decide ((0 + (List.length z2.2)) ≤ (List.length z2.2)))
               (.sub (l_eqIntS ((win z4.2 0 (List.length z4.2)), (win z2.2 0 (List.length z2.2)))) fun z9 =>
                (.test (! z9)
                (.ret false)
                (.test (! (z4.1.2 == z2.1.2))
                 (.ret false)
                 (.test (decide ((0 = 0) ∧ ((List.length z4.2) = (List.length z4.2))))
                  (.sub (l_markIntS (((), (1 : Int)), z4.2)) fun z10 =>
                   (.test (decide ((0 + (List.length z4.2)) ≤ (List.length z10.2)))
                   (.sub (l_heldIntS ((win z10.2 0 (List.length z4.2)), (1 : Int))) fun z11 =>
                    (.test (decide (z11 < 0))
                    (.ret false)
                    (.test (z11 != z10.1)
                     (.ret false)
                     (.sub (l_toDiagonalS aDs) fun z12 =>
                      (.test (decide ((0 + (List.length z12.2)) ≤ (List.length z12.2)))
                      (.sub (i_SizesOfCut (aN, (win z12.2 0 (List.length z12.2)))) fun z13 =>
                       (.test (decide ((0 + (List.length z13.2)) ≤ (List.length z13.2)))
                       (.test (decide ((0 + (List.length z2.2)) ≤ (List.length z2.2)))
                        (.sub (l_eqIntS ((win z13.2 0 (List.length z13.2)), (win z2.2 0 (List.length z2.2)))) fun z14 =>
                         (.test (! z14)
                         (.ret false)
                         (.test (! (z13.1.2 == z2.1.2))
                          (.ret false)
                          (.test (decide ((0 + (List.length z4.2)) ≤ (List.length z10.2)))
                           (.sub (l_heldIntS ((win z10.2 0 (List.length z4.2)), (1 : Int))) fun z15 =>
                            (.test (decide (z15 < 0))
                            (.ret false)
                            (.test (z15 != z10.1)
                             (.ret false)
                             (.ret true))))
                           .fail))))
                        .fail)
                       .fail))
                      .fail)))))
                   .fail))
                  .fail))))
               .fail)
              .fail)))
            .fail)))
          .fail)
         .fail)))))
      .fail)
     .fail))
    .fail)))
   .fail))))
noncomputable def l_FnExactSizesOfCut (v : (Int × List ((Int × Int)))) : Option Bool := (l_FnExactSizesOfCut_t v).run
noncomputable def l_FnExactSizesOfCut_E : TEnv := (((((((((E0.add1 n_l_szDiagonalS l_szDiagonalS_sh l_szDiagonalS_fo l_szDiagonalS).add1 n_l_toDiagonalS l_toDiagonalS_sh l_toDiagonalS_fo l_toDiagonalS).add1 n_s_SizesOfCut s_SizesOfCut_sh s_SizesOfCut_fo s_SizesOfCut).add1 n_i_SizesOfCut i_SizesOfCut_sh i_SizesOfCut_fo i_SizesOfCut).add1 n_l_eqIntS l_eqIntS_sh l_eqIntS_fo l_eqIntS).add1 n_l_eqDiagonalS l_eqDiagonalS_sh l_eqDiagonalS_fo l_eqDiagonalS).add1 n_l_markDiagonalS l_markDiagonalS_sh l_markDiagonalS_fo l_markDiagonalS).add1 n_l_markIntS l_markIntS_sh l_markIntS_fo l_markIntS).add1 n_l_heldIntS l_heldIntS_sh l_heldIntS_fo l_heldIntS)
theorem l_FnExactSizesOfCut_Eok : (l_FnExactSizesOfCut_E).OK := (((((((((E0ok.add1 l_szDiagonalS_ok).add1 l_toDiagonalS_ok).add1 s_SizesOfCut_ok).add1 i_SizesOfCut_ok).add1 l_eqIntS_ok).add1 l_eqDiagonalS_ok).add1 l_markDiagonalS_ok).add1 l_markIntS_ok).add1 l_heldIntS_ok)
noncomputable def l_FnExactSizesOfCut_told : Nat → Option SealT := fun id => none
theorem l_FnExactSizesOfCut_ok : FOK Try.prog n_l_FnExactSizesOfCut l_FnExactSizesOfCut_sh l_FnExactSizesOfCut_fo l_FnExactSizesOfCut :=
  fn_ok (E := l_FnExactSizesOfCut_E) (l_FnExactSizesOfCut_Eok) (told := l_FnExactSizesOfCut_told) (fl := []) (c := bodyOf fn_l_FnExactSizesOfCut) (s := l_FnExactSizesOfCut_sh) (l := l_FnExactSizesOfCut_fo) (tree := l_FnExactSizesOfCut_t) fnat_l_FnExactSizesOfCut (by kernel_rfl) (by kernel_rfl) (by kernel_rfl) (loopsOK_of (ls := []) (by kernel_rfl) trivial) (fun v => by kernel_rfl)

theorem l_FnExactSizesOfCut_true (v : Int × List (Int × Int)) (hs : smallL ASh.small [.one (.si .i64), .one (.sl (.pair (.int .i64) (.int .i64)) false false)] v) : l_FnExactSizesOfCut v = some true := by
  obtain ⟨n, ds⟩ := v
  have hl0 : ds.length < 140737488355328 := hs.2.1
  have hl : ds.length < 4611686018427387904 := by omega
  rw [l_FnExactSizesOfCut, l_FnExactSizesOfCut_t, T.run_sub, l_szDiagonalS_eq ds _ (by decide) hl, Option.bind_some, T.run_test]
  by_cases hsz : ((1048576 : Int) - (ds.length : Int) < 0)
  · rw [if_pos (by rw [if_pos hsz]; rfl)]; rfl
  · have hr := i_SizesOfCut_eq n ds hl
    have hsp := s_SizesOfCut_eq n ds hl
    have hlen : ∃ ok r, (if isCut n ds then (((), true), sortI (szL n.toNat ds)) else (((), false), [])) = (((), ok), r) ∧ r.length ≤ 12 := by
      cases h : isCut n ds with
      | false => exact ⟨false, [], rfl, by simp⟩
      | true =>
        obtain ⟨N, rfl, h3, hN, hlen, hc⟩ := isCut_cut h
        refine ⟨true, _, rfl, ?_⟩
        rw [(sortI_perm _).length_eq, Int.toNat_natCast, szL_len hc h3]
        omega
    obtain ⟨ok, r, e, hrl⟩ := hlen
    rw [e] at hr hsp
    have ht := l_toDiagonalS_eq ds (by omega)
    have hm := l_markIntS_eq 1 r (by omega) (by omega)
    have hml := l_markDiagonalS_eq 1 ds (by omega) (by omega)
    have hh := l_heldIntS_eq 1 r.length (by omega) (by omega)
    have hw : win (iot 1 r.length) 0 r.length = iot 1 r.length := by have := win_all (iot 1 r.length); rwa [iot_len] at this
    have hx : ¬ ((1 : Int) + (r.length : Int) < 0) := by omega
    have hx2 : ¬ ((1 : Int) + 2 * (ds.length : Int) < 0) := by omega
    rw [if_neg (by rw [if_neg hsz, decide_eq_true_eq]; exact hsz)]
    simp (config := { maxSteps := 10000000 }) [T.run, ht, win_all, hr, hsp, l_eqDiagonalS_eq ds ds hl, l_eqIntS_eq r r (by omega), hm, hml, iot_len, hw, hh, hx, hx2]


end Go.Proofs.W
