/- Functions of the program, walked, and what they compute. -/
import Derived.Test.YtigenooglogcfaaGreatSdWk5
set_option linter.unusedVariables false
set_option linter.unusedSimpArgs false
set_option maxRecDepth 100000
set_option maxHeartbeats 4000000
namespace Go.Proofs.W
open Go Go.Gm Go.Proofs
open Go.RowKit Go.Shelf
def l_eqIntS_sh : FSh := ⟨[(.one (.sl (.int .i64) false false)), (.one (.sl (.int .i64) false false))], []⟩

def l_eqIntS_L4_sh : LSh := ⟨(fun ex => match ex with | .norm => [(0, none), (1, none), (5, none)] | .exit i => if i = 0 then [] else [] | .ret => [(4, none)]), [(0, (.one (.sl (.int .i64) false false))), (1, (.one (.sl (.int .i64) false false))), (5, (.one (.si .i64)))], [], [⟨.ret, [(4, (.one .sb))], []⟩, ⟨(.exit 0), [], []⟩], [], []⟩
noncomputable def l_eqIntS_L4_step : (List (Int) × List (Int) × Int) → T ((List (Int) × List (Int) × Int) ⊕ (Bool ⊕ Unit)) := fun (a, b, i) =>
  (.test (decide (i < ((List.length a) : Int)))
  (.test (decide ((0 ≤ i) ∧ (i < ((List.length a) : Int))))
   (.sub (a[(Int.toNat i)]?) fun z0 =>
    (.test (decide ((0 ≤ i) ∧ (i < ((List.length b) : Int))))
    (.sub (b[(Int.toNat i)]?) fun z1 =>
     (.test (z0 != z1)
     (.ret (Sum.inr (Sum.inl false)))
     (.ret (Sum.inl (a, (b, (w64 (i + 1))))))))
    .fail))
   .fail)
  (.ret (Sum.inr (Sum.inr ()))))
noncomputable def l_eqIntS_L4 (v : (List (Int) × List (Int) × Int)) : Option (Bool ⊕ Unit) := loopO (fun v => (l_eqIntS_L4_step v).run) v

def l_eqIntS_fo : List FO := [⟨[(.one .sb)], []⟩]
noncomputable def l_eqIntS_t : (List (Int) × List (Int)) → T Bool := fun (a, b) =>
  (.test (((List.length a) : Int) != ((List.length b) : Int))
  (.ret false)
  (.sub (l_eqIntS_L4 (a, (b, (0 : Int)))) fun z0 =>
   (.test (Sum.isLeft z0)
   (.sub (Sum.getLeft? z0) fun z1 =>
    (.ret z1))
   (.sub (Sum.getRight? z0) fun z2 =>
    (.ret true)))))
noncomputable def l_eqIntS (v : (List (Int) × List (Int))) : Option Bool := (l_eqIntS_t v).run
noncomputable def l_eqIntS_E : TEnv := E0
theorem l_eqIntS_Eok : (l_eqIntS_E).OK := E0ok
noncomputable def l_eqIntS_told : Nat → Option SealT := fun id => if id = 4 then some (LSh.told l_eqIntS_L4_sh 0 (l_eqIntS_L4_step)) else none
theorem l_eqIntS_L4_ok : ToldOK Tryz.prog 0 (loopAt (bodyOf fn_l_eqIntS) [0]) (LSh.told l_eqIntS_L4_sh 0 (l_eqIntS_L4_step)) :=
  loop_ok (E := l_eqIntS_E) (l_eqIntS_Eok) (told := l_eqIntS_told) (l := l_eqIntS_L4_sh) (step := l_eqIntS_L4_step) (loopsOK_of (ls := []) (by kernel_rfl) trivial) (by kernel_rfl) (fun v => by kernel_rfl)
theorem l_eqIntS_ok : FOK Tryz.prog n_l_eqIntS l_eqIntS_sh l_eqIntS_fo l_eqIntS :=
  fn_ok (E := l_eqIntS_E) (l_eqIntS_Eok) (told := l_eqIntS_told) (fl := []) (c := bodyOf fn_l_eqIntS) (s := l_eqIntS_sh) (l := l_eqIntS_fo) (tree := l_eqIntS_t) fnat_l_eqIntS (by kernel_rfl) (by kernel_rfl) (by kernel_rfl) (loopsOK_of (ls := [loopAt (bodyOf fn_l_eqIntS) [0]]) (by kernel_rfl) ⟨.inr ⟨_, by kernel_rfl, l_eqIntS_L4_ok⟩, trivial⟩) (fun v => by kernel_rfl)

theorem l_eqIntS_eq (a b : List Int) (hl : a.length < 4611686018427387904) : l_eqIntS (a, b) = some (decide (a = b)) := by
  by_cases hab : a.length = b.length
  · have h := loop_any (step := fun v => (l_eqIntS_L4_step v).run) (xs := a.zip b) (fun p => p.1 != p.2) (fun k => (a, b, (k : Int))) (.inl false) (.inr ())
      (fun k x hx => by
        have hk := getElem?_lt hx
        rw [List.length_zip, hab, Nat.min_self] at hk
        rw [List.getElem?_zip_eq_some] at hx
        simp only [l_eqIntS_L4_step, T.run, Option.bind_some, Int.toNat_natCast, hx.1, hx.2]
        rw [w64_id (by omega) (by omega)]
        have hka : k < a.length := by omega
        cases x.1 != x.2 <;> simp [hk, hka])
      (by simp [l_eqIntS_L4_step, T.run, hab])
    simp only [l_eqIntS, l_eqIntS_t, T.run, l_eqIntS_L4]
    simp only [Int.natCast_zero] at h
    rw [h, hab]
    have e : (a.zip b).any (fun p => p.1 != p.2) = !decide (a = b) := zip_any_ne a b hab
    rw [e]
    cases decide (a = b) <;> simp
  · simp only [l_eqIntS, l_eqIntS_t, T.run]
    have : a ≠ b := fun e => hab (by rw [e])
    simp [this]
    omega


def l_eqPuzzle_sh : FSh := ⟨[(.ag [(.sl (.int .i64) false false)]), (.ag [(.sl (.int .i64) false false)])], []⟩

def l_eqPuzzle_fo : List FO := [⟨[(.one .sb)], []⟩]
noncomputable def l_eqPuzzle_t : (List (Int) × List (Int)) → T Bool := fun (a_0, b_0) =>
  (.sub (l_eqIntS (a_0, b_0)) fun z0 =>
  (.test (! z0)
  (.ret false)
  (.ret true)))
noncomputable def l_eqPuzzle (v : (List (Int) × List (Int))) : Option Bool := (l_eqPuzzle_t v).run
noncomputable def l_eqPuzzle_E : TEnv := (E0.add1 n_l_eqIntS l_eqIntS_sh l_eqIntS_fo l_eqIntS)
theorem l_eqPuzzle_Eok : (l_eqPuzzle_E).OK := (E0ok.add1 l_eqIntS_ok)
noncomputable def l_eqPuzzle_told : Nat → Option SealT := fun id => none
theorem l_eqPuzzle_ok : FOK Tryz.prog n_l_eqPuzzle l_eqPuzzle_sh l_eqPuzzle_fo l_eqPuzzle :=
  fn_ok (E := l_eqPuzzle_E) (l_eqPuzzle_Eok) (told := l_eqPuzzle_told) (fl := []) (c := bodyOf fn_l_eqPuzzle) (s := l_eqPuzzle_sh) (l := l_eqPuzzle_fo) (tree := l_eqPuzzle_t) fnat_l_eqPuzzle (by kernel_rfl) (by kernel_rfl) (by kernel_rfl) (loopsOK_of (ls := []) (by kernel_rfl) trivial) (fun v => by kernel_rfl)

theorem l_eqPuzzle_eq (a b : List Int) (hl : a.length < 4611686018427387904) : l_eqPuzzle (a, b) = some (decide (a = b)) := by
  simp only [l_eqPuzzle, l_eqPuzzle_t, T.run, l_eqIntS_eq a b hl, Option.bind_some]
  cases decide (a = b) <;> rfl


def l_markIntS_sh : FSh := ⟨[(.one (.rw 0 0)), (.one (.si .i64))], [(.row 0 (.int .i64))]⟩

def l_markIntS_L2_sh : LSh := ⟨(fun ex => match ex with | .norm => [(0, none), (1, none), (5, none)] | .exit i => if i = 0 then [(1, none)] else [] | .ret => [(4, none)]), [(0, (.one (.rw 0 0))), (1, (.one (.si .i64))), (5, (.one (.si .i64)))], [(.row 0 (.int .i64))], [⟨(.exit 0), [(1, (.one (.si .i64)))], [(.row 0 (.int .i64))]⟩], [], []⟩
noncomputable def l_markIntS_L2_step : ((Unit × Int × Int) × List (Int)) → T (((Unit × Int × Int) × List (Int)) ⊕ (Int × List (Int))) := fun (((), k, i), a) =>
  (.test (decide (i < ((List.length a) : Int)))
  (.test (decide ((0 ≤ i) ∧ (i < ((List.length a) : Int))))
   (.sub (a[(0 + (Int.toNat i))]?) fun z0 =>
    (.test (decide ((0 = 0) ∧ ((List.length a) = (List.length (List.set a (0 + (Int.toNat i)) k)))))
    (.ret (Sum.inl (((), ((w64 (k + 1)), (w64 (i + 1)))), (List.set a (0 + (Int.toNat i)) k))))
    .fail))
   .fail)
  (.ret (Sum.inr (k, a))))
noncomputable def l_markIntS_L2 (v : ((Unit × Int × Int) × List (Int))) : Option (Int × List (Int)) := loopO (fun v => (l_markIntS_L2_step v).run) v

def l_markIntS_fo : List FO := [⟨[(.one (.si .i64))], [(.row 0 (.int .i64))]⟩]
noncomputable def l_markIntS_t : ((Unit × Int) × List (Int)) → T (Int × List (Int)) := fun (((), k), a) =>
  (.test (decide ((0 = 0) ∧ ((List.length a) = (List.length a))))
  (.sub (l_markIntS_L2 (((), (k, (0 : Int))), a)) fun z0 =>
   (.ret (z0.1, z0.2)))
  .fail)
noncomputable def l_markIntS (v : ((Unit × Int) × List (Int))) : Option (Int × List (Int)) := (l_markIntS_t v).run
noncomputable def l_markIntS_E : TEnv := E0
theorem l_markIntS_Eok : (l_markIntS_E).OK := E0ok
noncomputable def l_markIntS_told : Nat → Option SealT := fun id => if id = 2 then some (LSh.told l_markIntS_L2_sh 1 (l_markIntS_L2_step)) else none
theorem l_markIntS_L2_ok : ToldOK Tryz.prog 1 (loopAt (bodyOf fn_l_markIntS) [0]) (LSh.told l_markIntS_L2_sh 1 (l_markIntS_L2_step)) :=
  loop_ok (E := l_markIntS_E) (l_markIntS_Eok) (told := l_markIntS_told) (l := l_markIntS_L2_sh) (step := l_markIntS_L2_step) (loopsOK_of (ls := []) (by kernel_rfl) trivial) (by kernel_rfl) (fun v => by kernel_rfl)
theorem l_markIntS_ok : FOK Tryz.prog n_l_markIntS l_markIntS_sh l_markIntS_fo l_markIntS :=
  fn_ok (E := l_markIntS_E) (l_markIntS_Eok) (told := l_markIntS_told) (fl := []) (c := bodyOf fn_l_markIntS) (s := l_markIntS_sh) (l := l_markIntS_fo) (tree := l_markIntS_t) fnat_l_markIntS (by kernel_rfl) (by kernel_rfl) (by kernel_rfl) (loopsOK_of (ls := [loopAt (bodyOf fn_l_markIntS) [0]]) (by kernel_rfl) ⟨.inr ⟨_, by kernel_rfl, l_markIntS_L2_ok⟩, trivial⟩) (fun v => by kernel_rfl)

theorem l_markIntS_L2_eq (k : Int) (l : List Int) (hk : 0 ≤ k ∧ k < 1000000000000) (hl : l.length < 1000000000000000) : ∀ n i, i + n = l.length →
    l_markIntS_L2 (((), (k + i, (i : Int))), iot k i ++ l.drop i) = some (k + l.length, iot k l.length) := by
  intro n
  induction n with
  | zero =>
    intro i hi
    obtain rfl : i = l.length := by omega
    rw [List.drop_length, List.append_nil]
    simp only [l_markIntS_L2]
    exact loopO_done (by simp [l_markIntS_L2_step, T.run, iot_len])
  | succ n ih =>
    intro i hi
    have hlt : i < l.length := by omega
    have hd : l.drop i = l[i] :: l.drop (i + 1) := List.drop_eq_getElem_cons hlt
    have hlen : (iot k i ++ l.drop i).length = l.length := by rw [List.length_append, iot_len, List.length_drop]; omega
    have hget : (iot k i ++ l.drop i)[i]? = some l[i] := by
      rw [List.getElem?_append_right (by rw [iot_len]; omega), iot_len, Nat.sub_self, hd]; rfl
    have hset : List.set (iot k i ++ l.drop i) i (k + i) = iot k (i + 1) ++ l.drop (i + 1) := by
      rw [List.set_append_right _ _ (by rw [iot_len]; omega), iot_len, Nat.sub_self, hd, iot_succ, List.append_assoc]; rfl
    simp only [l_markIntS_L2] at ih ⊢
    have hst : (l_markIntS_L2_step (((), (k + i, (i : Int))), iot k i ++ l.drop i)).run = some (.inl (((), (k + (i + 1 : Nat), ((i + 1 : Nat) : Int))), iot k (i + 1) ++ l.drop (i + 1))) := by
      simp only [l_markIntS_L2_step, T.run, hlen, Int.toNat_natCast, Nat.zero_add, hget, Option.bind_some, hset]
      rw [w64_id (z := k + i + 1) (by omega) (by omega), w64_id (z := (i : Int) + 1) (by omega) (by omega)]
      have h1 : (i : Int) < (l.length : Int) := by omega
      have h2 : (0 : Int) ≤ i ∧ (i : Int) < (l.length : Int) := by omega
      simp only [h1, h2, decide_true, if_true]
      have h3 : (iot k (i + 1) ++ l.drop (i + 1)).length = l.length := by rw [List.length_append, iot_len, List.length_drop]; omega
      simp [h3, Int.add_assoc]
    rw [loopO_next hst]
    exact ih (i + 1) (by omega)
theorem l_markIntS_eq (k : Int) (l : List Int) (hk : 0 ≤ k ∧ k < 1000000000000) (hl : l.length < 1000000000000000) : l_markIntS (((), k), l) = some (k + l.length, iot k l.length) := by
  have h := l_markIntS_L2_eq k l hk hl l.length 0 (by omega)
  simp only [l_markIntS, l_markIntS_t, T.run]
  have e : iot k 0 ++ l.drop 0 = l := by simp [iot]
  rw [e, show ((0 : Nat) : Int) = 0 from rfl, Int.add_zero] at h
  simp [h]


def l_markPuzzle_sh : FSh := ⟨[(.ag [(.rw 0 0)]), (.one (.si .i64))], [(.row 0 (.int .i64))]⟩

def l_markPuzzle_fo : List FO := [⟨[(.one (.si .i64))], [(.row 0 (.int .i64))]⟩]
noncomputable def l_markPuzzle_t : ((Unit × Int) × List (Int)) → T (Int × List (Int)) := fun (((), k), a_r) =>
  (.test (decide ((0 = 0) ∧ ((List.length a_r) = (List.length a_r))))
  (.sub (l_markIntS (((), k), a_r)) fun z0 =>
   (.ret (z0.1, z0.2)))
  .fail)
noncomputable def l_markPuzzle (v : ((Unit × Int) × List (Int))) : Option (Int × List (Int)) := (l_markPuzzle_t v).run
noncomputable def l_markPuzzle_E : TEnv := (E0.add1 n_l_markIntS l_markIntS_sh l_markIntS_fo l_markIntS)
theorem l_markPuzzle_Eok : (l_markPuzzle_E).OK := (E0ok.add1 l_markIntS_ok)
noncomputable def l_markPuzzle_told : Nat → Option SealT := fun id => none
theorem l_markPuzzle_ok : FOK Tryz.prog n_l_markPuzzle l_markPuzzle_sh l_markPuzzle_fo l_markPuzzle :=
  fn_ok (E := l_markPuzzle_E) (l_markPuzzle_Eok) (told := l_markPuzzle_told) (fl := []) (c := bodyOf fn_l_markPuzzle) (s := l_markPuzzle_sh) (l := l_markPuzzle_fo) (tree := l_markPuzzle_t) fnat_l_markPuzzle (by kernel_rfl) (by kernel_rfl) (by kernel_rfl) (loopsOK_of (ls := []) (by kernel_rfl) trivial) (fun v => by kernel_rfl)

theorem l_markPuzzle_eq (k : Int) (l : List Int) (hk : 0 ≤ k ∧ k < 1000000000000) (hl : l.length < 1000000000000000) : l_markPuzzle (((), k), l) = some (k + l.length, iot k l.length) := by
  simp [l_markPuzzle, l_markPuzzle_t, T.run, l_markIntS_eq k l hk hl]


def l_markDiagonalS_sh : FSh := ⟨[(.one (.rw 0 0)), (.one (.si .i64))], [(.row 0 (.pair (.int .i64) (.int .i64)))]⟩

def l_markDiagonalS_L2_sh : LSh := ⟨(fun ex => match ex with | .norm => [(0, none), (1, none), (5, none)] | .exit i => if i = 0 then [(1, none)] else [] | .ret => [(4, none)]), [(0, (.one (.rw 0 0))), (1, (.one (.si .i64))), (5, (.one (.si .i64)))], [(.row 0 (.pair (.int .i64) (.int .i64)))], [⟨(.exit 0), [(1, (.one (.si .i64)))], [(.row 0 (.pair (.int .i64) (.int .i64)))]⟩], [], []⟩
noncomputable def l_markDiagonalS_L2_step : ((Unit × Int × Int) × List ((Int × Int))) → T (((Unit × Int × Int) × List ((Int × Int))) ⊕ (Int × List ((Int × Int)))) := fun (((), k, i), a) =>
  (.test (decide (i < ((List.length a) : Int)))
  (.test (decide ((0 ≤ i) ∧ (i < ((List.length a) : Int))))
   (.sub (a[(0 + (Int.toNat i))]?) fun z0 =>
    (.test (decide ((0 ≤ i) ∧ (i < ((List.length a) : Int))))
    (.sub ((List.set a (0 + (Int.toNat i)) (k, z0.2))[(0 + (Int.toNat i))]?) fun z1 =>
     (.test (decide ((0 = 0) ∧ ((List.length a) = (List.length (List.set (List.set a (0 + (Int.toNat i)) (k, z0.2)) (0 + (Int.toNat i)) (z1.1, (w64 (k + 1))))))))
     (.ret (Sum.inl (((), ((w64 ((w64 (k + 1)) + 1)), (w64 (i + 1)))), (List.set (List.set a (0 + (Int.toNat i)) (k, z0.2)) (0 + (Int.toNat i)) (z1.1, (w64 (k + 1)))))))
     .fail))
    .fail))
   .fail)
  (.ret (Sum.inr (k, a))))
noncomputable def l_markDiagonalS_L2 (v : ((Unit × Int × Int) × List ((Int × Int)))) : Option (Int × List ((Int × Int))) := loopO (fun v => (l_markDiagonalS_L2_step v).run) v

def l_markDiagonalS_fo : List FO := [⟨[(.one (.si .i64))], [(.row 0 (.pair (.int .i64) (.int .i64)))]⟩]
noncomputable def l_markDiagonalS_t : ((Unit × Int) × List ((Int × Int))) → T (Int × List ((Int × Int))) := fun (((), k), a) =>
  (.test (decide ((0 = 0) ∧ ((List.length a) = (List.length a))))
  (.sub (l_markDiagonalS_L2 (((), (k, (0 : Int))), a)) fun z0 =>
   (.ret (z0.1, z0.2)))
  .fail)
noncomputable def l_markDiagonalS (v : ((Unit × Int) × List ((Int × Int)))) : Option (Int × List ((Int × Int))) := (l_markDiagonalS_t v).run
noncomputable def l_markDiagonalS_E : TEnv := E0
theorem l_markDiagonalS_Eok : (l_markDiagonalS_E).OK := E0ok
noncomputable def l_markDiagonalS_told : Nat → Option SealT := fun id => if id = 2 then some (LSh.told l_markDiagonalS_L2_sh 1 (l_markDiagonalS_L2_step)) else none
theorem l_markDiagonalS_L2_ok : ToldOK Tryz.prog 1 (loopAt (bodyOf fn_l_markDiagonalS) [0]) (LSh.told l_markDiagonalS_L2_sh 1 (l_markDiagonalS_L2_step)) :=
  loop_ok (E := l_markDiagonalS_E) (l_markDiagonalS_Eok) (told := l_markDiagonalS_told) (l := l_markDiagonalS_L2_sh) (step := l_markDiagonalS_L2_step) (loopsOK_of (ls := []) (by kernel_rfl) trivial) (by kernel_rfl) (fun v => by kernel_rfl)
theorem l_markDiagonalS_ok : FOK Tryz.prog n_l_markDiagonalS l_markDiagonalS_sh l_markDiagonalS_fo l_markDiagonalS :=
  fn_ok (E := l_markDiagonalS_E) (l_markDiagonalS_Eok) (told := l_markDiagonalS_told) (fl := []) (c := bodyOf fn_l_markDiagonalS) (s := l_markDiagonalS_sh) (l := l_markDiagonalS_fo) (tree := l_markDiagonalS_t) fnat_l_markDiagonalS (by kernel_rfl) (by kernel_rfl) (by kernel_rfl) (loopsOK_of (ls := [loopAt (bodyOf fn_l_markDiagonalS) [0]]) (by kernel_rfl) ⟨.inr ⟨_, by kernel_rfl, l_markDiagonalS_L2_ok⟩, trivial⟩) (fun v => by kernel_rfl)

theorem l_markDiagonalS_L2_eq (k : Int) (l : List (Int × Int)) (hk : 0 ≤ k ∧ k < 1000000000000) (hl : l.length < 1000000000000000) : ∀ n i, i + n = l.length →
    l_markDiagonalS_L2 (((), (k + 2 * (i : Int), (i : Int))), iotD k i ++ l.drop i) = some (k + 2 * (l.length : Int), iotD k l.length) := by
  intro n
  induction n with
  | zero =>
    intro i hi
    obtain rfl : i = l.length := by omega
    rw [List.drop_length, List.append_nil]
    simp only [l_markDiagonalS_L2]
    exact loopO_done (by simp [l_markDiagonalS_L2_step, T.run, iotD_len])
  | succ n ih =>
    intro i hi
    have hlt : i < l.length := by omega
    have hd : l.drop i = l[i] :: l.drop (i + 1) := List.drop_eq_getElem_cons hlt
    have hlen : (iotD k i ++ l.drop i).length = l.length := by rw [List.length_append, iotD_len, List.length_drop]; omega
    have hget : (iotD k i ++ l.drop i)[i]? = some l[i] := by
      rw [List.getElem?_append_right (by rw [iotD_len]; omega), iotD_len, Nat.sub_self, hd]; rfl
    have hset : ∀ x : Int × Int, List.set (iotD k i ++ l.drop i) i x = iotD k i ++ x :: l.drop (i + 1) := fun x => by
      rw [List.set_append_right _ _ (by rw [iotD_len]; omega), iotD_len, Nat.sub_self, hd]; rfl
    have hset2 : ∀ x y : Int × Int, List.set (iotD k i ++ x :: l.drop (i + 1)) i y = iotD k i ++ y :: l.drop (i + 1) := fun x y => by
      rw [List.set_append_right _ _ (by rw [iotD_len]; omega), iotD_len, Nat.sub_self]; rfl
    have hget2 : ∀ x : Int × Int, (iotD k i ++ x :: l.drop (i + 1))[i]? = some x := fun x => by
      rw [List.getElem?_append_right (by rw [iotD_len]; omega), iotD_len, Nat.sub_self]; rfl
    have hlen2 : ∀ x : Int × Int, (iotD k i ++ x :: l.drop (i + 1)).length = l.length := fun x => by rw [List.length_append, iotD_len, List.length_cons, List.length_drop]; omega
    simp only [l_markDiagonalS_L2] at ih ⊢
    have h1 : (i : Int) < (l.length : Int) := by omega
    have h2 : (0 : Int) ≤ i ∧ (i : Int) < (l.length : Int) := by omega
    have e1 : k + 2 * (i : Int) + 1 + 1 = k + 2 * ((i + 1 : Nat) : Int) := by omega
    have e2 : ((i : Int) + 1) = ((i + 1 : Nat) : Int) := by omega
    have hst : (l_markDiagonalS_L2_step (((), (k + 2 * (i : Int), (i : Int))), iotD k i ++ l.drop i)).run = some (.inl (((), (k + 2 * ((i + 1 : Nat) : Int), ((i + 1 : Nat) : Int))), iotD k (i + 1) ++ l.drop (i + 1))) := by
      simp only [l_markDiagonalS_L2_step, T.run_test, T.run_sub, T.run_ret, T.run_fail, hlen, Int.toNat_natCast, Nat.zero_add, hget, Option.bind_some, hset, hget2, hset2, hlen2]
      rw [w64_id (z := k + 2 * (i : Int) + 1) (by omega) (by omega), w64_id (z := k + 2 * (i : Int) + 1 + 1) (by omega) (by omega), w64_id (z := (i : Int) + 1) (by omega) (by omega), e1, e2]
      simp only [h1, h2, decide_true, if_true, and_self]
      rw [iotD_succ, List.append_assoc]
      rfl
    rw [loopO_next hst]
    exact ih (i + 1) (by omega)
theorem l_markDiagonalS_eq (k : Int) (l : List (Int × Int)) (hk : 0 ≤ k ∧ k < 1000000000000) (hl : l.length < 1000000000000000) : l_markDiagonalS (((), k), l) = some (k + 2 * (l.length : Int), iotD k l.length) := by
  have h := l_markDiagonalS_L2_eq k l hk hl l.length 0 (by omega)
  simp only [l_markDiagonalS, l_markDiagonalS_t, T.run]
  have e : iotD k 0 ++ l.drop 0 = l := by simp [iotD]
  rw [e, show ((0 : Nat) : Int) = 0 from rfl, Int.mul_zero, Int.add_zero] at h
  simp [h]


def l_heldDiagonalS_sh : FSh := ⟨[(.one (.sl (.pair (.int .i64) (.int .i64)) false false)), (.one (.si .i64))], []⟩

def l_heldDiagonalS_L2_sh : LSh := ⟨(fun ex => match ex with | .norm => [(0, none), (1, none), (5, none)] | .exit i => if i = 0 then [(1, none)] else [] | .ret => [(4, none)]), [(0, (.one (.sl (.pair (.int .i64) (.int .i64)) false false))), (1, (.one (.si .i64))), (5, (.one (.si .i64)))], [], [⟨.ret, [(4, (.one (.si .i64)))], []⟩, ⟨(.exit 0), [(1, (.one (.si .i64)))], []⟩], [], []⟩
noncomputable def l_heldDiagonalS_L2_step : (List ((Int × Int)) × Int × Int) → T ((List ((Int × Int)) × Int × Int) ⊕ (Int ⊕ Int)) := fun (a, k, i) =>
  (.test (decide (i < ((List.length a) : Int)))
  (.test (decide ((0 ≤ i) ∧ (i < ((List.length a) : Int))))
   (.sub (a[(Int.toNat i)]?) fun z0 =>
    (.test (z0.1 != k)
    (.ret (Sum.inr (Sum.inl (-1))))
    (.test (decide ((0 ≤ i) ∧ (i < ((List.length a) : Int))))
     (.sub (a[(Int.toNat i)]?) fun z1 =>
      (.test (z1.2 != (w64 (k + 1)))
      (.ret (Sum.inr (Sum.inl (-1))))
      (.ret (Sum.inl (a, ((w64 ((w64 (k + 1)) + 1)), (w64 (i + 1))))))))
     .fail)))
   .fail)
  (.ret (Sum.inr (Sum.inr k))))
noncomputable def l_heldDiagonalS_L2 (v : (List ((Int × Int)) × Int × Int)) : Option (Int ⊕ Int) := loopO (fun v => (l_heldDiagonalS_L2_step v).run) v

def l_heldDiagonalS_fo : List FO := [⟨[(.one (.si .i64))], []⟩]
noncomputable def l_heldDiagonalS_t : (List ((Int × Int)) × Int) → T Int := fun (a, k) =>
  (.sub (l_heldDiagonalS_L2 (a, (k, (0 : Int)))) fun z0 =>
  (.test (Sum.isLeft z0)
  (.sub (Sum.getLeft? z0) fun z1 =>
   (.ret z1))
  (.sub (Sum.getRight? z0) fun z2 =>
   (.ret z2))))
noncomputable def l_heldDiagonalS (v : (List ((Int × Int)) × Int)) : Option Int := (l_heldDiagonalS_t v).run
noncomputable def l_heldDiagonalS_E : TEnv := E0
theorem l_heldDiagonalS_Eok : (l_heldDiagonalS_E).OK := E0ok
noncomputable def l_heldDiagonalS_told : Nat → Option SealT := fun id => if id = 2 then some (LSh.told l_heldDiagonalS_L2_sh 0 (l_heldDiagonalS_L2_step)) else none
theorem l_heldDiagonalS_L2_ok : ToldOK Tryz.prog 0 (loopAt (bodyOf fn_l_heldDiagonalS) [0]) (LSh.told l_heldDiagonalS_L2_sh 0 (l_heldDiagonalS_L2_step)) :=
  loop_ok (E := l_heldDiagonalS_E) (l_heldDiagonalS_Eok) (told := l_heldDiagonalS_told) (l := l_heldDiagonalS_L2_sh) (step := l_heldDiagonalS_L2_step) (loopsOK_of (ls := []) (by kernel_rfl) trivial) (by kernel_rfl) (fun v => by kernel_rfl)
theorem l_heldDiagonalS_ok : FOK Tryz.prog n_l_heldDiagonalS l_heldDiagonalS_sh l_heldDiagonalS_fo l_heldDiagonalS :=
  fn_ok (E := l_heldDiagonalS_E) (l_heldDiagonalS_Eok) (told := l_heldDiagonalS_told) (fl := []) (c := bodyOf fn_l_heldDiagonalS) (s := l_heldDiagonalS_sh) (l := l_heldDiagonalS_fo) (tree := l_heldDiagonalS_t) fnat_l_heldDiagonalS (by kernel_rfl) (by kernel_rfl) (by kernel_rfl) (loopsOK_of (ls := [loopAt (bodyOf fn_l_heldDiagonalS) [0]]) (by kernel_rfl) ⟨.inr ⟨_, by kernel_rfl, l_heldDiagonalS_L2_ok⟩, trivial⟩) (fun v => by kernel_rfl)

theorem l_heldDiagonalS_eq (k : Int) (n : Nat) (hk : 0 ≤ k ∧ k < 1000000000000) (hl : n < 1000000000000000) : l_heldDiagonalS (iotD k n, k) = some (k + 2 * (n : Int)) := by
  have h := loop_count (step := fun v => (l_heldDiagonalS_L2_step v).run) (n := n) (fun i (_ : Unit) => (iotD k n, (k + 2 * (i : Int), (i : Int)))) (fun _ _ => Sum.inl ()) (fun _ => Sum.inr (k + 2 * (n : Int)))
    (by
      intro i s hi
      simp only [l_heldDiagonalS_L2_step, T.run, iotD_len, Int.toNat_natCast, iotD_get k hi, Option.bind_some]
      rw [w64_id (z := k + 2 * (i : Int) + 1) (by omega) (by omega), w64_id (z := k + 2 * (i : Int) + 1 + 1) (by omega) (by omega), w64_id (z := (i : Int) + 1) (by omega) (by omega)]
      have h1 : (i : Int) < (n : Int) := by omega
      have h2 : (0 : Int) ≤ i ∧ (i : Int) < (n : Int) := by omega
      have e1 : k + 2 * (i : Int) + 1 + 1 = k + 2 * ((i : Int) + 1) := by omega
      simp [h1, h2, e1])
    (by intro s; simp [l_heldDiagonalS_L2_step, T.run, iotD_len]) 0 () (Nat.zero_le _)
  rw [show ((0 : Nat) : Int) = 0 from rfl, Int.mul_zero, Int.add_zero] at h
  have hf : ∀ l : List Nat, forE (fun (_ : Unit) (_ : Nat) => (Sum.inl () : Unit ⊕ (Int ⊕ Int))) (fun _ => Sum.inr (k + 2 * (n : Int))) l () = Sum.inr (k + 2 * (n : Int)) := by
    intro l
    induction l with
    | nil => rfl
    | cons x t ih => rw [forE_cons]; exact ih
  rw [hf] at h
  simp only [l_heldDiagonalS, l_heldDiagonalS_t, T.run, l_heldDiagonalS_L2]
  rw [h]
  simp [Sum.isLeft]


def l_FnExactSureDiagonals_sh : FSh := ⟨[(.ag [(.sl (.int .i64) false false)])], []⟩

def l_FnExactSureDiagonals_fo : List FO := [⟨[(.one .sb)], []⟩]
noncomputable def l_FnExactSureDiagonals_t : List (Int) → T Bool := fun aP_0 =>
  (.sub (l_szPuzzle (aP_0, (1048576 : Int))) fun z0 =>
  (.test (decide (z0 < 0))
  (.ret true)
  (.sub (l_toPuzzle aP_0) fun z1 =>
   (.test (decide ((0 + (List.length z1.2)) ≤ (List.length z1.2)))
   (.sub (s_SureDiagonals (win z1.2 0 (List.length z1.2))) fun z2 =>
    (.sub (l_toPuzzle aP_0) fun z3 =>
    (.test (decide ((0 + (List.length z3.2)) ≤ (List.length z3.2)))
    (.sub (i_SureDiagonals (win z3.2 0 (List.length z3.2))) fun z4 =>
     (.test (decide ((0 + (List.length z4.2)) ≤ (List.length z4.2)))
     (.test (decide ((0 + (List.length z2.2)) ≤ (List.length z2.2)))
      (.sub (l_eqDiagonalS ((win z4.2 0 (List.length z4.2)), (win z2.2 0 (List.length z2.2)))) fun z5 =>
       (.test (! z5)
       (.ret false)
       (.test (! (z4.1.2 == z2.1.2))
        (.ret false)
        (.sub (l_toPuzzle aP_0) fun z6 =>
         (.test (decide ((0 + (List.length z3.2)) ≤ (List.length z3.2)))
         (.test (decide ((0 + (List.length z6.2)) ≤ (List.length z6.2)))
          (.sub (l_eqPuzzle ((win z3.2 0 (List.length z3.2)), (win z6.2 0 (List.length z6.2)))) fun z7 =>
           (.test (! z7)
           (.ret false)
           (.test (decide ((0 = 0) ∧ ((List.length z3.2) = (List.length z3.2))))
            (.sub (l_markPuzzle (((), (1 : Int)), z3.2)) fun z8 =>
             (.test (decide (z8.1 < 0))
             (.ret false)
             (.test (decide ((0 + (List.length z4.2)) ≤ (List.length z4.2)))
              (.test (decide ((0 + (List.length z2.2)) ≤ (List.length z2.2)))
               (.sub (l_eqDiagonalS ((win z4.2 0 (List.length z4.2)), (win z2.2 0 (List.length z2.2)))) fun z9 =>
                (.test (! z9)
                (.ret false)
                (.test (! (z4.1.2 == z2.1.2))
                 (.ret false)
                 (.test (decide ((0 = 0) ∧ ((List.length z4.2) = (List.length z4.2))))
                  (.sub (l_markDiagonalS (((), (1 : Int)), z4.2)) fun z10 =>
                   (.test (decide ((0 + (List.length z4.2)) ≤ (List.length z10.2)))
                   (.sub (l_heldDiagonalS ((win z10.2 0 (List.length z4.2)), (1 : Int))) fun z11 =>
                    (.test (decide (z11 < 0))
                    (.ret false)
                    (.test (z11 != z10.1)
                     (.ret false)
                     (.sub (l_toPuzzle aP_0) fun z12 =>
                      (.test (decide ((0 + (List.length z12.2)) ≤ (List.length z12.2)))
                      (.sub (i_SureDiagonals (win z12.2 0 (List.length z12.2))) fun z13 =>
                       (.test (decide ((0 + (List.length z13.2)) ≤ (List.length z13.2)))
                       (.test (decide ((0 + (List.length z2.2)) ≤ (List.length z2.2)))
                        (.sub (l_eqDiagonalS ((win z13.2 0 (List.length z13.2)), (win z2.2 0 (List.length z2.2)))) fun z14 =>
                         (.test (! z14)
                         (.ret false)
                         (.test (! (z13.1.2 == z2.1.2))
                          (.ret false)
                          (.test (decide ((0 + (List.length z4.2)) ≤ (List.length z10.2)))
                           (.sub (l_heldDiagonalS ((win z10.2 0 (List.length z4.2)), (1 : Int))) fun z15 =>
                            (.test (decide (z15 < 0))
                            (.ret false)
                            (.test (z15 != z10.1)
                             (.ret false)
                             (.ret true))))
                           .fail))))
                        .fail)
                       .fail))
                      .fail)))))
                   .fail))
                  .fail))))
               .fail)
              .fail)))
            .fail)))
          .fail)
         .fail)))))
      .fail)
     .fail))
    .fail)))
   .fail))))
noncomputable def l_FnExactSureDiagonals (v : List (Int)) : Option Bool := (l_FnExactSureDiagonals_t v).run
noncomputable def l_FnExactSureDiagonals_E : TEnv := (((((((((E0.add1 n_l_szPuzzle l_szPuzzle_sh l_szPuzzle_fo l_szPuzzle).add1 n_l_toPuzzle l_toPuzzle_sh l_toPuzzle_fo l_toPuzzle).add1 n_s_SureDiagonals s_SureDiagonals_sh s_SureDiagonals_fo s_SureDiagonals).add1 n_i_SureDiagonals i_SureDiagonals_sh i_SureDiagonals_fo i_SureDiagonals).add1 n_l_eqDiagonalS l_eqDiagonalS_sh l_eqDiagonalS_fo l_eqDiagonalS).add1 n_l_eqPuzzle l_eqPuzzle_sh l_eqPuzzle_fo l_eqPuzzle).add1 n_l_markPuzzle l_markPuzzle_sh l_markPuzzle_fo l_markPuzzle).add1 n_l_markDiagonalS l_markDiagonalS_sh l_markDiagonalS_fo l_markDiagonalS).add1 n_l_heldDiagonalS l_heldDiagonalS_sh l_heldDiagonalS_fo l_heldDiagonalS)
theorem l_FnExactSureDiagonals_Eok : (l_FnExactSureDiagonals_E).OK := (((((((((E0ok.add1 l_szPuzzle_ok).add1 l_toPuzzle_ok).add1 s_SureDiagonals_ok).add1 i_SureDiagonals_ok).add1 l_eqDiagonalS_ok).add1 l_eqPuzzle_ok).add1 l_markPuzzle_ok).add1 l_markDiagonalS_ok).add1 l_heldDiagonalS_ok)
noncomputable def l_FnExactSureDiagonals_told : Nat → Option SealT := fun id => none
theorem l_FnExactSureDiagonals_ok : FOK Tryz.prog n_l_FnExactSureDiagonals l_FnExactSureDiagonals_sh l_FnExactSureDiagonals_fo l_FnExactSureDiagonals :=
  fn_ok (E := l_FnExactSureDiagonals_E) (l_FnExactSureDiagonals_Eok) (told := l_FnExactSureDiagonals_told) (fl := []) (c := bodyOf fn_l_FnExactSureDiagonals) (s := l_FnExactSureDiagonals_sh) (l := l_FnExactSureDiagonals_fo) (tree := l_FnExactSureDiagonals_t) fnat_l_FnExactSureDiagonals (by kernel_rfl) (by kernel_rfl) (by kernel_rfl) (loopsOK_of (ls := []) (by kernel_rfl) trivial) (fun v => by kernel_rfl)

theorem l_FnExactSureDiagonals_true (l : List Int) (hs : smallL ASh.small [.ag [.sl (.int .i64) false false]] l) : l_FnExactSureDiagonals l = some true := by
  have hl0 : l.length < 140737488355328 := hs.1
  have hl : l.length < 4611686018427387904 := by omega
  have hl2 : (sdR l).2.length ≤ 9 := by
    unfold sdR
    split
    · rename_i q t _ _
      show (t.foldl (fun out r => out.filter (hasD (dOf r))) (dOf q)).length ≤ 9
      rw [sure_fold]
      exact Nat.le_trans (List.length_filter_le _ _) (dOf_len q)
    · simp
  have hr := i_SureDiagonals_eq l hl
  have hsp := s_SureDiagonals_eq l hl
  generalize sdR l = r at *
  obtain ⟨ok, r⟩ := r
  simp only at hl2 hr hsp
  rw [l_FnExactSureDiagonals, l_FnExactSureDiagonals_t, T.run_sub, l_szPuzzle_eq l _ (by decide) hl, Option.bind_some, T.run_test]
  split
  · rfl
  · rename_i hsz
    have hlen : l.length < 10000000000000 := by omega
    have hl1 : r.length < 4611686018427387904 := by omega
    have hm := l_markDiagonalS_eq 1 r (by omega) (by omega)
    have hml := l_markPuzzle_eq 1 l (by omega) (by omega)
    have hh := l_heldDiagonalS_eq 1 r.length (by omega) (by omega)
    have hw : win (iotD 1 r.length) 0 r.length = iotD 1 r.length := by have := win_all (iotD 1 r.length); rwa [iotD_len] at this
    have hx : ¬ ((1 : Int) + 2 * (r.length : Int) < 0) := by omega
    have hx2 : ¬ ((1 : Int) + l.length < 0) := by omega
    simp (config := { maxSteps := 10000000 }) [T.run, hsz, l_toPuzzle_eq l hlen, win_all, hr, hsp, l_eqDiagonalS_eq r r hl1, l_eqPuzzle_eq l l hl, hm, hml, iotD_len, hw, hh, hx, hx2]


end Go.Proofs.W
