/- Functions of the program, walked, and what they compute. -/
import Derived.Test.YtlicdnpbkijhjaaIds
set_option linter.unusedVariables false
set_option linter.unusedSimpArgs false
set_option maxRecDepth 100000
set_option maxHeartbeats 4000000
namespace Go.Proofs.W
open Go Go.Gm Go.Proofs
def l_szIntS_sh : FSh := ⟨[(.one (.sl (.int .i64) false false)), (.one (.si .i64))], []⟩

def l_szIntS_fo : List FO := [⟨[(.one (.si .i64))], []⟩]
noncomputable def l_szIntS_t : (List (Int) × Int) → T Int := fun (a, left) =>
  (.test (decide ((w64 (left - ((List.length a) : Int))) < 0))
  (.ret (-1))
  (.ret (w64 (left - ((List.length a) : Int)))))
noncomputable def l_szIntS (v : (List (Int) × Int)) : Option Int := (l_szIntS_t v).run
noncomputable def l_szIntS_E : TEnv := E0
theorem l_szIntS_Eok : (l_szIntS_E).OK := E0ok
noncomputable def l_szIntS_told : Nat → Option SealT := fun id => none
theorem l_szIntS_ok : FOK Try.prog n_l_szIntS l_szIntS_sh l_szIntS_fo l_szIntS :=
  fn_ok (E := l_szIntS_E) (l_szIntS_Eok) (told := l_szIntS_told) (fl := []) (c := bodyOf fn_l_szIntS) (s := l_szIntS_sh) (l := l_szIntS_fo) (tree := l_szIntS_t) fnat_l_szIntS (by kernel_rfl) (by kernel_rfl) (by kernel_rfl) (loopsOK_of (ls := []) (by kernel_rfl) trivial) (fun v => by kernel_rfl)

theorem l_szIntS_eq (a : List Int) (n : Int) (h1 : n.natAbs < 4611686018427387904) (h2 : a.length < 4611686018427387904) : l_szIntS (a, n) = some (if n - a.length < 0 then -1 else n - a.length) := by
  simp only [l_szIntS, l_szIntS_t, T.run]
  rw [w64_id (by omega) (by omega)]
  simp only [decide_eq_true_eq]
  split <;> rfl


def l_szPuzzle_sh : FSh := ⟨[(.ag [(.sl (.int .i64) false false)]), (.one (.si .i64))], []⟩

def l_szPuzzle_fo : List FO := [⟨[(.one (.si .i64))], []⟩]
noncomputable def l_szPuzzle_t : (List (Int) × Int) → T Int := fun (a_0, left) =>
  (.sub (l_szIntS (a_0, left)) fun z0 =>
  (.test (decide (z0 < 0))
  (.ret (-1))
  (.ret z0)))
noncomputable def l_szPuzzle (v : (List (Int) × Int)) : Option Int := (l_szPuzzle_t v).run
noncomputable def l_szPuzzle_E : TEnv := (E0.add1 n_l_szIntS l_szIntS_sh l_szIntS_fo l_szIntS)
theorem l_szPuzzle_Eok : (l_szPuzzle_E).OK := (E0ok.add1 l_szIntS_ok)
noncomputable def l_szPuzzle_told : Nat → Option SealT := fun id => none
theorem l_szPuzzle_ok : FOK Try.prog n_l_szPuzzle l_szPuzzle_sh l_szPuzzle_fo l_szPuzzle :=
  fn_ok (E := l_szPuzzle_E) (l_szPuzzle_Eok) (told := l_szPuzzle_told) (fl := []) (c := bodyOf fn_l_szPuzzle) (s := l_szPuzzle_sh) (l := l_szPuzzle_fo) (tree := l_szPuzzle_t) fnat_l_szPuzzle (by kernel_rfl) (by kernel_rfl) (by kernel_rfl) (loopsOK_of (ls := []) (by kernel_rfl) trivial) (fun v => by kernel_rfl)

theorem l_szPuzzle_eq (a : List Int) (n : Int) (h1 : n.natAbs < 4611686018427387904) (h2 : a.length < 4611686018427387904) : l_szPuzzle (a, n) = some (if n - a.length < 0 then -1 else n - a.length) := by
  simp only [l_szPuzzle, l_szPuzzle_t, T.run, l_szIntS_eq a n h1 h2, Option.bind_some, decide_eq_true_eq]
  split <;> simp_all


def l_toIntS_sh : FSh := ⟨[(.one (.sl (.int .i64) false false))], []⟩

def l_toIntS_L3_sh : LSh := ⟨(fun ex => match ex with | .norm => [(0, none), (3, none), (4, none)] | .exit i => if i = 0 then [(3, none)] else [] | .ret => [(2, none)]), [(0, (.one (.sl (.int .i64) false false))), (3, (.one (.rw 0 0))), (4, (.one (.si .i64)))], [(.row 0 (.int .i64))], [⟨(.exit 0), [(3, (.one (.rw 0 0)))], [(.row 0 (.int .i64))]⟩]⟩
noncomputable def l_toIntS_L3_step : ((List (Int) × Unit × Int) × List (Int)) → T (((List (Int) × Unit × Int) × List (Int)) ⊕ (Unit × List (Int))) := fun ((a, (), i), out) =>
  (.test (decide (i < ((List.length a) : Int)))
  (.test (decide ((0 ≤ i) ∧ (i < ((List.length a) : Int))))
   (.sub (a[(Int.toNat i)]?) fun z0 =>
    (.test (decide ((0 ≤ i) ∧ (i < ((List.length out) : Int))))
    (.sub (out[(0 + (Int.toNat i))]?) fun z1 =>
     (.test (decide ((0 = 0) ∧ ((List.length out) = (List.length (List.set out (0 + (Int.toNat i)) z0)))))
     (.ret (Sum.inl ((a, ((), (w64 (i + 1)))), (List.set out (0 + (Int.toNat i)) z0))))
     .fail))
    .fail))
   .fail)
  (.test (decide ((0 = 0) ∧ ((List.length out) = (List.length out))))
   (.ret (Sum.inr ((), out)))
   .fail))
noncomputable def l_toIntS_L3 (v : ((List (Int) × Unit × Int) × List (Int))) : Option (Unit × List (Int)) := loopO (fun v => (l_toIntS_L3_step v).run) v

def l_toIntS_fo : List FO := [⟨[(.one (.rw 0 0))], [(.row 0 (.int .i64))]⟩]
noncomputable def l_toIntS_t : List (Int) → T (Unit × List (Int)) := fun a =>
  (.test (decide ((0 ≤ ((List.length a) : Int)) ∧ ((((List.length a) : Int) ≤ ((List.length a) : Int)) ∧ (((Int.toNat ((List.length a) : Int)) * 9) ≤ 140737488355328))))
  (.test (decide ((0 = 0) ∧ ((Int.toNat ((List.length a) : Int)) = (List.length (List.replicate (Int.toNat ((List.length a) : Int)) (0 : Int))))))
   (.sub (l_toIntS_L3 ((a, ((), (0 : Int))), (List.replicate (Int.toNat ((List.length a) : Int)) (0 : Int)))) fun z0 =>
    (.test (decide ((0 = 0) ∧ ((List.length z0.2) = (List.length z0.2))))
    (.ret ((), z0.2))
    .fail))
   .fail)
  .fail)
noncomputable def l_toIntS (v : List (Int)) : Option (Unit × List (Int)) := (l_toIntS_t v).run
noncomputable def l_toIntS_E : TEnv := E0
theorem l_toIntS_Eok : (l_toIntS_E).OK := E0ok
noncomputable def l_toIntS_told : Nat → Option SealT := fun id => if id = 3 then some (LSh.told l_toIntS_L3_sh 0 (l_toIntS_L3_step)) else none
theorem l_toIntS_L3_ok : ToldOK Try.prog 0 (loopAt (bodyOf fn_l_toIntS) [0]) (LSh.told l_toIntS_L3_sh 0 (l_toIntS_L3_step)) :=
  loop_ok (E := l_toIntS_E) (l_toIntS_Eok) (told := l_toIntS_told) (l := l_toIntS_L3_sh) (step := l_toIntS_L3_step) (loopsOK_of (ls := []) (by kernel_rfl) trivial) (by kernel_rfl) (fun v => by kernel_rfl)
theorem l_toIntS_ok : FOK Try.prog n_l_toIntS l_toIntS_sh l_toIntS_fo l_toIntS :=
  fn_ok (E := l_toIntS_E) (l_toIntS_Eok) (told := l_toIntS_told) (fl := []) (c := bodyOf fn_l_toIntS) (s := l_toIntS_sh) (l := l_toIntS_fo) (tree := l_toIntS_t) fnat_l_toIntS (by kernel_rfl) (by kernel_rfl) (by kernel_rfl) (loopsOK_of (ls := [loopAt (bodyOf fn_l_toIntS) [0]]) (by kernel_rfl) ⟨.inr ⟨_, by kernel_rfl, l_toIntS_L3_ok⟩, trivial⟩) (fun v => by kernel_rfl)

theorem l_toIntS_eq (a : List Int) (hl : a.length < 10000000000000) : l_toIntS a = some ((), a) := by
  have h := loop_eq (step := fun v => (l_toIntS_L3_step v).run) (fun v => a.length - v.1.2.2.toNat) (fun v => v.1.1 = a ∧ ∃ k : Nat, k ≤ a.length ∧ v.1.2.2 = k ∧ v.2.length = a.length ∧ v.2.take k = a.take k) (fun _ => ((), a)) (by
    rintro ⟨⟨a', ⟨⟩, i⟩, out⟩ ⟨e, k, hk, e2, hlen, ht⟩
    simp only at e e2 hlen ht
    subst e e2
    by_cases hlt : k < a'.length
    · left
      refine ⟨((a', (), (k + 1 : Nat)), out.set k a'[k]), ?_, ⟨rfl, k + 1, by omega, rfl, by simp [hlen], ?_⟩, by simp only [Int.toNat_natCast]; omega, rfl⟩
      · simp only [l_toIntS_L3_step, T.run, Int.toNat_natCast, Option.bind_some, List.getElem?_eq_getElem hlt, Nat.zero_add, List.getElem?_eq_getElem (show k < out.length by omega)]
        rw [w64_id (by omega) (by omega)]
        simp [hlen, hlt]
      · rw [List.take_succ_eq_append_getElem (by simp; omega), List.take_succ_eq_append_getElem hlt, List.take_set_of_le (Nat.le_refl _), ht]
        simp
    · right
      have : k = a'.length := by omega
      subst this
      rw [List.take_length, ← hlen, List.take_length] at ht
      subst ht
      simp [l_toIntS_L3_step, T.run])
    ((a, (), 0), List.replicate a.length 0) ⟨rfl, 0, Nat.zero_le _, rfl, by simp, by simp⟩
  simp only [l_toIntS, l_toIntS_t, T.run, l_toIntS_L3, Int.toNat_natCast]
  rw [h]
  simp
  omega


def l_toPuzzle_sh : FSh := ⟨[(.ag [(.sl (.int .i64) false false)])], []⟩

def l_toPuzzle_fo : List FO := [⟨[(.ag [(.rw 0 0)])], [(.row 0 (.int .i64))]⟩]
noncomputable def l_toPuzzle_t : List (Int) → T (Unit × List (Int)) := fun a_0 =>
  (.sub (l_toIntS a_0) fun z0 =>
  (.test (decide ((0 = 0) ∧ ((List.length z0.2) = (List.length z0.2))))
  (.ret ((), z0.2))
  .fail))
noncomputable def l_toPuzzle (v : List (Int)) : Option (Unit × List (Int)) := (l_toPuzzle_t v).run
noncomputable def l_toPuzzle_E : TEnv := (E0.add1 n_l_toIntS l_toIntS_sh l_toIntS_fo l_toIntS)
theorem l_toPuzzle_Eok : (l_toPuzzle_E).OK := (E0ok.add1 l_toIntS_ok)
noncomputable def l_toPuzzle_told : Nat → Option SealT := fun id => none
theorem l_toPuzzle_ok : FOK Try.prog n_l_toPuzzle l_toPuzzle_sh l_toPuzzle_fo l_toPuzzle :=
  fn_ok (E := l_toPuzzle_E) (l_toPuzzle_Eok) (told := l_toPuzzle_told) (fl := []) (c := bodyOf fn_l_toPuzzle) (s := l_toPuzzle_sh) (l := l_toPuzzle_fo) (tree := l_toPuzzle_t) fnat_l_toPuzzle (by kernel_rfl) (by kernel_rfl) (by kernel_rfl) (loopsOK_of (ls := []) (by kernel_rfl) trivial) (fun v => by kernel_rfl)

theorem l_toPuzzle_eq (a : List Int) (hl : a.length < 10000000000000) : l_toPuzzle a = some ((), a) := by
  simp [l_toPuzzle, l_toPuzzle_t, T.run, l_toIntS_eq a hl]


def s_l1In_sh : FSh := ⟨[(.one (.si .i64)), (.one (.si .i64)), (.one (.si .i64))], []⟩

def s_l1In_fo : List FO := [⟨[(.one .sb)], []⟩]
noncomputable def s_l1In_t : (Int × Int × Int) → T Bool := fun (n, lo, hi) =>
  (.test (decide (n ≥ lo))
  (.ret (decide (n ≤ hi)))
  (.ret false))
noncomputable def s_l1In (v : (Int × Int × Int)) : Option Bool := (s_l1In_t v).run
noncomputable def s_l1In_E : TEnv := E0
theorem s_l1In_Eok : (s_l1In_E).OK := E0ok
noncomputable def s_l1In_told : Nat → Option SealT := fun id => none
theorem s_l1In_ok : FOK Try.prog n_s_l1In s_l1In_sh s_l1In_fo s_l1In :=
  fn_ok (E := s_l1In_E) (s_l1In_Eok) (told := s_l1In_told) (fl := []) (c := bodyOf fn_s_l1In) (s := s_l1In_sh) (l := s_l1In_fo) (tree := s_l1In_t) fnat_s_l1In (by kernel_rfl) (by kernel_rfl) (by kernel_rfl) (loopsOK_of (ls := []) (by kernel_rfl) trivial) (fun v => by kernel_rfl)

theorem s_l1In_eq (n low high : Int) : s_l1In (n, low, high) = some (inB low high n) := by
  simp only [s_l1In, s_l1In_t, T.run, ge_iff_le, decide_eq_true_eq, inB]
  by_cases h : low ≤ n <;> simp [h]


def s_l1All_sh : FSh := ⟨[(.one (.sl (.int .i64) false false)), (.one (.si .i64)), (.one (.si .i64))], []⟩

def s_l1All_L2_sh : LSh := ⟨(fun ex => match ex with | .norm => [(1, none), (2, none), (9, none), (10, none), (11, none)] | .exit i => if i = 0 then [] else [] | .ret => [(6, none)]), [(1, (.one (.si .i64))), (2, (.one (.si .i64))), (9, (.one (.sl (.int .i64) false false))), (10, (.one (.si .i64))), (11, (.one (.si .i64)))], [], [⟨.ret, [(6, (.one .sb))], []⟩, ⟨(.exit 0), [], []⟩]⟩
noncomputable def s_l1All_L2_step : (Int × Int × List (Int) × Int × Int) → T ((Int × Int × List (Int) × Int × Int) ⊕ (Bool ⊕ Unit)) := fun (lo, hi, t9, t10, t11) =>
  (.test (decide (t11 < t10))
  (.test (decide ((0 ≤ t11) ∧ (t11 < ((List.length t9) : Int))))
   (.sub (t9[(Int.toNat t11)]?) fun z0 =>
    (.sub (s_l1In (z0, (lo, hi))) fun z1 =>
    (.test (! z1)
    (.ret (Sum.inr (Sum.inl false)))
    (.ret (Sum.inl (lo, (hi, (t9, (t10, (w64 (t11 + 1)))))))))))
   .fail)
  (.ret (Sum.inr (Sum.inr ()))))
noncomputable def s_l1All_L2 (v : (Int × Int × List (Int) × Int × Int)) : Option (Bool ⊕ Unit) := loopO (fun v => (s_l1All_L2_step v).run) v

def s_l1All_fo : List FO := [⟨[(.one .sb)], []⟩]
noncomputable def s_l1All_t : (List (Int) × Int × Int) → T Bool := fun (l, lo, hi) =>
  (.sub (s_l1All_L2 (lo, (hi, (l, (((List.length l) : Int), (0 : Int)))))) fun z0 =>
  (.test (Sum.isLeft z0)
  (.sub (Sum.getLeft? z0) fun z1 =>
   (.ret z1))
  (.sub (Sum.getRight? z0) fun z2 =>
   (.ret true))))
noncomputable def s_l1All (v : (List (Int) × Int × Int)) : Option Bool := (s_l1All_t v).run
noncomputable def s_l1All_E : TEnv := (E0.add1 n_s_l1In s_l1In_sh s_l1In_fo s_l1In)
theorem s_l1All_Eok : (s_l1All_E).OK := (E0ok.add1 s_l1In_ok)
noncomputable def s_l1All_told : Nat → Option SealT := fun id => if id = 2 then some (LSh.told s_l1All_L2_sh 0 (s_l1All_L2_step)) else none
theorem s_l1All_L2_ok : ToldOK Try.prog 0 (loopAt (bodyOf fn_s_l1All) [0]) (LSh.told s_l1All_L2_sh 0 (s_l1All_L2_step)) :=
  loop_ok (E := s_l1All_E) (s_l1All_Eok) (told := s_l1All_told) (l := s_l1All_L2_sh) (step := s_l1All_L2_step) (loopsOK_of (ls := []) (by kernel_rfl) trivial) (by kernel_rfl) (fun v => by kernel_rfl)
theorem s_l1All_ok : FOK Try.prog n_s_l1All s_l1All_sh s_l1All_fo s_l1All :=
  fn_ok (E := s_l1All_E) (s_l1All_Eok) (told := s_l1All_told) (fl := []) (c := bodyOf fn_s_l1All) (s := s_l1All_sh) (l := s_l1All_fo) (tree := s_l1All_t) fnat_s_l1All (by kernel_rfl) (by kernel_rfl) (by kernel_rfl) (loopsOK_of (ls := [loopAt (bodyOf fn_s_l1All) [0]]) (by kernel_rfl) ⟨.inr ⟨_, by kernel_rfl, s_l1All_L2_ok⟩, trivial⟩) (fun v => by kernel_rfl)

theorem s_l1All_eq (l : List Int) (lo hi : Int) (hl : l.length < 4611686018427387904) : s_l1All (l, lo, hi) = some (l.all (inB lo hi)) := by
  have h := loop_any (step := fun v => (s_l1All_L2_step v).run) (xs := l) (fun n => !inB lo hi n) (fun k => (lo, hi, l, (l.length : Int), (k : Int))) (.inl false) (.inr ())
    (fun k x hx => by
      have hk := getElem?_lt hx
      simp only [s_l1All_L2_step, T.run, s_l1In_eq, Option.bind_some, Int.toNat_natCast, hx]
      rw [w64_id (by omega) (by omega)]
      cases inB lo hi x <;> simp [hk])
    (by simp [s_l1All_L2_step, T.run])
  simp only [s_l1All, s_l1All_t, T.run, s_l1All_L2]
  simp only [Int.natCast_zero] at h
  rw [h, ← all_any]
  cases hb : l.any (fun n => !inB lo hi n) <;> simp


def s_pzGood_sh : FSh := ⟨[(.ag [(.sl (.int .i64) false false)])], []⟩

def s_pzGood_fo : List FO := [⟨[(.one .sb)], []⟩]
noncomputable def s_pzGood_t : List (Int) → T Bool := fun p_0 =>
  (.sub (s_l1In (((List.length p_0) : Int), ((3 : Int), (9 : Int)))) fun z0 =>
  (.test z0
  (.sub (s_l1All (p_0, ((0 : Int), (w64 (((List.length p_0) : Int) - 2))))) fun z1 =>
   (.ret z1))
  (.ret false)))
noncomputable def s_pzGood (v : List (Int)) : Option Bool := (s_pzGood_t v).run
noncomputable def s_pzGood_E : TEnv := ((E0.add1 n_s_l1In s_l1In_sh s_l1In_fo s_l1In).add1 n_s_l1All s_l1All_sh s_l1All_fo s_l1All)
theorem s_pzGood_Eok : (s_pzGood_E).OK := ((E0ok.add1 s_l1In_ok).add1 s_l1All_ok)
noncomputable def s_pzGood_told : Nat → Option SealT := fun id => none
theorem s_pzGood_ok : FOK Try.prog n_s_pzGood s_pzGood_sh s_pzGood_fo s_pzGood :=
  fn_ok (E := s_pzGood_E) (s_pzGood_Eok) (told := s_pzGood_told) (fl := []) (c := bodyOf fn_s_pzGood) (s := s_pzGood_sh) (l := s_pzGood_fo) (tree := s_pzGood_t) fnat_s_pzGood (by kernel_rfl) (by kernel_rfl) (by kernel_rfl) (loopsOK_of (ls := []) (by kernel_rfl) trivial) (fun v => by kernel_rfl)

theorem s_pzGood_eq (l : List Int) (hl : l.length < 4611686018427387904) : s_pzGood l = some (inB 3 9 l.length && l.all (inB 0 (l.length - 2))) := by
  simp only [s_pzGood, s_pzGood_t, T.run, s_l1In_eq, Option.bind_some, s_l1All_eq _ _ _ hl]
  rw [w64_id (by omega) (by omega)]
  cases inB 3 9 l.length <;> simp


def s_IsPuzzle_sh : FSh := ⟨[(.ag [(.sl (.int .i64) false false)])], []⟩

def s_IsPuzzle_fo : List FO := [⟨[(.one .sb)], []⟩]
noncomputable def s_IsPuzzle_t : List (Int) → T Bool := fun p_0 =>
  (.sub (s_pzGood p_0) fun z0 =>
  (.ret z0))
noncomputable def s_IsPuzzle (v : List (Int)) : Option Bool := (s_IsPuzzle_t v).run
noncomputable def s_IsPuzzle_E : TEnv := (E0.add1 n_s_pzGood s_pzGood_sh s_pzGood_fo s_pzGood)
theorem s_IsPuzzle_Eok : (s_IsPuzzle_E).OK := (E0ok.add1 s_pzGood_ok)
noncomputable def s_IsPuzzle_told : Nat → Option SealT := fun id => none
theorem s_IsPuzzle_ok : FOK Try.prog n_s_IsPuzzle s_IsPuzzle_sh s_IsPuzzle_fo s_IsPuzzle :=
  fn_ok (E := s_IsPuzzle_E) (s_IsPuzzle_Eok) (told := s_IsPuzzle_told) (fl := []) (c := bodyOf fn_s_IsPuzzle) (s := s_IsPuzzle_sh) (l := s_IsPuzzle_fo) (tree := s_IsPuzzle_t) fnat_s_IsPuzzle (by kernel_rfl) (by kernel_rfl) (by kernel_rfl) (loopsOK_of (ls := []) (by kernel_rfl) trivial) (fun v => by kernel_rfl)

theorem s_IsPuzzle_eq (l : List Int) (hl : l.length < 4611686018427387904) : s_IsPuzzle l = some (inB 3 9 l.length && l.all (inB 0 (l.length - 2))) := by
  simp only [s_IsPuzzle, s_IsPuzzle_t, T.run, s_pzGood_eq l hl, Option.bind_some]


def i_within_sh : FSh := ⟨[(.one (.si .i64)), (.one (.si .i64)), (.one (.si .i64))], []⟩

def i_within_fo : List FO := [⟨[(.one .sb)], []⟩]
noncomputable def i_within_t : (Int × Int × Int) → T Bool := fun (n, low, high) =>
  (.test (decide (n ≥ low))
  (.ret (decide (n ≤ high)))
  (.ret false))
noncomputable def i_within (v : (Int × Int × Int)) : Option Bool := (i_within_t v).run
noncomputable def i_within_E : TEnv := E0
theorem i_within_Eok : (i_within_E).OK := E0ok
noncomputable def i_within_told : Nat → Option SealT := fun id => none
theorem i_within_ok : FOK Try.prog n_i_within i_within_sh i_within_fo i_within :=
  fn_ok (E := i_within_E) (i_within_Eok) (told := i_within_told) (fl := []) (c := bodyOf fn_i_within) (s := i_within_sh) (l := i_within_fo) (tree := i_within_t) fnat_i_within (by kernel_rfl) (by kernel_rfl) (by kernel_rfl) (loopsOK_of (ls := []) (by kernel_rfl) trivial) (fun v => by kernel_rfl)

theorem i_within_eq (n low high : Int) : i_within (n, low, high) = some (inB low high n) := by
  simp only [i_within, i_within_t, T.run, ge_iff_le, decide_eq_true_eq, inB]
  by_cases h : low ≤ n <;> simp [h]


def i_IsPuzzle_1_sh : FSh := ⟨[(.one (.si .i64)), (.one (.pf 0 0 0))], [(.rcd 0 [(.si .i64)])]⟩

def i_IsPuzzle_1_fo : List FO := [⟨[(.one .sb)], [(.rcd 0 [(.si .i64)])]⟩]
noncomputable def i_IsPuzzle_1_t : ((Int × Unit) × Int) → T (Bool × Int) := fun ((k, ()), t1_0) =>
  (.sub (i_within (k, ((0 : Int), (w64 (t1_0 - 2))))) fun z0 =>
  (.ret ((! z0), t1_0)))
noncomputable def i_IsPuzzle_1 (v : ((Int × Unit) × Int)) : Option (Bool × Int) := (i_IsPuzzle_1_t v).run
noncomputable def i_IsPuzzle_1_E : TEnv := (E0.add1 n_i_within i_within_sh i_within_fo i_within)
theorem i_IsPuzzle_1_Eok : (i_IsPuzzle_1_E).OK := (E0ok.add1 i_within_ok)
noncomputable def i_IsPuzzle_1_told : Nat → Option SealT := fun id => none
theorem i_IsPuzzle_1_ok : FOK Try.prog n_i_IsPuzzle_1 i_IsPuzzle_1_sh i_IsPuzzle_1_fo i_IsPuzzle_1 :=
  fn_ok (E := i_IsPuzzle_1_E) (i_IsPuzzle_1_Eok) (told := i_IsPuzzle_1_told) (fl := []) (c := bodyOf fn_i_IsPuzzle_1) (s := i_IsPuzzle_1_sh) (l := i_IsPuzzle_1_fo) (tree := i_IsPuzzle_1_t) fnat_i_IsPuzzle_1 (by kernel_rfl) (by kernel_rfl) (by kernel_rfl) (loopsOK_of (ls := []) (by kernel_rfl) trivial) (fun v => by kernel_rfl)

theorem i_IsPuzzle_1_eq (k c : Int) (h : 0 ≤ c) (h2 : c < 4611686018427387904) : i_IsPuzzle_1 ((k, ()), c) = some (!inB 0 (c - 2) k, c) := by
  simp only [i_IsPuzzle_1, i_IsPuzzle_1_t, T.run, i_within_eq, Option.bind_some]
  rw [w64_id (by omega) (by omega)]


def slices_IndexFunc_int__i_IsPuzzle_1_sh : FSh := ⟨[(.one (.sl (.int .i64) false false)), (.clo n_i_IsPuzzle_1 [(.one (.pf 0 0 0))])], [(.rcd 0 [(.si .i64)])]⟩

def slices_IndexFunc_int__i_IsPuzzle_1_L2_sh : LSh := ⟨(fun ex => match ex with | .norm => [(0, none), (1, none), (7, none), (8, none)] | .exit i => if i = 0 then [] else [] | .ret => [(4, none)]), [(0, (.one (.sl (.int .i64) false false))), (1, (.clo n_i_IsPuzzle_1 [(.one (.pf 0 0 0))])), (7, (.one (.si .i64))), (8, (.one (.si .i64)))], [(.rcd 0 [(.si .i64)])], [⟨.ret, [(4, (.one (.si .i64)))], [(.rcd 0 [(.si .i64)])]⟩, ⟨(.exit 0), [], [(.rcd 0 [(.si .i64)])]⟩]⟩
noncomputable def slices_IndexFunc_int__i_IsPuzzle_1_L2_step : ((List (Int) × Unit × Int × Int) × Int) → T (((List (Int) × Unit × Int × Int) × Int) ⊕ ((Int × Int) ⊕ (Unit × Int))) := fun ((s, (), t7, t8), r0_0) =>
  (.test (decide (t8 < t7))
  (.test (decide ((0 ≤ t8) ∧ (t8 < ((List.length s) : Int))))
   (.sub (s[(Int.toNat t8)]?) fun z0 =>
    (.sub (i_IsPuzzle_1 ((z0, ()), r0_0)) fun z1 =>
    (.test z1.1
    (.ret (Sum.inr (Sum.inl (t8, z1.2))))
    (.ret (Sum.inl ((s, ((), (t7, (w64 (t8 + 1))))), z1.2))))))
   .fail)
  (.ret (Sum.inr (Sum.inr ((), r0_0)))))
noncomputable def slices_IndexFunc_int__i_IsPuzzle_1_L2 (v : ((List (Int) × Unit × Int × Int) × Int)) : Option ((Int × Int) ⊕ (Unit × Int)) := loopO (fun v => (slices_IndexFunc_int__i_IsPuzzle_1_L2_step v).run) v

def slices_IndexFunc_int__i_IsPuzzle_1_fo : List FO := [⟨[(.one (.si .i64))], [(.rcd 0 [(.si .i64)])]⟩]
noncomputable def slices_IndexFunc_int__i_IsPuzzle_1_t : ((List (Int) × Unit) × Int) → T (Int × Int) := fun ((s, ()), r0_0) =>
  (.sub (slices_IndexFunc_int__i_IsPuzzle_1_L2 ((s, ((), (((List.length s) : Int), (0 : Int)))), r0_0)) fun z0 =>
  (.test (Sum.isLeft z0)
  (.sub (Sum.getLeft? z0) fun z1 =>
   (.ret (z1.1, z1.2)))
  (.sub (Sum.getRight? z0) fun z2 =>
   (.ret ((-1), z2.2)))))
noncomputable def slices_IndexFunc_int__i_IsPuzzle_1 (v : ((List (Int) × Unit) × Int)) : Option (Int × Int) := (slices_IndexFunc_int__i_IsPuzzle_1_t v).run
noncomputable def slices_IndexFunc_int__i_IsPuzzle_1_E : TEnv := (E0.add1 n_i_IsPuzzle_1 i_IsPuzzle_1_sh i_IsPuzzle_1_fo i_IsPuzzle_1)
theorem slices_IndexFunc_int__i_IsPuzzle_1_Eok : (slices_IndexFunc_int__i_IsPuzzle_1_E).OK := (E0ok.add1 i_IsPuzzle_1_ok)
noncomputable def slices_IndexFunc_int__i_IsPuzzle_1_told : Nat → Option SealT := fun id => if id = 2 then some (LSh.told slices_IndexFunc_int__i_IsPuzzle_1_L2_sh 1 (slices_IndexFunc_int__i_IsPuzzle_1_L2_step)) else none
theorem slices_IndexFunc_int__i_IsPuzzle_1_L2_ok : ToldOK Try.prog 1 (loopAt (bodyOf fn_slices_IndexFunc_int) [0]) (LSh.told slices_IndexFunc_int__i_IsPuzzle_1_L2_sh 1 (slices_IndexFunc_int__i_IsPuzzle_1_L2_step)) :=
  loop_ok (E := slices_IndexFunc_int__i_IsPuzzle_1_E) (slices_IndexFunc_int__i_IsPuzzle_1_Eok) (told := slices_IndexFunc_int__i_IsPuzzle_1_told) (l := slices_IndexFunc_int__i_IsPuzzle_1_L2_sh) (step := slices_IndexFunc_int__i_IsPuzzle_1_L2_step) (loopsOK_of (ls := []) (by kernel_rfl) trivial) (by kernel_rfl) (fun v => by kernel_rfl)
theorem slices_IndexFunc_int__i_IsPuzzle_1_ok : FOK Try.prog n_slices_IndexFunc_int slices_IndexFunc_int__i_IsPuzzle_1_sh slices_IndexFunc_int__i_IsPuzzle_1_fo slices_IndexFunc_int__i_IsPuzzle_1 :=
  fn_ok (E := slices_IndexFunc_int__i_IsPuzzle_1_E) (slices_IndexFunc_int__i_IsPuzzle_1_Eok) (told := slices_IndexFunc_int__i_IsPuzzle_1_told) (fl := []) (c := bodyOf fn_slices_IndexFunc_int) (s := slices_IndexFunc_int__i_IsPuzzle_1_sh) (l := slices_IndexFunc_int__i_IsPuzzle_1_fo) (tree := slices_IndexFunc_int__i_IsPuzzle_1_t) fnat_slices_IndexFunc_int (by kernel_rfl) (by kernel_rfl) (by kernel_rfl) (loopsOK_of (ls := [loopAt (bodyOf fn_slices_IndexFunc_int) [0]]) (by kernel_rfl) ⟨.inr ⟨_, by kernel_rfl, slices_IndexFunc_int__i_IsPuzzle_1_L2_ok⟩, trivial⟩) (fun v => by kernel_rfl)

theorem slices_IndexFunc_int__i_IsPuzzle_1_eq (l : List Int) (c : Int) (hl : l.length < 4611686018427387904) (h : 0 ≤ c) (h2 : c < 4611686018427387904) : slices_IndexFunc_int__i_IsPuzzle_1 ((l, ()), c) = some (idxI (fun k => !inB 0 (c - 2) k) l, c) := by
  have h := loop_find (step := fun v => (slices_IndexFunc_int__i_IsPuzzle_1_L2_step v).run) (xs := l) (fun k => !inB 0 (c - 2) k) (fun k => ((l, (), (l.length : Int), (k : Int)), c)) (fun k => .inl ((k : Int), c)) (.inr ((), c))
    (fun k x hx => by
      have hk := getElem?_lt hx
      simp only [slices_IndexFunc_int__i_IsPuzzle_1_L2_step, T.run, i_IsPuzzle_1_eq _ _ h h2, Option.bind_some, Int.toNat_natCast, hx]
      rw [w64_id (by omega) (by omega)]
      cases inB 0 (c - 2) x <;> simp [hk])
    (by simp [slices_IndexFunc_int__i_IsPuzzle_1_L2_step, T.run])
  simp only [slices_IndexFunc_int__i_IsPuzzle_1, slices_IndexFunc_int__i_IsPuzzle_1_t, T.run, slices_IndexFunc_int__i_IsPuzzle_1_L2]
  simp only [Int.natCast_zero] at h
  rw [h, idxI]
  cases l.findIdx? (fun k => !inB 0 (c - 2) k) <;> simp


def slices_ContainsFunc_int__i_IsPuzzle_1_sh : FSh := ⟨[(.one (.sl (.int .i64) false false)), (.clo n_i_IsPuzzle_1 [(.one (.pf 0 0 0))])], [(.rcd 0 [(.si .i64)])]⟩

def slices_ContainsFunc_int__i_IsPuzzle_1_fo : List FO := [⟨[(.one .sb)], [(.rcd 0 [(.si .i64)])]⟩]
noncomputable def slices_ContainsFunc_int__i_IsPuzzle_1_t : ((List (Int) × Unit) × Int) → T (Bool × Int) := fun ((s, ()), r0_0) =>
  (.sub (slices_IndexFunc_int__i_IsPuzzle_1 ((s, ()), r0_0)) fun z0 =>
  (.ret ((decide (z0.1 ≥ 0)), z0.2)))
noncomputable def slices_ContainsFunc_int__i_IsPuzzle_1 (v : ((List (Int) × Unit) × Int)) : Option (Bool × Int) := (slices_ContainsFunc_int__i_IsPuzzle_1_t v).run
noncomputable def slices_ContainsFunc_int__i_IsPuzzle_1_E : TEnv := (E0.add1 n_slices_IndexFunc_int slices_IndexFunc_int__i_IsPuzzle_1_sh slices_IndexFunc_int__i_IsPuzzle_1_fo slices_IndexFunc_int__i_IsPuzzle_1)
theorem slices_ContainsFunc_int__i_IsPuzzle_1_Eok : (slices_ContainsFunc_int__i_IsPuzzle_1_E).OK := (E0ok.add1 slices_IndexFunc_int__i_IsPuzzle_1_ok)
noncomputable def slices_ContainsFunc_int__i_IsPuzzle_1_told : Nat → Option SealT := fun id => none
theorem slices_ContainsFunc_int__i_IsPuzzle_1_ok : FOK Try.prog n_slices_ContainsFunc_int slices_ContainsFunc_int__i_IsPuzzle_1_sh slices_ContainsFunc_int__i_IsPuzzle_1_fo slices_ContainsFunc_int__i_IsPuzzle_1 :=
  fn_ok (E := slices_ContainsFunc_int__i_IsPuzzle_1_E) (slices_ContainsFunc_int__i_IsPuzzle_1_Eok) (told := slices_ContainsFunc_int__i_IsPuzzle_1_told) (fl := []) (c := bodyOf fn_slices_ContainsFunc_int) (s := slices_ContainsFunc_int__i_IsPuzzle_1_sh) (l := slices_ContainsFunc_int__i_IsPuzzle_1_fo) (tree := slices_ContainsFunc_int__i_IsPuzzle_1_t) fnat_slices_ContainsFunc_int (by kernel_rfl) (by kernel_rfl) (by kernel_rfl) (loopsOK_of (ls := []) (by kernel_rfl) trivial) (fun v => by kernel_rfl)

theorem slices_ContainsFunc_int__i_IsPuzzle_1_eq (l : List Int) (c : Int) (hl : l.length < 4611686018427387904) (h : 0 ≤ c) (h2 : c < 4611686018427387904) : slices_ContainsFunc_int__i_IsPuzzle_1 ((l, ()), c) = some (l.any (fun k => !inB 0 (c - 2) k), c) := by
  simp only [slices_ContainsFunc_int__i_IsPuzzle_1, slices_ContainsFunc_int__i_IsPuzzle_1_t, T.run, slices_IndexFunc_int__i_IsPuzzle_1_eq _ _ hl h h2, Option.bind_some, idxI_ge]


def i_IsPuzzle_sh : FSh := ⟨[(.ag [(.sl (.int .i64) false false)])], []⟩

def i_IsPuzzle_fo : List FO := [⟨[(.one .sb)], []⟩]
noncomputable def i_IsPuzzle_t : List (Int) → T Bool := fun p_0 =>
  (.sub (i_within (((List.length p_0) : Int), ((3 : Int), (9 : Int)))) fun z0 =>
  (.test z0
  (.sub (slices_ContainsFunc_int__i_IsPuzzle_1 ((p_0, ()), ((List.length p_0) : Int))) fun z1 =>
   (.ret (! z1.1)))
  (.ret false)))
noncomputable def i_IsPuzzle (v : List (Int)) : Option Bool := (i_IsPuzzle_t v).run
noncomputable def i_IsPuzzle_E : TEnv := ((E0.add1 n_i_within i_within_sh i_within_fo i_within).add1 n_slices_ContainsFunc_int slices_ContainsFunc_int__i_IsPuzzle_1_sh slices_ContainsFunc_int__i_IsPuzzle_1_fo slices_ContainsFunc_int__i_IsPuzzle_1)
theorem i_IsPuzzle_Eok : (i_IsPuzzle_E).OK := ((E0ok.add1 i_within_ok).add1 slices_ContainsFunc_int__i_IsPuzzle_1_ok)
noncomputable def i_IsPuzzle_told : Nat → Option SealT := fun id => none
theorem i_IsPuzzle_ok : FOK Try.prog n_i_IsPuzzle i_IsPuzzle_sh i_IsPuzzle_fo i_IsPuzzle :=
  fn_ok (E := i_IsPuzzle_E) (i_IsPuzzle_Eok) (told := i_IsPuzzle_told) (fl := []) (c := bodyOf fn_i_IsPuzzle) (s := i_IsPuzzle_sh) (l := i_IsPuzzle_fo) (tree := i_IsPuzzle_t) fnat_i_IsPuzzle (by kernel_rfl) (by kernel_rfl) (by kernel_rfl) (loopsOK_of (ls := []) (by kernel_rfl) trivial) (fun v => by kernel_rfl)

theorem i_IsPuzzle_eq (l : List Int) (hl : l.length < 4611686018427387904) : i_IsPuzzle l = some (inB 3 9 l.length && l.all (inB 0 (l.length - 2))) := by
  simp only [i_IsPuzzle, i_IsPuzzle_t, T.run, i_within_eq, Option.bind_some, slices_ContainsFunc_int__i_IsPuzzle_1_eq l l.length hl (by omega) (by omega), all_any]
  cases inB 3 9 l.length <;> simp


def l_eqIntS_sh : FSh := ⟨[(.one (.sl (.int .i64) false false)), (.one (.sl (.int .i64) false false))], []⟩

def l_eqIntS_L4_sh : LSh := ⟨(fun ex => match ex with | .norm => [(0, none), (1, none), (5, none)] | .exit i => if i = 0 then [] else [] | .ret => [(4, none)]), [(0, (.one (.sl (.int .i64) false false))), (1, (.one (.sl (.int .i64) false false))), (5, (.one (.si .i64)))], [], [⟨.ret, [(4, (.one .sb))], []⟩, ⟨(.exit 0), [], []⟩]⟩
noncomputable def l_eqIntS_L4_step : (List (Int) × List (Int) × Int) → T ((List (Int) × List (Int) × Int) ⊕ (Bool ⊕ Unit)) := fun (a, b, i) =>
  (.test (decide (i < ((List.length a) : Int)))
  (.test (decide ((0 ≤ i) ∧ (i < ((List.length a) : Int))))
   (.sub (a[(Int.toNat i)]?) fun z0 =>
    (.test (decide ((0 ≤ i) ∧ (i < ((List.length b) : Int))))
    (.sub (b[(Int.toNat i)]?) fun z1 =>
     (.test (z0 != z1)
     (.ret (Sum.inr (Sum.inl false)))
     (.ret (Sum.inl (a, (b, (w64 (i + 1))))))))
    .fail))
   .fail)
  (.ret (Sum.inr (Sum.inr ()))))
noncomputable def l_eqIntS_L4 (v : (List (Int) × List (Int) × Int)) : Option (Bool ⊕ Unit) := loopO (fun v => (l_eqIntS_L4_step v).run) v

def l_eqIntS_fo : List FO := [⟨[(.one .sb)], []⟩]
noncomputable def l_eqIntS_t : (List (Int) × List (Int)) → T Bool := fun (a, b) =>
  (.test (((List.length a) : Int) != ((List.length b) : Int))
  (.ret false)
  (.sub (l_eqIntS_L4 (a, (b, (0 : Int)))) fun z0 =>
   (.test (Sum.isLeft z0)
   (.sub (Sum.getLeft? z0) fun z1 =>
    (.ret z1))
   (.sub (Sum.getRight? z0) fun z2 =>
    (.ret true)))))
noncomputable def l_eqIntS (v : (List (Int) × List (Int))) : Option Bool := (l_eqIntS_t v).run
noncomputable def l_eqIntS_E : TEnv := E0
theorem l_eqIntS_Eok : (l_eqIntS_E).OK := E0ok
noncomputable def l_eqIntS_told : Nat → Option SealT := fun id => if id = 4 then some (LSh.told l_eqIntS_L4_sh 0 (l_eqIntS_L4_step)) else none
theorem l_eqIntS_L4_ok : ToldOK Try.prog 0 (loopAt (bodyOf fn_l_eqIntS) [0]) (LSh.told l_eqIntS_L4_sh 0 (l_eqIntS_L4_step)) :=
  loop_ok (E := l_eqIntS_E) (l_eqIntS_Eok) (told := l_eqIntS_told) (l := l_eqIntS_L4_sh) (step := l_eqIntS_L4_step) (loopsOK_of (ls := []) (by kernel_rfl) trivial) (by kernel_rfl) (fun v => by kernel_rfl)
theorem l_eqIntS_ok : FOK Try.prog n_l_eqIntS l_eqIntS_sh l_eqIntS_fo l_eqIntS :=
  fn_ok (E := l_eqIntS_E) (l_eqIntS_Eok) (told := l_eqIntS_told) (fl := []) (c := bodyOf fn_l_eqIntS) (s := l_eqIntS_sh) (l := l_eqIntS_fo) (tree := l_eqIntS_t) fnat_l_eqIntS (by kernel_rfl) (by kernel_rfl) (by kernel_rfl) (loopsOK_of (ls := [loopAt (bodyOf fn_l_eqIntS) [0]]) (by kernel_rfl) ⟨.inr ⟨_, by kernel_rfl, l_eqIntS_L4_ok⟩, trivial⟩) (fun v => by kernel_rfl)

theorem l_eqIntS_eq (a b : List Int) (hl : a.length < 4611686018427387904) : l_eqIntS (a, b) = some (decide (a = b)) := by
  by_cases hab : a.length = b.length
  · have h := loop_any (step := fun v => (l_eqIntS_L4_step v).run) (xs := a.zip b) (fun p => p.1 != p.2) (fun k => (a, b, (k : Int))) (.inl false) (.inr ())
      (fun k x hx => by
        have hk := getElem?_lt hx
        rw [List.length_zip, hab, Nat.min_self] at hk
        rw [List.getElem?_zip_eq_some] at hx
        simp only [l_eqIntS_L4_step, T.run, Option.bind_some, Int.toNat_natCast, hx.1, hx.2]
        rw [w64_id (by omega) (by omega)]
        have hka : k < a.length := by omega
        cases x.1 != x.2 <;> simp [hk, hka])
      (by simp [l_eqIntS_L4_step, T.run, hab])
    simp only [l_eqIntS, l_eqIntS_t, T.run, l_eqIntS_L4]
    simp only [Int.natCast_zero] at h
    rw [h, hab]
    have e : (a.zip b).any (fun p => p.1 != p.2) = !decide (a = b) := zip_any_ne a b hab
    rw [e]
    cases decide (a = b) <;> simp
  · simp only [l_eqIntS, l_eqIntS_t, T.run]
    have : a ≠ b := fun e => hab (by rw [e])
    simp [this]
    omega


def l_eqPuzzle_sh : FSh := ⟨[(.ag [(.sl (.int .i64) false false)]), (.ag [(.sl (.int .i64) false false)])], []⟩

def l_eqPuzzle_fo : List FO := [⟨[(.one .sb)], []⟩]
noncomputable def l_eqPuzzle_t : (List (Int) × List (Int)) → T Bool := fun (a_0, b_0) =>
  (.sub (l_eqIntS (a_0, b_0)) fun z0 =>
  (.test (! z0)
  (.ret false)
  (.ret true)))
noncomputable def l_eqPuzzle (v : (List (Int) × List (Int))) : Option Bool := (l_eqPuzzle_t v).run
noncomputable def l_eqPuzzle_E : TEnv := (E0.add1 n_l_eqIntS l_eqIntS_sh l_eqIntS_fo l_eqIntS)
theorem l_eqPuzzle_Eok : (l_eqPuzzle_E).OK := (E0ok.add1 l_eqIntS_ok)
noncomputable def l_eqPuzzle_told : Nat → Option SealT := fun id => none
theorem l_eqPuzzle_ok : FOK Try.prog n_l_eqPuzzle l_eqPuzzle_sh l_eqPuzzle_fo l_eqPuzzle :=
  fn_ok (E := l_eqPuzzle_E) (l_eqPuzzle_Eok) (told := l_eqPuzzle_told) (fl := []) (c := bodyOf fn_l_eqPuzzle) (s := l_eqPuzzle_sh) (l := l_eqPuzzle_fo) (tree := l_eqPuzzle_t) fnat_l_eqPuzzle (by kernel_rfl) (by kernel_rfl) (by kernel_rfl) (loopsOK_of (ls := []) (by kernel_rfl) trivial) (fun v => by kernel_rfl)

theorem l_eqPuzzle_eq (a b : List Int) (hl : a.length < 4611686018427387904) : l_eqPuzzle (a, b) = some (decide (a = b)) := by
  simp only [l_eqPuzzle, l_eqPuzzle_t, T.run, l_eqIntS_eq a b hl, Option.bind_some]
  cases decide (a = b) <;> rfl


def l_FnExactIsPuzzle_sh : FSh := ⟨[(.ag [(.sl (.int .i64) false false)])], []⟩

def l_FnExactIsPuzzle_fo : List FO := [⟨[(.one .sb)], []⟩]
noncomputable def l_FnExactIsPuzzle_t : List (Int) → T Bool := fun aP_0 =>
  (.sub (l_szPuzzle (aP_0, (1048576 : Int))) fun z0 =>
  (.test (decide (z0 < 0))
  (.ret true)
  (.sub (l_toPuzzle aP_0) fun z1 =>
   (.test (decide ((0 + (List.length z1.2)) ≤ (List.length z1.2)))
   (.sub (s_IsPuzzle (win z1.2 0 (List.length z1.2))) fun z2 =>
    (.sub (l_toPuzzle aP_0) fun z3 =>
    (.test (decide ((0 + (List.length z3.2)) ≤ (List.length z3.2)))
    (.sub (i_IsPuzzle (win z3.2 0 (List.length z3.2))) fun z4 =>
     (.test (! (z4 == z2))
     (.ret false)
     (.sub (l_toPuzzle aP_0) fun z5 =>
      (.test (decide ((0 + (List.length z3.2)) ≤ (List.length z3.2)))
      (.test (decide ((0 + (List.length z5.2)) ≤ (List.length z5.2)))
       (.sub (l_eqPuzzle ((win z3.2 0 (List.length z3.2)), (win z5.2 0 (List.length z5.2)))) fun z6 =>
        (.test (! z6)
        (.ret false)
        (.ret true)))
       .fail)
      .fail))))
    .fail)))
   .fail))))
noncomputable def l_FnExactIsPuzzle (v : List (Int)) : Option Bool := (l_FnExactIsPuzzle_t v).run
noncomputable def l_FnExactIsPuzzle_E : TEnv := (((((E0.add1 n_l_szPuzzle l_szPuzzle_sh l_szPuzzle_fo l_szPuzzle).add1 n_l_toPuzzle l_toPuzzle_sh l_toPuzzle_fo l_toPuzzle).add1 n_s_IsPuzzle s_IsPuzzle_sh s_IsPuzzle_fo s_IsPuzzle).add1 n_i_IsPuzzle i_IsPuzzle_sh i_IsPuzzle_fo i_IsPuzzle).add1 n_l_eqPuzzle l_eqPuzzle_sh l_eqPuzzle_fo l_eqPuzzle)
theorem l_FnExactIsPuzzle_Eok : (l_FnExactIsPuzzle_E).OK := (((((E0ok.add1 l_szPuzzle_ok).add1 l_toPuzzle_ok).add1 s_IsPuzzle_ok).add1 i_IsPuzzle_ok).add1 l_eqPuzzle_ok)
noncomputable def l_FnExactIsPuzzle_told : Nat → Option SealT := fun id => none
theorem l_FnExactIsPuzzle_ok : FOK Try.prog n_l_FnExactIsPuzzle l_FnExactIsPuzzle_sh l_FnExactIsPuzzle_fo l_FnExactIsPuzzle :=
  fn_ok (E := l_FnExactIsPuzzle_E) (l_FnExactIsPuzzle_Eok) (told := l_FnExactIsPuzzle_told) (fl := []) (c := bodyOf fn_l_FnExactIsPuzzle) (s := l_FnExactIsPuzzle_sh) (l := l_FnExactIsPuzzle_fo) (tree := l_FnExactIsPuzzle_t) fnat_l_FnExactIsPuzzle (by kernel_rfl) (by kernel_rfl) (by kernel_rfl) (loopsOK_of (ls := []) (by kernel_rfl) trivial) (fun v => by kernel_rfl)

theorem l_FnExactIsPuzzle_true (l : List Int) (hs : smallL ASh.small [.ag [.sl (.int .i64) false false]] l) : l_FnExactIsPuzzle l = some true := by
  have hl : l.length < 4611686018427387904 := by have := hs.1; omega
  simp only [l_FnExactIsPuzzle, l_FnExactIsPuzzle_t, T.run, l_szPuzzle_eq l 1048576 (by decide) hl, Option.bind_some, decide_eq_true_eq]
  split
  · rfl
  · have h : l.length < 10000000000000 := by omega
    simp [l_toPuzzle_eq l h, win_all, s_IsPuzzle_eq l hl, i_IsPuzzle_eq l hl, l_eqPuzzle_eq l l hl]


end Go.Proofs.W
