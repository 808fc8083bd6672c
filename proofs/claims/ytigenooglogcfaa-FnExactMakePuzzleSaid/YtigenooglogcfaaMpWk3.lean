/- Functions of the program, walked, and what they compute. -/
import Derived.Test.YtigenooglogcfaaMpWk2
set_option linter.unusedVariables false
set_option linter.unusedSimpArgs false
set_option maxRecDepth 100000
set_option maxHeartbeats 4000000
namespace Go.Proofs.W
open Go Go.Gm Go.Proofs
open Go.RowKit Go.Shelf
def slices_Repeat_int_sh : FSh := ⟨[(.one (.sl (.int .i64) false false)), (.one (.si .i64))], []⟩

def slices_Repeat_int_L8_sh : LSh := ⟨(fun ex => match ex with | .norm => [(7, none), (8, none)] | .exit i => if i = 0 then [(7, none)] else [] | .ret => [(4, none)]), [(7, (.one (.rw 0 0))), (8, (.one (.si .i64)))], [(.row 0 (.int .i64))], [⟨(.exit 0), [(7, (.one (.rw 0 0)))], [(.row 0 (.int .i64))]⟩], [], []⟩
noncomputable def slices_Repeat_int_L8_step : ((Unit × Int) × List (Int)) → T (((Unit × Int) × List (Int)) ⊕ (Unit × List (Int))) := fun (((), n), newslice) =>
  (.test (decide (n < ((List.length newslice) : Int)))
  (.test (decide (0 ≤ n))
   (.test (decide (((Int.toNat n) ≤ (List.length newslice)) ∧ ((List.length newslice) ≤ (List.length newslice))))
    (.test (decide (0 ≤ n))
     (.test (decide ((0 ≤ (Int.toNat n)) ∧ ((Int.toNat n) ≤ (List.length newslice))))
      (.test (decide ((0 + ((Int.toNat n) - 0)) ≤ (List.length newslice)))
       (.test (decide ((0 < (min (List.length (win newslice 0 ((Int.toNat n) - 0))) ((List.length newslice) - (Int.toNat n)))) ∧ (((0 + (Int.toNat n)) + ((List.length newslice) - (Int.toNat n))) ≤ (List.length newslice))))
        (.test (decide ((0 = 0) ∧ ((List.length newslice) = (List.length (spliceT newslice (0 + (Int.toNat n)) (List.take (min (List.length (win newslice 0 ((Int.toNat n) - 0))) ((List.length newslice) - (Int.toNat n))) (win newslice 0 ((Int.toNat n) - 0))))))))
         (.ret (Sum.inl (((), (w64 (n + (((min (List.length (win newslice 0 ((Int.toNat n) - 0))) ((List.length newslice) - (Int.toNat n))) : Nat) : Int)))), (spliceT newslice (0 + (Int.toNat n)) (List.take (min (List.length (win newslice 0 ((Int.toNat n) - 0))) ((List.length newslice) - (Int.toNat n))) (win newslice 0 ((Int.toNat n) - 0)))))))
         .fail)
        .fail)
       .fail)
      .fail)
     .fail)
    .fail)
   .fail)
  (.test (decide ((0 = 0) ∧ ((List.length newslice) = (List.length newslice))))
   (.ret (Sum.inr ((), newslice)))
   .fail))
noncomputable def slices_Repeat_int_L8 (v : ((Unit × Int) × List (Int))) : Option (Unit × List (Int)) := loopO (fun v => (slices_Repeat_int_L8_step v).run) v

def slices_Repeat_int_fo : List FO := [⟨[(.one (.rw 0 0))], [(.row 0 (.int .i64))]⟩]
noncomputable def slices_Repeat_int_t : (List (Int) × Int) → T (Unit × List (Int)) := fun (x, count) =>
  (.test (decide (count < 0))
  .fail
  (.sub (math_bits_Mul ((wu64 ((List.length x) : Int)), (wu64 count))) fun z0 =>
   (.test (decide (z0.1 > 0))
   .fail
   (.test (decide (z0.2 > 9223372036854775807))
    .fail
    (.test (decide ((0 ≤ (w64 z0.2)) ∧ (((w64 z0.2) ≤ (w64 z0.2)) ∧ (((Int.toNat (w64 z0.2)) * 9) ≤ 140737488355328))))
     (.test (decide ((0 < (min (List.length x) (Int.toNat (w64 z0.2)))) ∧ ((0 + (Int.toNat (w64 z0.2))) ≤ (List.length (List.replicate (Int.toNat (w64 z0.2)) (0 : Int))))))
      (.test (decide ((0 = 0) ∧ ((Int.toNat (w64 z0.2)) = (List.length (spliceT (List.replicate (Int.toNat (w64 z0.2)) (0 : Int)) 0 (List.take (min (List.length x) (Int.toNat (w64 z0.2))) x))))))
       (.sub (slices_Repeat_int_L8 (((), (((min (List.length x) (Int.toNat (w64 z0.2))) : Nat) : Int)), (spliceT (List.replicate (Int.toNat (w64 z0.2)) (0 : Int)) 0 (List.take (min (List.length x) (Int.toNat (w64 z0.2))) x)))) fun z1 =>
        (.test (decide ((0 = 0) ∧ ((List.length z1.2) = (List.length z1.2))))
        (.ret ((), z1.2))
        .fail))
       .fail)
      .fail)
     .fail)))))
noncomputable def slices_Repeat_int (v : (List (Int) × Int)) : Option (Unit × List (Int)) := (slices_Repeat_int_t v).run
noncomputable def slices_Repeat_int_E : TEnv := (E0.add1 n_math_bits_Mul math_bits_Mul_sh math_bits_Mul_fo math_bits_Mul)
theorem slices_Repeat_int_Eok : (slices_Repeat_int_E).OK := (E0ok.add1 math_bits_Mul_ok)
noncomputable def slices_Repeat_int_told : Nat → Option SealT := fun id => if id = 8 then some (LSh.told slices_Repeat_int_L8_sh 0 (slices_Repeat_int_L8_step)) else none
theorem slices_Repeat_int_L8_ok : ToldOK Try.prog 0 (loopAt (bodyOf fn_slices_Repeat_int) [0]) (LSh.told slices_Repeat_int_L8_sh 0 (slices_Repeat_int_L8_step)) :=
  loop_ok (E := slices_Repeat_int_E) (slices_Repeat_int_Eok) (told := slices_Repeat_int_told) (l := slices_Repeat_int_L8_sh) (step := slices_Repeat_int_L8_step) (loopsOK_of (ls := []) (by kernel_rfl) trivial) (by kernel_rfl) (fun v => by kernel_rfl)
theorem slices_Repeat_int_ok : FOK Try.prog n_slices_Repeat_int slices_Repeat_int_sh slices_Repeat_int_fo slices_Repeat_int :=
  fn_ok (E := slices_Repeat_int_E) (slices_Repeat_int_Eok) (told := slices_Repeat_int_told) (fl := []) (c := bodyOf fn_slices_Repeat_int) (s := slices_Repeat_int_sh) (l := slices_Repeat_int_fo) (tree := slices_Repeat_int_t) fnat_slices_Repeat_int (by kernel_rfl) (by kernel_rfl) (by kernel_rfl) (loopsOK_of (ls := [loopAt (bodyOf fn_slices_Repeat_int) [0]]) (by kernel_rfl) ⟨.inr ⟨_, by kernel_rfl, slices_Repeat_int_L8_ok⟩, trivial⟩) (fun v => by kernel_rfl)

theorem slices_Repeat_int_one (n : Nat) (h1 : 1 ≤ n) (h2 : n ≤ 1000000) : slices_Repeat_int ([1], (n : Int)) = some ((), List.replicate n 1) := by
  have hm : math_bits_Mul (wu64 (([1] : List Int).length : Int), wu64 (n : Int)) = some (0, (n : Int)) := by
    have e1 : wu64 (([1] : List Int).length : Int) = 1 := IntWalk.u64_in _ ⟨by simp, by simp⟩
    have e2 : wu64 (n : Int) = (n : Int) := IntWalk.u64_in _ ⟨by omega, by omega⟩
    rw [e1, e2]
    unfold math_bits_Mul
    simp only []
    rw [if_pos ⟨by omega, by omega, by omega, by omega⟩]
    have t1 : (1 : Int).toNat = 1 := rfl
    rw [t1, Int.toNat_natCast, Nat.one_mul, Nat.div_eq_of_lt (by omega), Nat.mod_eq_of_lt (by omega)]
    rfl
  have hl : ∀ m k, k + m = n → 1 ≤ k → slices_Repeat_int_L8 (((), (k : Int)), List.replicate k 1 ++ List.replicate (n - k) 0) = some ((), List.replicate n 1) := by
    intro m
    induction m using Nat.strongRecOn with
    | ind m ih =>
      intro k hk hk1
      have hlen : (List.replicate k (1 : Int) ++ List.replicate (n - k) 0).length = n := by simp; omega
      by_cases hm : m = 0
      · have : k = n := by omega
        subst this
        rw [Nat.sub_self, List.replicate_zero, List.append_nil]
        simp only [slices_Repeat_int_L8]
        exact loopO_done (by simp [slices_Repeat_int_L8_step, T.run])
      · have ih := ih (m - min k (n - k)) (by omega) (k + min k (n - k)) (by omega) (by omega)
        simp only [slices_Repeat_int_L8] at ih ⊢
        rw [← ih]
        refine loopO_next ?_
        have c0 : (k : Int) < (n : Int) := by omega
        have c1 : (0 : Int) ≤ (k : Int) := by omega
        have c2 : k ≤ n ∧ n ≤ n := by omega
        have c3 : 0 ≤ k ∧ k ≤ n := by omega
        have tw : win (List.replicate k (1 : Int) ++ List.replicate (n - k) 0) 0 (k - 0) = List.replicate k 1 := by
          rw [win_take, Nat.sub_zero, List.take_left' (by simp)]
        have c4 : 0 + (k - 0) ≤ n := by omega
        have c5 : 0 < min k (n - k) ∧ 0 + k + (n - k) ≤ n := by omega
        have w1 : w64 ((k : Int) + ((min k (n - k) : Nat) : Int)) = ((k + min k (n - k) : Nat) : Int) := by rw [w64_id (by omega) (by omega)]; omega
        have sp : spliceT (List.replicate k (1 : Int) ++ List.replicate (n - k) 0) (0 + k) (List.take (min k (n - k)) (List.replicate k 1)) = List.replicate (k + min k (n - k)) 1 ++ List.replicate (n - (k + min k (n - k))) 0 := by
          unfold spliceT
          rw [Nat.zero_add, List.take_left' (by simp), List.take_replicate, List.length_replicate, List.drop_append, List.drop_replicate, List.drop_replicate, List.length_replicate]
          rw [show k - (k + min (min k (n - k)) k) = 0 by omega, show min (min k (n - k)) k = min k (n - k) by omega, show n - k - (k + min k (n - k) - k) = n - (k + min k (n - k)) by omega, List.replicate_zero, List.nil_append, ← List.append_assoc, List.replicate_append_replicate]
        have lsp : n = (List.replicate (k + min k (n - k)) (1 : Int) ++ List.replicate (n - (k + min k (n - k))) 0).length := by simp; omega
        simp only [slices_Repeat_int_L8_step, T.run, hlen, c0, c1, c2, c3, c4, c5, decide_true, if_true, and_self, Int.toNat_natCast, tw, List.length_replicate, sp, w1]
        rw [← lsp]
        simp
  simp only [slices_Repeat_int, slices_Repeat_int_t, T.run, hm, Option.bind_some]
  have w1 : w64 (n : Int) = (n : Int) := w64_id (by omega) (by omega)
  have c0 : ¬ ((n : Int) < 0) := by omega
  have c1 : ¬ ((n : Int) > 9223372036854775807) := by omega
  have c2 : 0 ≤ (n : Int) ∧ (n : Int) ≤ (n : Int) ∧ n * 9 ≤ 140737488355328 := by omega
  have m1 : min ([1] : List Int).length n = 1 := by simp; omega
  have sp : spliceT (List.replicate n (0 : Int)) 0 (List.take 1 [1]) = List.replicate 1 1 ++ List.replicate (n - 1) 0 := by
    unfold spliceT
    simp
  have lsp : n = (List.replicate 1 (1 : Int) ++ List.replicate (n - 1) 0).length := by simp; omega
  simp only [c0, c1, w1, decide_false, Bool.false_eq_true, if_false, Int.toNat_natCast, c2, and_self, decide_true, if_true, m1, sp, hl (n - 1) 1 (by omega) (Nat.le_refl 1), Option.bind_some]
  simp only [List.length_replicate, Nat.zero_add]
  rw [← lsp]
  simp


def i_quiddity_sh : FSh := ⟨[(.one (.si .i64)), (.one (.sl (.pair (.int .i64) (.int .i64)) false false))], []⟩

def i_quiddity_L3_sh : LSh := ⟨(fun ex => match ex with | .norm => [(5, none), (11, none), (12, none), (13, none)] | .exit i => if i = 0 then [(5, none)] else [] | .ret => [(4, none)]), [(5, (.one (.rw 0 0))), (11, (.one (.sl (.pair (.int .i64) (.int .i64)) false false))), (12, (.one (.si .i64))), (13, (.one (.si .i64)))], [(.row 0 (.int .i64))], [⟨(.exit 0), [(5, (.one (.rw 0 0)))], [(.row 0 (.int .i64))]⟩], [], []⟩
noncomputable def i_quiddity_L3_step : ((Unit × List ((Int × Int)) × Int × Int) × List (Int)) → T (((Unit × List ((Int × Int)) × Int × Int) × List (Int)) ⊕ (Unit × List (Int))) := fun (((), t11, t12, t13), out) =>
  (.test (decide (t13 < t12))
  (.test (decide ((0 ≤ t13) ∧ (t13 < ((List.length t11) : Int))))
   (.sub (t11[(Int.toNat t13)]?) fun z0 =>
    (.test (decide ((0 ≤ z0.1) ∧ (z0.1 < ((List.length out) : Int))))
    (.sub (out[(0 + (Int.toNat z0.1))]?) fun z1 =>
     (.test (decide ((0 ≤ z0.1) ∧ (z0.1 < ((List.length out) : Int))))
     (.sub (out[(0 + (Int.toNat z0.1))]?) fun z2 =>
      (.test (decide ((0 ≤ z0.2) ∧ (z0.2 < ((List.length out) : Int))))
      (.sub ((List.set out (0 + (Int.toNat z0.1)) (w64 (z1 + 1)))[(0 + (Int.toNat z0.2))]?) fun z3 =>
       (.test (decide ((0 ≤ z0.2) ∧ (z0.2 < ((List.length out) : Int))))
       (.sub ((List.set out (0 + (Int.toNat z0.1)) (w64 (z1 + 1)))[(0 + (Int.toNat z0.2))]?) fun z4 =>
        (.test (decide ((0 = 0) ∧ ((List.length out) = (List.length (List.set (List.set out (0 + (Int.toNat z0.1)) (w64 (z1 + 1))) (0 + (Int.toNat z0.2)) (w64 (z3 + 1)))))))
        (.ret (Sum.inl (((), (t11, (t12, (w64 (t13 + 1))))), (List.set (List.set out (0 + (Int.toNat z0.1)) (w64 (z1 + 1))) (0 + (Int.toNat z0.2)) (w64 (z3 + 1))))))
        .fail))
       .fail))
      .fail))
     .fail))
    .fail))
   .fail)
  (.test (decide ((0 = 0) ∧ ((List.length out) = (List.length out))))
   (.ret (Sum.inr ((), out)))
   .fail))
noncomputable def i_quiddity_L3 (v : ((Unit × List ((Int × Int)) × Int × Int) × List (Int))) : Option (Unit × List (Int)) := loopO (fun v => (i_quiddity_L3_step v).run) v

def i_quiddity_fo : List FO := [⟨[(.one (.rw 0 0))], [(.row 0 (.int .i64))]⟩]
noncomputable def i_quiddity_t : (Int × List ((Int × Int))) → T (Unit × List (Int)) := fun (n, ds) =>
  (.test true
  (.sub (slices_Repeat_int ((win (List.set (List.replicate 1 (0 : Int)) 0 (1 : Int)) 0 1), n)) fun z0 =>
   (.test (decide ((0 = 0) ∧ ((List.length z0.2) = (List.length z0.2))))
   (.sub (i_quiddity_L3 (((), (ds, (((List.length ds) : Int), (0 : Int)))), z0.2)) fun z1 =>
    (.test (decide ((0 = 0) ∧ ((List.length z1.2) = (List.length z1.2))))
    (.ret ((), z1.2))
    .fail))
   .fail))
  .fail)
noncomputable def i_quiddity (v : (Int × List ((Int × Int)))) : Option (Unit × List (Int)) := (i_quiddity_t v).run
noncomputable def i_quiddity_E : TEnv := (E0.add1 n_slices_Repeat_int slices_Repeat_int_sh slices_Repeat_int_fo slices_Repeat_int)
theorem i_quiddity_Eok : (i_quiddity_E).OK := (E0ok.add1 slices_Repeat_int_ok)
noncomputable def i_quiddity_told : Nat → Option SealT := fun id => if id = 3 then some (LSh.told i_quiddity_L3_sh 0 (i_quiddity_L3_step)) else none
theorem i_quiddity_L3_ok : ToldOK Try.prog 0 (loopAt (bodyOf fn_i_quiddity) [0]) (LSh.told i_quiddity_L3_sh 0 (i_quiddity_L3_step)) :=
  loop_ok (E := i_quiddity_E) (i_quiddity_Eok) (told := i_quiddity_told) (l := i_quiddity_L3_sh) (step := i_quiddity_L3_step) (loopsOK_of (ls := []) (by kernel_rfl) trivial) (by kernel_rfl) (fun v => by kernel_rfl)
theorem i_quiddity_ok : FOK Try.prog n_i_quiddity i_quiddity_sh i_quiddity_fo i_quiddity :=
  fn_ok (E := i_quiddity_E) (i_quiddity_Eok) (told := i_quiddity_told) (fl := []) (c := bodyOf fn_i_quiddity) (s := i_quiddity_sh) (l := i_quiddity_fo) (tree := i_quiddity_t) fnat_i_quiddity (by kernel_rfl) (by kernel_rfl) (by kernel_rfl) (loopsOK_of (ls := [loopAt (bodyOf fn_i_quiddity) [0]]) (by kernel_rfl) ⟨.inr ⟨_, by kernel_rfl, i_quiddity_L3_ok⟩, trivial⟩) (fun v => by kernel_rfl)

theorem i_quiddity_eq (n : Nat) (ds : List Dg) (hn : 1 ≤ n ∧ n ≤ 1000000) (hl : ds.length < 1000000) (h : ∀ d ∈ ds, 0 ≤ d.1 ∧ d.1 < d.2 ∧ d.2 < (n : Int)) : i_quiddity ((n : Int), ds) = some ((), quid n ds) := by
  have hl' := loop_fold (step := fun v => (i_quiddity_L3_step v).run) (xs := ds) (fun k (s : List Int) => s.length = n ∧ ∀ p, p < n → 0 ≤ s.getD p 0 ∧ s.getD p 0 ≤ k + 1) (fun k s => (((), (ds, ((ds.length : Int), (k : Int)))), s)) bumpD (fun s => ((), s))
    (fun k s d hP hd => by
      obtain ⟨hs, hb⟩ := hP
      have hlt := getElem?_lt hd
      obtain ⟨q1, q2, q3⟩ := h d (List.mem_of_getElem? hd)
      refine ⟨?_, by rw [bumpD_length, hs], fun p hp => ?_⟩
      · have c0 : (k : Int) < (ds.length : Int) := by omega
        have c1 : (0 : Int) ≤ (k : Int) ∧ (k : Int) < (ds.length : Int) := by omega
        have w1 : w64 ((k : Int) + 1) = ((k + 1 : Nat) : Int) := by rw [w64_id (by omega) (by omega)]; omega
        have c2 : 0 ≤ d.1 ∧ d.1 < (s.length : Int) := by omega
        have c3 : 0 ≤ d.2 ∧ d.2 < (s.length : Int) := by omega
        have b1 := hb d.1.toNat (by omega)
        have b2 := hb d.2.toNat (by omega)
        have g1 : s[d.1.toNat]? = some (s.getD d.1.toNat 0) := by rw [List.getD_eq_getElem?_getD, List.getElem?_eq_getElem (by omega)]; rfl
        have g2 : s[d.2.toNat]? = some (s.getD d.2.toNat 0) := by rw [List.getD_eq_getElem?_getD, List.getElem?_eq_getElem (by omega)]; rfl
        have w2 : w64 (s.getD d.1.toNat 0 + 1) = s.getD d.1.toNat 0 + 1 := w64_id (by omega) (by omega)
        have w3 : w64 (s.getD d.2.toNat 0 + 1) = s.getD d.2.toNat 0 + 1 := w64_id (by omega) (by omega)
        have g3 : (s.set d.1.toNat (s.getD d.1.toNat 0 + 1))[d.2.toNat]? = some (s.getD d.2.toNat 0) := by rw [List.getElem?_set_ne (by omega)]; exact g2
        simp only [i_quiddity_L3_step, T.run, c0, c1, c2, c3, decide_true, if_true, and_self, Int.toNat_natCast, hd, Option.bind_some, Nat.zero_add, g1, w2, g3, w3, w1]
        simp [bumpD]
      · rw [bumpD_get q1 q2 (by omega) (by omega)]
        have := hb p hp
        have : 0 ≤ cntD d p ∧ cntD d p ≤ 1 := by unfold cntD; split <;> split <;> omega
        omega)
    (fun s hs => by simp [i_quiddity_L3_step, T.run])
    (List.replicate n 1) ⟨by simp, fun p hp => by rw [List.getD_eq_getElem?_getD, List.getElem?_replicate, if_pos hp]; simp⟩
  have hq : ds.foldl bumpD (List.replicate n 1) = quid n ds := by
    obtain ⟨f1, f2⟩ := bump_fold n ds (List.replicate n 1) (by simp) h
    refine List.ext_getElem (by rw [f1]; simp [quid]) fun p hp _ => ?_
    have := f2 p (by omega)
    rw [List.getD_eq_getElem?_getD, List.getElem?_eq_getElem hp, List.getD_eq_getElem?_getD, List.getElem?_replicate, if_pos (by omega)] at this
    simp only [Option.getD_some] at this
    rw [this]
    simp [quid]
  simp only [Int.natCast_zero] at hl'
  have hw : win (List.set (List.replicate 1 (0 : Int)) 0 (1 : Int)) 0 1 = [1] := rfl
  simp only [i_quiddity, i_quiddity_t, T.run, hw, slices_Repeat_int_one n hn.1 hn.2, Option.bind_some, i_quiddity_L3]
  rw [hl'.1, hq]
  simp


def i_triangulation_sh : FSh := ⟨[(.one (.sl (.int .i64) false false))], []⟩

def i_triangulation_L5_sh : LSh := ⟨(fun ex => match ex with | .norm => [(0, none), (4, none), (5, none), (6, none), (24, none), (25, none)] | .exit i => if i = 0 then [(0, none), (4, none), (5, none), (6, none)] else [] | .ret => [(2, none), (3, none)]), [(0, (.one (.sl (.int .i64) false false))), (4, (.one (.rw 0 0))), (5, (.one (.rw 1 0))), (6, (.one (.rw 2 0))), (24, (.one (.si .i64))), (25, (.one (.si .i64)))], [(.row 0 (.int .i64)), (.row 0 (.int .i64)), (.row 0 (.pair (.int .i64) (.int .i64)))], [⟨(.exit 0), [(0, (.one (.sl (.int .i64) false false))), (4, (.one (.rw 0 0))), (5, (.one (.rw 1 0))), (6, (.one (.rw 2 0)))], [(.row 0 (.int .i64)), (.row 0 (.int .i64)), (.row 0 (.pair (.int .i64) (.int .i64)))]⟩], [], []⟩
noncomputable def i_triangulation_L5_step : ((List (Int) × Unit × Unit × Unit × Int × Int) × (List (Int) × List (Int) × List ((Int × Int)))) → T (((List (Int) × Unit × Unit × Unit × Int × Int) × (List (Int) × List (Int) × List ((Int × Int)))) ⊕ ((List (Int) × Unit × Unit × Unit) × (List (Int) × List (Int) × List ((Int × Int))))) := fun ((list, (), (), (), t24, t25), (left, names, out)) =>
  (.test (decide (t25 < t24))
  (.test (decide (1 ≤ (List.length (List.set (List.replicate 1 (0 : Int)) 0 t25))))
   (.test (decide ((0 + (List.length names)) ≤ (List.length names)))
    (.test (decide ((2 * (((List.length names) + (List.length (win (List.set (List.replicate 1 (0 : Int)) 0 t25) 0 1))) * 9)) ≤ 140737488355328))
     (.test (decide ((0 = 0) ∧ ((List.length left) = (List.length left))))
      (.test (decide ((0 = 0) ∧ (((List.length names) + (List.length (win (List.set (List.replicate 1 (0 : Int)) 0 t25) 0 1))) = (List.length ((win names 0 (List.length names)) ++ (win (List.set (List.replicate 1 (0 : Int)) 0 t25) 0 1))))))
       (.test (decide ((0 = 0) ∧ ((List.length out) = (List.length out))))
        (.ret (Sum.inl ((list, ((), ((), ((), (t24, (w64 (t25 + 1))))))), (left, (((win names 0 (List.length names)) ++ (win (List.set (List.replicate 1 (0 : Int)) 0 t25) 0 1)), out)))))
        .fail)
       .fail)
      .fail)
     .fail)
    .fail)
   .fail)
  (.test (decide ((0 = 0) ∧ ((List.length left) = (List.length left))))
   (.test (decide ((0 = 0) ∧ ((List.length names) = (List.length names))))
    (.test (decide ((0 = 0) ∧ ((List.length out) = (List.length out))))
     (.ret (Sum.inr ((list, ((), ((), ()))), (left, (names, out)))))
     .fail)
    .fail)
   .fail))
noncomputable def i_triangulation_L5 (v : ((List (Int) × Unit × Unit × Unit × Int × Int) × (List (Int) × List (Int) × List ((Int × Int))))) : Option ((List (Int) × Unit × Unit × Unit) × (List (Int) × List (Int) × List ((Int × Int)))) := loopO (fun v => (i_triangulation_L5_step v).run) v

def i_triangulation_L10_sh : LSh := ⟨(fun ex => match ex with | .norm => [(0, none), (4, none), (5, none), (6, none), (8, none)] | .exit i => if i = 2 then [(0, none), (4, none), (6, none)] else [] | .ret => [(2, none), (3, none)]), [(0, (.one (.sl (.int .i64) false false))), (4, (.one (.rw 0 0))), (5, (.one (.rw 1 0))), (6, (.one (.rw 2 0))), (8, (.one (.si .i64)))], [(.row 0 (.int .i64)), (.row 0 (.int .i64)), (.row 0 (.pair (.int .i64) (.int .i64)))], [⟨.ret, [(2, (.one (.rw 0 0))), (3, (.one .sb))], [(.row 0 (.pair (.int .i64) (.int .i64)))]⟩, ⟨(.exit 2), [(0, (.one (.sl (.int .i64) false false))), (4, (.one (.rw 0 0))), (6, (.one (.rw 1 0)))], [(.row 0 (.int .i64)), (.row 0 (.pair (.int .i64) (.int .i64)))]⟩], [], []⟩
noncomputable def i_triangulation_L10_step : ((List (Int) × Unit × Unit × Unit × Int) × (List (Int) × List (Int) × List ((Int × Int)))) → T (((List (Int) × Unit × Unit × Unit × Int) × (List (Int) × List (Int) × List ((Int × Int)))) ⊕ (((Unit × Bool) × List ((Int × Int))) ⊕ ((List (Int) × Unit × Unit) × (List (Int) × List ((Int × Int)))))) := fun ((list, (), (), (), n), (left, names, out)) =>
  (.test (decide (n > 3))
  (.test (decide ((0 + (List.length left)) ≤ (List.length left)))
   (.sub (slices_Index_int ((win left 0 (List.length left)), (1 : Int))) fun z0 =>
    (.test (decide (z0 < 0))
    (.test true
     (.ret (Sum.inr (Sum.inl (((), false), ([] : List (Int × Int))))))
     .fail)
    (.test (decide (n ≠ 0))
     (.test (decide (n ≠ 0))
      (.test (decide ((0 ≤ (Int.tmod (w64 ((w64 (z0 + n)) - 1)) n)) ∧ ((Int.tmod (w64 ((w64 (z0 + n)) - 1)) n) < ((List.length left) : Int))))
       (.sub (left[(0 + (Int.toNat (Int.tmod (w64 ((w64 (z0 + n)) - 1)) n)))]?) fun z1 =>
        (.test (decide ((0 ≤ (Int.tmod (w64 ((w64 (z0 + n)) - 1)) n)) ∧ ((Int.tmod (w64 ((w64 (z0 + n)) - 1)) n) < ((List.length left) : Int))))
        (.sub (left[(0 + (Int.toNat (Int.tmod (w64 ((w64 (z0 + n)) - 1)) n)))]?) fun z2 =>
         (.test (decide ((0 ≤ (Int.tmod (w64 (z0 + 1)) n)) ∧ ((Int.tmod (w64 (z0 + 1)) n) < ((List.length left) : Int))))
         (.sub ((List.set left (0 + (Int.toNat (Int.tmod (w64 ((w64 (z0 + n)) - 1)) n))) (w64 (z1 - 1)))[(0 + (Int.toNat (Int.tmod (w64 (z0 + 1)) n)))]?) fun z3 =>
          (.test (decide ((0 ≤ (Int.tmod (w64 (z0 + 1)) n)) ∧ ((Int.tmod (w64 (z0 + 1)) n) < ((List.length left) : Int))))
          (.sub ((List.set left (0 + (Int.toNat (Int.tmod (w64 ((w64 (z0 + n)) - 1)) n))) (w64 (z1 - 1)))[(0 + (Int.toNat (Int.tmod (w64 (z0 + 1)) n)))]?) fun z4 =>
           (.test (decide ((0 ≤ (Int.tmod (w64 ((w64 (z0 + n)) - 1)) n)) ∧ ((Int.tmod (w64 ((w64 (z0 + n)) - 1)) n) < ((List.length names) : Int))))
           (.sub (names[(0 + (Int.toNat (Int.tmod (w64 ((w64 (z0 + n)) - 1)) n)))]?) fun z5 =>
            (.test (decide ((0 ≤ (Int.tmod (w64 (z0 + 1)) n)) ∧ ((Int.tmod (w64 (z0 + 1)) n) < ((List.length names) : Int))))
            (.sub (names[(0 + (Int.toNat (Int.tmod (w64 (z0 + 1)) n)))]?) fun z6 =>
             (.test (decide (1 ≤ (List.length (List.set (List.replicate 1 ((0 : Int), (0 : Int))) 0 ((if (z6 < z5) then z6 else z5), (if (z6 > z5) then z6 else z5))))))
             (.test (decide ((0 + (List.length out)) ≤ (List.length out)))
              (.test (decide ((2 * (((List.length out) + (List.length (win (List.set (List.replicate 1 ((0 : Int), (0 : Int))) 0 ((if (z6 < z5) then z6 else z5), (if (z6 > z5) then z6 else z5))) 0 1))) * 17)) ≤ 140737488355328))
               (.test (decide ((0 = 0) ∧ ((List.length left) = (List.length (List.set (List.set left (0 + (Int.toNat (Int.tmod (w64 ((w64 (z0 + n)) - 1)) n))) (w64 (z1 - 1))) (0 + (Int.toNat (Int.tmod (w64 (z0 + 1)) n))) (w64 (z3 - 1)))))))
                (.sub (slices_Delete_int (((), (z0, (w64 (z0 + 1)))), (List.set (List.set left (0 + (Int.toNat (Int.tmod (w64 ((w64 (z0 + n)) - 1)) n))) (w64 (z1 - 1))) (0 + (Int.toNat (Int.tmod (w64 (z0 + 1)) n))) (w64 (z3 - 1))))) fun z7 =>
                 (.test (decide ((0 = 0) ∧ ((List.length names) = (List.length names))))
                 (.sub (slices_Delete_int (((), (z0, (w64 (z0 + 1)))), names)) fun z8 =>
                  (.test (decide ((0 = 0) ∧ ((List.length z7.2) = (List.length z7.2))))
                  (.test (decide ((0 = 0) ∧ ((List.length z8.2) = (List.length z8.2))))
                   (.test (decide ((0 = 0) ∧ (((List.length out) + (List.length (win (List.set (List.replicate 1 ((0 : Int), (0 : Int))) 0 ((if (z6 < z5) then z6 else z5), (if (z6 > z5) then z6 else z5))) 0 1))) = (List.length ((win out 0 (List.length out)) ++ (win (List.set (List.replicate 1 ((0 : Int), (0 : Int))) 0 ((if (z6 < z5) then z6 else z5), (if (z6 > z5) then z6 else z5))) 0 1))))))
                    (.ret (Sum.inl ((list, ((), ((), ((), (w64 (n - 1)))))), (z7.2, (z8.2, ((win out 0 (List.length out)) ++ (win (List.set (List.replicate 1 ((0 : Int), (0 : Int))) 0 ((if (z6 < z5) then z6 else z5), (if (z6 > z5) then z6 else z5))) 0 1)))))))
                    .fail)
                   .fail)
                  .fail))
                 .fail))
                .fail)
               .fail)
              .fail)
             .fail))
            .fail))
           .fail))
          .fail))
         .fail))
        .fail))
       .fail)
      .fail)
     .fail)))
   .fail)
  (.test (decide ((0 = 0) ∧ ((List.length left) = (List.length left))))
   (.test (decide ((0 = 0) ∧ ((List.length out) = (List.length out))))
    (.ret (Sum.inr (Sum.inr ((list, ((), ())), (left, out)))))
    .fail)
   .fail))
noncomputable def i_triangulation_L10 (v : ((List (Int) × Unit × Unit × Unit × Int) × (List (Int) × List (Int) × List ((Int × Int))))) : Option (((Unit × Bool) × List ((Int × Int))) ⊕ ((List (Int) × Unit × Unit) × (List (Int) × List ((Int × Int))))) := loopO (fun v => (i_triangulation_L10_step v).run) v

def i_triangulation_fo : List FO := [⟨[(.one (.rw 0 0)), (.one .sb)], [(.row 0 (.pair (.int .i64) (.int .i64)))]⟩]
noncomputable def i_triangulation_t : List (Int) → T ((Unit × Bool) × List ((Int × Int))) := fun list =>
  (.sub (i_isPolygon ((List.length list) : Int)) fun z0 =>
  (.test (! z0)
  (.test true
   (.ret (((), false), ([] : List (Int × Int))))
   .fail)
  (.sub (slices_Clone_int list) fun z1 =>
   (.test (decide ((0 = 0) ∧ ((List.length z1.2) = (List.length z1.2))))
   (.test (decide ((0 = 0) ∧ (0 = (List.length (List.replicate 0 (0 : Int))))))
    (.test (decide ((0 = 0) ∧ (0 = (List.length (List.replicate 0 ((0 : Int), (0 : Int)))))))
     (.sub (i_triangulation_L5 ((list, ((), ((), ((), (((List.length list) : Int), (0 : Int)))))), (z1.2, ((List.replicate 0 (0 : Int)), (List.replicate 0 ((0 : Int), (0 : Int))))))) fun z2 =>
      (.test (decide ((0 = 0) ∧ ((List.length z2.2.1) = (List.length z2.2.1))))
      (.test (decide ((0 = 0) ∧ ((List.length z2.2.2.1) = (List.length z2.2.2.1))))
       (.test (decide ((0 = 0) ∧ ((List.length z2.2.2.2) = (List.length z2.2.2.2))))
        (.sub (i_triangulation_L10 ((z2.1.1, ((), ((), ((), ((List.length z2.2.1) : Int))))), (z2.2.1, (z2.2.2.1, z2.2.2.2)))) fun z3 =>
         (.test (Sum.isLeft z3)
         (.sub (Sum.getLeft? z3) fun z4 =>
          (.test (decide ((0 = 0) ∧ ((List.length z4.2) = (List.length z4.2))))
          (.ret (((), z4.1.2), z4.2))
          .fail))
         (.sub (Sum.getRight? z3) fun z5 =>
          (.test (decide ((0 = 0) ∧ ((List.length z5.2.2) = (List.length z5.2.2))))
          (.sub (slices_SortFunc_Diagonal__i_compareDiagonals (((), ()), z5.2.2)) fun z6 =>
           (.test (decide ((0 + (List.length z5.2.1)) ≤ (List.length z5.2.1)))
           (.test true
            (.sub (slices_Equal_int ((win z5.2.1 0 (List.length z5.2.1)), (win (List.set (List.set (List.set (List.replicate 3 (0 : Int)) 0 (1 : Int)) 1 (1 : Int)) 2 (1 : Int)) 0 3))) fun z7 =>
             (.test (! z7)
             (.test true
              (.ret (((), false), ([] : List (Int × Int))))
              .fail)
             (.test (decide ((0 + (List.length z5.2.2)) ≤ (List.length z6.2)))
              (.sub (i_IsTriangulation (((List.length z5.1.1) : Int), (win z6.2 0 (List.length z5.2.2)))) fun z8 =>
               (.test (! z8)
               (.test true
                (.ret (((), false), ([] : List (Int × Int))))
                .fail)
               (.test (decide ((0 + (List.length z5.2.2)) ≤ (List.length z6.2)))
                (.sub (i_quiddity (((List.length z5.1.1) : Int), (win z6.2 0 (List.length z5.2.2)))) fun z9 =>
                 (.test (decide ((0 + (List.length z9.2)) ≤ (List.length z9.2)))
                 (.sub (slices_Equal_int ((win z9.2 0 (List.length z9.2)), z5.1.1)) fun z10 =>
                  (.test (! z10)
                  (.test true
                   (.ret (((), false), ([] : List (Int × Int))))
                   .fail)
                  (.test (decide ((0 = 0) ∧ ((List.length z5.2.2) = (List.length z6.2))))
                   (.ret (((), true), z6.2))
                   .fail)))
                 .fail))
                .fail)))
              .fail)))
            .fail)
           .fail))
          .fail))))
        .fail)
       .fail)
      .fail))
     .fail)
    .fail)
   .fail))))
noncomputable def i_triangulation (v : List (Int)) : Option ((Unit × Bool) × List ((Int × Int))) := (i_triangulation_t v).run
noncomputable def i_triangulation_E : TEnv := ((((((((E0.add1 n_i_isPolygon i_isPolygon_sh i_isPolygon_fo i_isPolygon).add1 n_slices_Clone_int slices_Clone_int_sh slices_Clone_int_fo slices_Clone_int).add1 n_slices_Index_int slices_Index_int_sh slices_Index_int_fo slices_Index_int).add1 n_slices_Delete_int slices_Delete_int_sh slices_Delete_int_fo slices_Delete_int).add1 n_slices_SortFunc_Diagonal slices_SortFunc_Diagonal__i_compareDiagonals_sh slices_SortFunc_Diagonal__i_compareDiagonals_fo slices_SortFunc_Diagonal__i_compareDiagonals).add1 n_slices_Equal_int slices_Equal_int_sh slices_Equal_int_fo slices_Equal_int).add1 n_i_IsTriangulation i_IsTriangulation_sh i_IsTriangulation_fo i_IsTriangulation).add1 n_i_quiddity i_quiddity_sh i_quiddity_fo i_quiddity)
theorem i_triangulation_Eok : (i_triangulation_E).OK := ((((((((E0ok.add1 i_isPolygon_ok).add1 slices_Clone_int_ok).add1 slices_Index_int_ok).add1 slices_Delete_int_ok).add1 slices_SortFunc_Diagonal__i_compareDiagonals_ok).add1 slices_Equal_int_ok).add1 i_IsTriangulation_ok).add1 i_quiddity_ok)
noncomputable def i_triangulation_told : Nat → Option SealT := fun id => if id = 5 then some (LSh.told i_triangulation_L5_sh 0 (i_triangulation_L5_step)) else if id = 10 then some (LSh.told i_triangulation_L10_sh 0 (i_triangulation_L10_step)) else none
theorem i_triangulation_L5_ok : ToldOK Try.prog 0 (loopAt (bodyOf fn_i_triangulation) [0]) (LSh.told i_triangulation_L5_sh 0 (i_triangulation_L5_step)) :=
  loop_ok (E := i_triangulation_E) (i_triangulation_Eok) (told := i_triangulation_told) (l := i_triangulation_L5_sh) (step := i_triangulation_L5_step) (loopsOK_of (ls := []) (by kernel_rfl) trivial) (by kernel_rfl) (fun v => by kernel_rfl)
theorem i_triangulation_L10_ok : ToldOK Try.prog 0 (loopAt (bodyOf fn_i_triangulation) [1]) (LSh.told i_triangulation_L10_sh 0 (i_triangulation_L10_step)) :=
  loop_ok (E := i_triangulation_E) (i_triangulation_Eok) (told := i_triangulation_told) (l := i_triangulation_L10_sh) (step := i_triangulation_L10_step) (loopsOK_of (ls := []) (by kernel_rfl) trivial) (by kernel_rfl) (fun v => by kernel_rfl)
theorem i_triangulation_ok : FOK Try.prog n_i_triangulation i_triangulation_sh i_triangulation_fo i_triangulation :=
  fn_ok (E := i_triangulation_E) (i_triangulation_Eok) (told := i_triangulation_told) (fl := []) (c := bodyOf fn_i_triangulation) (s := i_triangulation_sh) (l := i_triangulation_fo) (tree := i_triangulation_t) fnat_i_triangulation (by kernel_rfl) (by kernel_rfl) (by kernel_rfl) (loopsOK_of (ls := [loopAt (bodyOf fn_i_triangulation) [0], loopAt (bodyOf fn_i_triangulation) [1]]) (by kernel_rfl) ⟨.inr ⟨_, by kernel_rfl, i_triangulation_L5_ok⟩, ⟨.inr ⟨_, by kernel_rfl, i_triangulation_L10_ok⟩, trivial⟩⟩) (fun v => by kernel_rfl)

theorem i_triangulation_names (l left : List Int) (out : List Dg) (hl : l.length < 1000000) : i_triangulation_L5 ((l, ((), ((), ((), ((l.length : Int), (0 : Int)))))), (left, ([], out))) = some ((l, ((), ((), ()))), (left, (nameL l.length, out))) := by
  have key : ∀ m k, k + m = l.length → i_triangulation_L5 ((l, ((), ((), ((), ((l.length : Int), (k : Int)))))), (left, (nameL k, out))) = some ((l, ((), ((), ()))), (left, (nameL l.length, out))) := by
    intro m
    induction m with
    | zero =>
      intro k hk
      have : k = l.length := by omega
      subst this
      simp only [i_triangulation_L5]
      exact loopO_done (by simp [i_triangulation_L5_step, T.run])
    | succ m ih =>
      intro k hk
      have ih := ih (k + 1) (by omega)
      simp only [i_triangulation_L5] at ih ⊢
      rw [← ih]
      refine loopO_next ?_
      have c0 : (k : Int) < (l.length : Int) := by omega
      have w1 : w64 ((k : Int) + 1) = ((k + 1 : Nat) : Int) := by rw [w64_id (by omega) (by omega)]; omega
      have hw : win (nameL k) 0 k = nameL k := by have := win_all (nameL k); rwa [nameL_length] at this
      have c1 : 2 * ((k + 1) * 9) ≤ 140737488355328 := by omega
      have hs : nameL k ++ [(k : Int)] = nameL (k + 1) := (nameL_succ k).symm
      simp only [i_triangulation_L5_step, T.run, c0, decide_true, if_true, win_one, nameL_length, hw, w1, List.length_cons, List.length_nil, c1, hs, Nat.zero_add]
      simp [c1]
  simpa [nameL] using key l.length 0 (by omega)
theorem i_triangulation_cut (list left names : List Int) (out : List Dg) (k i : Nat) (hk : k < 100000) (hl : left.length = k + 4) (hn : names.length = k + 4) (ho : out.length < 100000) (he : ear left = some i) :
    (i_triangulation_L10_step ((list, ((), ((), ((), (left.length : Int))))), (left, (names, out)))).run = some (.inl ((list, ((), ((), ((), ((k + 3 : Nat) : Int))))), (cutL left i, (names.eraseIdx i, out ++ [cutD names i])))) := by
  obtain ⟨hi, _⟩ := ear_lt he
  obtain ⟨n1, n2, n3, n4, n5, n6⟩ := nb_facts (by omega : 3 ≤ left.length) hi
  obtain ⟨t1, t2⟩ := nb_tmod (by omega : 3 ≤ left.length) (by omega) hi
  have hidx := slices_Index_int_eq left 1 (by omega)
  have hii : idxI (fun x => (1 : Int) == x) left = (i : Int) := by unfold idxI; unfold ear at he; rw [he]
  have c0 : (left.length : Int) > 3 := by omega
  have c1 : ¬ ((i : Int) < 0) := by omega
  have c2 : (left.length : Int) ≠ 0 := by omega
  have c3 : (0 : Int) ≤ (nbB left.length i : Int) ∧ (nbB left.length i : Int) < (left.length : Int) := by omega
  have c4 : (0 : Int) ≤ (nbC left.length i : Int) ∧ (nbC left.length i : Int) < (left.length : Int) := by omega
  have c5 : (0 : Int) ≤ (nbB left.length i : Int) ∧ (nbB left.length i : Int) < (names.length : Int) := by omega
  have c6 : (0 : Int) ≤ (nbC left.length i : Int) ∧ (nbC left.length i : Int) < (names.length : Int) := by omega
  have g1 := set_getD n1
  have g2 : (left.set (nbB left.length i) (w64 (left.getD (nbB left.length i) 0 - 1)))[nbC left.length i]? = some ((decAt left (nbB left.length i)).getD (nbC left.length i) 0) := set_getD (by simpa using n2)
  have g3 := set_getD (l := names) (p := nbB left.length i) (by omega)
  have g4 := set_getD (l := names) (p := nbC left.length i) (by omega)
  have w1 : w64 ((i : Int) + 1) = ((i + 1 : Nat) : Int) := by rw [w64_id (by omega) (by omega)]; omega
  rw [w1] at t2
  have w2 : w64 ((left.length : Int) - 1) = ((k + 3 : Nat) : Int) := by rw [w64_id (by omega) (by omega)]; omega
  have hD : ∀ a b : Int, ((if b < a then b else a), (if b > a then b else a)) = (min a b, max a b) := by
    intro a b
    rw [Prod.mk.injEq]
    constructor <;> split <;> omega
  have hD' : (min (names.getD (nbB left.length i) 0) (names.getD (nbC left.length i) 0), max (names.getD (nbB left.length i) 0) (names.getD (nbC left.length i) 0)) = cutD names i := by unfold cutD; rw [hl, hn]
  have hd1 : slices_Delete_int (((), ((i : Int), ((i + 1 : Nat) : Int))), decAt (decAt left (nbB left.length i)) (nbC left.length i)) = some ((), cutL left i) := by
    unfold slices_Delete_int
    rw [if_pos ⟨by simp only []; omega, by simp only []; omega, by simp only [decAt_length]; omega, by simp only [decAt_length]; omega⟩]
    simp only [Int.toNat_natCast, take_drop_erase]
    rfl
  have hd2 : slices_Delete_int (((), ((i : Int), ((i + 1 : Nat) : Int))), names) = some ((), names.eraseIdx i) := by
    unfold slices_Delete_int
    rw [if_pos ⟨by simp only []; omega, by simp only []; omega, by simp only []; omega, by simp only []; omega⟩]
    simp only [Int.toNat_natCast, take_drop_erase]
  have c7 : 2 * ((out.length + 1) * 17) ≤ 140737488355328 := by omega
  have l1 : left.length = (decAt (decAt left (nbB left.length i)) (nbC left.length i)).length := by rw [decAt_length, decAt_length]
  have e1 : left.set (nbB left.length i) (w64 (left.getD (nbB left.length i) 0 - 1)) = decAt left (nbB left.length i) := rfl
  have e2 : (decAt left (nbB left.length i)).set (nbC left.length i) (w64 ((decAt left (nbB left.length i)).getD (nbC left.length i) 0 - 1)) = decAt (decAt left (nbB left.length i)) (nbC left.length i) := rfl
  rw [e1] at g2
  simp only [i_triangulation_L10_step, T.run, c0, decide_true, if_true, Nat.zero_add, Nat.le_refl, win_all, hidx, hii, Option.bind_some, c1, decide_false, Bool.false_eq_true, if_false, c2, ne_eq, not_false_eq_true, t1, t2, c3, c4, c5, c6, and_self, Int.toNat_natCast, g1, e1, g2, g3, g4, e2, hD, hD', win_one, w1, w2, hd1, hd2, ← l1]
  simp [c7]
theorem i_triangulation_cuts (list : List Int) : ∀ (k : Nat) (left names : List Int) (out : List Dg), k < 1000 → left.length = k + 3 → names.length = k + 3 → out.length + k < 10000 →
    i_triangulation_L10 ((list, ((), ((), ((), (left.length : Int))))), (left, (names, out))) = some (match triW k left names with
      | none => .inl (((), false), [])
      | some r => .inr ((list, ((), ())), (r.1, out ++ r.2)))
  | 0, left, names, out, hk, hl, hn, ho => by
    simp only [i_triangulation_L10, triW]
    refine loopO_done ?_
    have c0 : ¬ ((left.length : Int) > 3) := by omega
    simp [i_triangulation_L10_step, T.run, c0]
  | k + 1, left, names, out, hk, hl, hn, ho => by
    cases he : ear left with
    | none =>
      have hidx := slices_Index_int_eq left 1 (by omega)
      have hii : idxI (fun x => (1 : Int) == x) left = -1 := by unfold idxI; unfold ear at he; rw [he]
      have c0 : (left.length : Int) > 3 := by omega
      simp only [i_triangulation_L10, triW, he]
      refine loopO_done ?_
      simp only [i_triangulation_L10_step, T.run, c0, decide_true, if_true, Nat.zero_add, Nat.le_refl, win_all, hidx, hii, Option.bind_some]
      simp
    | some i =>
      have st := i_triangulation_cut list left names out k i (by omega) (by omega) (by omega) (by omega) he
      have hlc := cutL_length (ear_lt he).1
      have ih := i_triangulation_cuts list k (cutL left i) (names.eraseIdx i) (out ++ [cutD names i]) (by omega) (by omega) (by rw [List.length_eraseIdx, if_pos (by have := (ear_lt he).1; omega)]; omega) (by simp; omega)
      rw [show (cutL left i).length = k + 3 by omega] at ih
      simp only [i_triangulation_L10, triW, he] at ih ⊢
      rw [loopO_next st, ih]
      cases triW k (cutL left i) (names.eraseIdx i) with
      | none => rfl
      | some r => simp
theorem i_triangulation_eq (l : List Int) (hl : l.length < 4611686018427387904) : i_triangulation l = some (match trOf l with | some ds => (((), true), ds) | none => (((), false), [])) := by
  simp only [i_triangulation, i_triangulation_t, T.run, i_isPolygon, i_isPolygon_t, i_within_eq, Option.bind_some]
  cases hn : inB 3 12 (l.length : Int) with
  | false => simp [trOf, hn]
  | true =>
    have hn' := inB_iff.1 hn
    have hc : slices_Clone_int l = some ((), l) := by
      unfold slices_Clone_int
      rw [if_pos]
      exact ⟨by unfold maxLen; omega, by omega⟩
    have h5 := i_triangulation_names l l [] (by omega)
    have h10 := i_triangulation_cuts l (l.length - 3) l (nameL l.length) [] (by omega) (by omega) (by rw [nameL_length]; omega) (by simp; omega)
    have htri := tri_W (l.length - 3) l (nameL l.length)
    simp only [Bool.not_true, Bool.false_eq_true, if_false, hc, Option.bind_some, List.replicate_zero, List.length_nil, true_and, decide_true, if_true, h5, h10]
    unfold trOf
    rw [hn, htri]
    cases hW : triW (l.length - 3) l (nameL l.length) with
    | none => simp
    | some r =>
      obtain ⟨l3, ds⟩ := r
      obtain ⟨g1, g2⟩ := triW_len _ _ _ _ (by omega) hW
      simp only at g1 g2
      have hs := slices_SortFunc_Diagonal__i_compareDiagonals_eq ds (by omega)
      have hls := sortD_length ds
      have hw3 : win (List.set (List.set (List.set (List.replicate 3 (0 : Int)) 0 (1 : Int)) 1 (1 : Int)) 2 (1 : Int)) 0 3 = [1, 1, 1] := rfl
      have heq := slices_Equal_int_eq l3 [1, 1, 1] (by omega)
      have hws : win (sortD ds) 0 ds.length = sortD ds := by rw [← hls]; exact win_all _
      simp only [if_true, Sum.isLeft, Sum.getRight?, Option.bind_some, Bool.false_eq_true, if_false, List.nil_append, hs, Nat.zero_add, Nat.le_refl, decide_true, win_all, hw3, heq, hls, hws, true_and]
      by_cases h3 : l3 = [1, 1, 1]
      · have hT : tri (l.length - 3) l (nameL l.length) = some ds := by rw [htri, hW]; simp [h3]
        obtain ⟨q1, q2⟩ := tri_good _ _ _ _ (nameL_sorted _) (by omega) (by rw [nameL_length]; omega) hT
        have hti := good_isTri (n := l.length) ⟨by omega, by omega⟩ (fun m hm => nameL_mem hm) q2 (by omega)
        have hit := i_IsTriangulation_eq (l.length : Int) (sortD ds) (by omega)
        rw [hti] at hit
        have hqd := i_quiddity_eq l.length (sortD ds) ⟨by omega, by omega⟩ (by omega) (fun d hd => by
          obtain ⟨a1, a2, a3, _⟩ := q2.1 d ((sortD_perm ds).mem_iff.1 hd)
          have := nameL_mem a1
          have := nameL_mem a2
          omega)
        have hqs : quid l.length (sortD ds) = quid l.length ds := by
          unfold quid
          exact List.map_congr_left fun p _ => by rw [cnt_perm (sortD_perm ds)]
        have hqe := slices_Equal_int_eq (quid l.length ds) l (by simp [quid]; omega)
        simp only [h3, decide_true, Bool.not_true, Bool.false_eq_true, if_false, hit, Option.bind_some, hqd, hqs, win_all, hqe, Nat.le_refl, if_true]
        by_cases hq : quid l.length ds = l <;> simp [hq]
      · simp [h3]


def i_IsQuiddity_sh : FSh := ⟨[(.one (.sl (.int .i64) false false))], []⟩

def i_IsQuiddity_fo : List FO := [⟨[(.one .sb)], []⟩]
noncomputable def i_IsQuiddity_t : List (Int) → T Bool := fun quiddity =>
  (.sub (i_triangulation quiddity) fun z0 =>
  (.ret z0.1.2))
noncomputable def i_IsQuiddity (v : List (Int)) : Option Bool := (i_IsQuiddity_t v).run
noncomputable def i_IsQuiddity_E : TEnv := (E0.add1 n_i_triangulation i_triangulation_sh i_triangulation_fo i_triangulation)
theorem i_IsQuiddity_Eok : (i_IsQuiddity_E).OK := (E0ok.add1 i_triangulation_ok)
noncomputable def i_IsQuiddity_told : Nat → Option SealT := fun id => none
theorem i_IsQuiddity_ok : FOK Try.prog n_i_IsQuiddity i_IsQuiddity_sh i_IsQuiddity_fo i_IsQuiddity :=
  fn_ok (E := i_IsQuiddity_E) (i_IsQuiddity_Eok) (told := i_IsQuiddity_told) (fl := []) (c := bodyOf fn_i_IsQuiddity) (s := i_IsQuiddity_sh) (l := i_IsQuiddity_fo) (tree := i_IsQuiddity_t) fnat_i_IsQuiddity (by kernel_rfl) (by kernel_rfl) (by kernel_rfl) (loopsOK_of (ls := []) (by kernel_rfl) trivial) (fun v => by kernel_rfl)

theorem i_IsQuiddity_eq (l : List Int) (hl : l.length < 4611686018427387904) : i_IsQuiddity l = some (trOf l).isSome := by
  simp only [i_IsQuiddity, i_IsQuiddity_t, T.run, i_triangulation_eq l hl, Option.bind_some]
  cases trOf l <;> rfl


def slices_Insert_int_sh : FSh := ⟨[.one (.rw 0 0), .one (.si .i64), .one (.rw 1 0)], [.row 0 (.int .i64), .row 0 (.int .i64)]⟩
def slices_Insert_int_fo : List FO := [⟨[.one (.rw 0 1)], [.row 1 (.int .i64), .row 0 (.int .i64)]⟩]
def slices_Insert_int (v : (Unit × Int × Unit) × (List Int × List Int)) : Option (Unit × (List Int × List Int)) := match v.2.2 with
  | [x] => if 0 ≤ v.1.2.1 ∧ v.1.2.1 ≤ (v.2.1.length : Int) ∧ v.2.1.length ≤ 1000000000000 then some ((), v.2.1.take v.1.2.1.toNat ++ [x] ++ v.2.1.drop v.1.2.1.toNat, [x]) else none
  | _ => none
def slices_Insert_int_ren : Shelf.Ren := ⟨fun k => if k = 21 then n_slices_Insert_int else if k = 27 then 99 else if k = 28 then 100 else if k = 35 then 118 else 141, fun t => if t = 0 then 0 else if t = 4 then 4 else if t = 22 then 22 else 3, fun x => x⟩
theorem slices_Insert_int_lay : Lays2.n21 Try.prog slices_Insert_int_ren :=
  { mixed := by kernel_rfl, f21 := by kernel_rfl, f27 := by kernel_rfl, f28 := by kernel_rfl, f35 := by kernel_rfl, f39 := by kernel_rfl, t0 := by kernel_rfl, a0 := fun w => by kernel_rfl, z0 := fun w => by kernel_rfl, v0 := fun w => by kernel_rfl, t3 := by kernel_rfl, a3 := fun w => by kernel_rfl, z3 := fun w => by kernel_rfl, v3 := fun w => by kernel_rfl, t4 := by kernel_rfl, a4 := fun w => by kernel_rfl, z4 := fun w => by kernel_rfl, v4 := fun w => by kernel_rfl, t22 := by kernel_rfl, a22 := fun w => by kernel_rfl, z22 := fun w => by kernel_rfl, v22 := fun w => by kernel_rfl, i3 := by kernel_rfl }
theorem slices_Insert_int_ok : FOK Try.prog n_slices_Insert_int slices_Insert_int_sh slices_Insert_int_fo slices_Insert_int :=
  insert_ok ⟨_, fnat_slices_Insert_int, by kernel_rfl, by kernel_rfl⟩ (ρr := slices_Insert_int_ren) rfl slices_Insert_int_lay

def i_GlueEar_sh : FSh := ⟨[(.one (.sl (.int .i64) false false)), (.one (.si .i64))], []⟩

def i_GlueEar_fo : List FO := [⟨[(.one (.rw 0 0)), (.one .sb)], [(.row 0 (.int .i64))]⟩]
noncomputable def i_GlueEar_t : (List (Int) × Int) → T ((Unit × Bool) × List (Int)) := fun (quiddity, at') =>
  (.sub (i_IsQuiddity quiddity) fun z0 =>
  (.test (! z0)
  (.test true
   (.ret (((), false), ([] : List (Int))))
   .fail)
  (.sub (i_within (at', ((1 : Int), ((List.length quiddity) : Int)))) fun z1 =>
   (.test (! z1)
   (.test true
    (.ret (((), false), ([] : List (Int))))
    .fail)
   (.test (((List.length quiddity) : Int) == 12)
    (.test true
     (.ret (((), false), ([] : List (Int))))
     .fail)
    (.sub (slices_Clone_int quiddity) fun z2 =>
     (.test (decide ((0 = 0) ∧ ((List.length z2.2) = (List.length z2.2))))
     (.test (decide ((0 = 0) ∧ (1 = (List.length (List.set (List.replicate 1 (0 : Int)) 0 (1 : Int))))))
      (.sub (slices_Insert_int (((), (at', ())), (z2.2, (List.set (List.replicate 1 (0 : Int)) 0 (1 : Int))))) fun z3 =>
       (.test (decide ((0 ≤ (w64 (at' - 1))) ∧ ((w64 (at' - 1)) < ((List.length z3.2.1) : Int))))
       (.sub (z3.2.1[(0 + (Int.toNat (w64 (at' - 1))))]?) fun z4 =>
        (.test (decide ((0 ≤ (w64 (at' - 1))) ∧ ((w64 (at' - 1)) < ((List.length z3.2.1) : Int))))
        (.sub (z3.2.1[(0 + (Int.toNat (w64 (at' - 1))))]?) fun z5 =>
         (.test (decide ((w64 (((List.length quiddity) : Int) + 1)) ≠ 0))
         (.test (decide ((0 ≤ (Int.tmod (w64 (at' + 1)) (w64 (((List.length quiddity) : Int) + 1)))) ∧ ((Int.tmod (w64 (at' + 1)) (w64 (((List.length quiddity) : Int) + 1))) < ((List.length z3.2.1) : Int))))
          (.sub ((List.set z3.2.1 (0 + (Int.toNat (w64 (at' - 1)))) (w64 (z4 + 1)))[(0 + (Int.toNat (Int.tmod (w64 (at' + 1)) (w64 (((List.length quiddity) : Int) + 1)))))]?) fun z6 =>
           (.test (decide ((0 ≤ (Int.tmod (w64 (at' + 1)) (w64 (((List.length quiddity) : Int) + 1)))) ∧ ((Int.tmod (w64 (at' + 1)) (w64 (((List.length quiddity) : Int) + 1))) < ((List.length z3.2.1) : Int))))
           (.sub ((List.set z3.2.1 (0 + (Int.toNat (w64 (at' - 1)))) (w64 (z4 + 1)))[(0 + (Int.toNat (Int.tmod (w64 (at' + 1)) (w64 (((List.length quiddity) : Int) + 1)))))]?) fun z7 =>
            (.test (decide ((0 = 0) ∧ ((List.length z3.2.1) = (List.length (List.set (List.set z3.2.1 (0 + (Int.toNat (w64 (at' - 1)))) (w64 (z4 + 1))) (0 + (Int.toNat (Int.tmod (w64 (at' + 1)) (w64 (((List.length quiddity) : Int) + 1))))) (w64 (z6 + 1)))))))
            (.ret (((), true), (List.set (List.set z3.2.1 (0 + (Int.toNat (w64 (at' - 1)))) (w64 (z4 + 1))) (0 + (Int.toNat (Int.tmod (w64 (at' + 1)) (w64 (((List.length quiddity) : Int) + 1))))) (w64 (z6 + 1)))))
            .fail))
           .fail))
          .fail)
         .fail))
        .fail))
       .fail))
      .fail)
     .fail)))))))
noncomputable def i_GlueEar (v : (List (Int) × Int)) : Option ((Unit × Bool) × List (Int)) := (i_GlueEar_t v).run
noncomputable def i_GlueEar_E : TEnv := ((((E0.add1 n_i_IsQuiddity i_IsQuiddity_sh i_IsQuiddity_fo i_IsQuiddity).add1 n_i_within i_within_sh i_within_fo i_within).add1 n_slices_Clone_int slices_Clone_int_sh slices_Clone_int_fo slices_Clone_int).add1 n_slices_Insert_int slices_Insert_int_sh slices_Insert_int_fo slices_Insert_int)
theorem i_GlueEar_Eok : (i_GlueEar_E).OK := ((((E0ok.add1 i_IsQuiddity_ok).add1 i_within_ok).add1 slices_Clone_int_ok).add1 slices_Insert_int_ok)
noncomputable def i_GlueEar_told : Nat → Option SealT := fun id => none
theorem i_GlueEar_ok : FOK Try.prog n_i_GlueEar i_GlueEar_sh i_GlueEar_fo i_GlueEar :=
  fn_ok (E := i_GlueEar_E) (i_GlueEar_Eok) (told := i_GlueEar_told) (fl := []) (c := bodyOf fn_i_GlueEar) (s := i_GlueEar_sh) (l := i_GlueEar_fo) (tree := i_GlueEar_t) fnat_i_GlueEar (by kernel_rfl) (by kernel_rfl) (by kernel_rfl) (loopsOK_of (ls := []) (by kernel_rfl) trivial) (fun v => by kernel_rfl)

theorem i_GlueEar_eq (q : List Int) (at' : Nat) (hq : (trOf q).isSome = true) (hl : 3 ≤ q.length) (hl2 : q.length ≤ 11) (hv : ∀ v ∈ q, 1 ≤ v ∧ v ≤ 12) (h1 : 1 ≤ at') (h2 : at' ≤ q.length) :
    i_GlueEar (q, (at' : Int)) = some (((), true), glueL q at') := by
  obtain ⟨f1, f2, f3, f4⟩ := glueL_facts h1 h2 hl hv
  have hb : inB 1 (q.length : Int) (at' : Int) = true := inB_iff.2 (by omega)
  have hc : slices_Clone_int q = some ((), q) := by
    unfold slices_Clone_int
    rw [if_pos]
    exact ⟨by unfold maxLen; omega, by omega⟩
  have h12 : ((q.length : Int) == 12) = false := by simp; omega
  have hins : slices_Insert_int (((), ((at' : Int), ())), (q, [1])) = some ((), (q.take at' ++ 1 :: q.drop at', [1])) := by
    simp only [slices_Insert_int]
    rw [if_pos ⟨by omega, by omega, by omega⟩, Int.toNat_natCast]
    simp
  have hset : List.set (List.replicate 1 (0 : Int)) 0 (1 : Int) = [1] := rfl
  have w1 : w64 ((at' : Int) - 1) = ((at' - 1 : Nat) : Int) := by rw [w64_id (by omega) (by omega)]; omega
  have w2 : w64 ((at' : Int) + 1) = ((at' + 1 : Nat) : Int) := by rw [w64_id (by omega) (by omega)]; omega
  have w3 : w64 ((q.length : Int) + 1) = ((q.length + 1 : Nat) : Int) := by rw [w64_id (by omega) (by omega)]; omega
  have w4 : Int.tmod ((at' + 1 : Nat) : Int) ((q.length + 1 : Nat) : Int) = (((at' + 1) % (q.length + 1) : Nat) : Int) := by
    rw [Int.tmod_eq_emod_of_nonneg (by omega)]; exact (Int.natCast_emod _ _).symm
  generalize hm : q.take at' ++ 1 :: q.drop at' = m at *
  generalize hc2 : (at' + 1) % (q.length + 1) = c at *
  have b1 := f2 (at' - 1) (by omega)
  have b2 := f2 c f3
  have g1 := set_getD (l := m) (p := at' - 1) (by omega)
  have e2 : (m.set (at' - 1) (m.getD (at' - 1) 0 + 1)).getD c 0 = m.getD c 0 := by
    simp only [List.getD_eq_getElem?_getD]
    rw [List.getElem?_set_ne (Ne.symm f4)]
  have g2 := set_getD (l := m.set (at' - 1) (m.getD (at' - 1) 0 + 1)) (p := c) (by simp; omega)
  have w5 : w64 (m.getD (at' - 1) 0 + 1) = m.getD (at' - 1) 0 + 1 := w64_id (by omega) (by omega)
  have w6 : w64 ((m.set (at' - 1) (m.getD (at' - 1) 0 + 1)).getD c 0 + 1) = (m.set (at' - 1) (m.getD (at' - 1) 0 + 1)).getD c 0 + 1 := by rw [e2]; exact w64_id (by omega) (by omega)
  have c1 : (0 : Int) ≤ ((at' - 1 : Nat) : Int) ∧ ((at' - 1 : Nat) : Int) < (m.length : Int) := by omega
  have c2 : (0 : Int) ≤ (c : Int) ∧ (c : Int) < (m.length : Int) := by omega
  have c3 : ((q.length + 1 : Nat) : Int) ≠ 0 := by omega
  have hg : glueL q at' = (m.set (at' - 1) (m.getD (at' - 1) 0 + 1)).set c ((m.set (at' - 1) (m.getD (at' - 1) 0 + 1)).getD c 0 + 1) := by
    unfold glueL
    rw [hm, hc2]
  simp only [i_GlueEar, i_GlueEar_t, T.run, i_IsQuiddity_eq q (by omega), hq, Option.bind_some, Bool.not_true, Bool.false_eq_true, if_false, i_within_eq, hb, h12, hc, hset, hins, w1, w2, w3, w4, c1, c2, c3, ne_eq, not_false_eq_true, decide_true, if_true, and_self, Int.toNat_natCast, Nat.zero_add, g1, w5, g2, w6, List.length_set, List.length_cons, List.length_nil]
  rw [hg]


def i_MakePuzzle_sh : FSh := ⟨[(.one (.si .i64)), (.one (.si .i64)), (.one (.si .i64))], []⟩

def i_MakePuzzle_L5_sh : LSh := ⟨(fun ex => match ex with | .norm => [(0, none), (1, none), (6, none), (9, none), (10, none)] | .exit i => if i = 0 then [(1, none), (6, none), (9, none), (10, none)] else [] | .ret => [(6, none), (7, none)]), [(0, (.one (.si .i64))), (1, (.one (.si .i64))), (6, (.one (.pf 0 0 0))), (9, (.one (.rw 1 0))), (10, (.clo n_i_MakePuzzle_1 [(.one (.pf 2 0 0))]))], [(.rcd 0 [(.nl true true)]), (.row 0 (.int .i64)), (.rcd 0 [(.si .i64)])], [⟨(.exit 0), [(1, (.one (.si .i64))), (6, (.one (.pf 0 0 0))), (9, (.one (.rw 1 0))), (10, (.clo n_i_MakePuzzle_1 [(.one (.pf 2 0 0))]))], [(.rcd 0 [(.nl true true)]), (.row 0 (.int .i64)), (.rcd 0 [(.si .i64)])]⟩], [], []⟩
noncomputable def i_MakePuzzle_L5_step : ((Int × Int × Unit × Unit × Unit) × (Unit × List (Int) × Int)) → T (((Int × Int × Unit × Unit × Unit) × (Unit × List (Int) × Int)) ⊕ ((Int × Unit × Unit × Unit) × (Unit × List (Int) × Int))) := fun ((n, gaps, (), (), ()), ((), list, r2_0)) =>
  (.test (decide (((List.length list) : Int) < n))
  (.sub (i_MakePuzzle_1 ((((List.length list) : Int), ()), r2_0)) fun z0 =>
   (.test (decide ((0 + (List.length list)) ≤ (List.length list)))
   (.sub (i_GlueEar ((win list 0 (List.length list)), (w64 (z0.1 + 1)))) fun z1 =>
    (.test (decide ((0 = 0) ∧ ((List.length z1.2) = (List.length z1.2))))
    (.ret (Sum.inl ((n, (gaps, ((), ((), ())))), ((), (z1.2, z0.2)))))
    .fail))
   .fail))
  (.test (decide ((0 = 0) ∧ ((List.length list) = (List.length list))))
   (.ret (Sum.inr ((gaps, ((), ((), ()))), ((), (list, r2_0)))))
   .fail))
noncomputable def i_MakePuzzle_L5 (v : ((Int × Int × Unit × Unit × Unit) × (Unit × List (Int) × Int))) : Option ((Int × Unit × Unit × Unit) × (Unit × List (Int) × Int)) := loopO (fun v => (i_MakePuzzle_L5_step v).run) v

def i_MakePuzzle_L11_sh : LSh := ⟨(fun ex => match ex with | .norm => [(6, none), (9, none), (10, none), (11, none), (46, none), (47, none), (50, none), (51, none), (52, none)] | .exit i => if i = 4 then [(6, none), (9, none), (10, none), (11, none), (46, none), (47, none)] else if i = 3 then [(6, none), (9, none), (10, none), (46, none), (47, none)] else if i = 2 then [(6, none), (9, none)] else [] | .ret => [(6, none), (7, none)]), [(6, (.one (.pf 0 0 0))), (9, (.one (.rw 1 0))), (10, (.clo n_i_MakePuzzle_1 [(.one (.pf 2 0 0))])), (11, (.one (.rw 3 0))), (46, (.one (.si .i64))), (47, (.one (.si .i64))), (50, (.one (.rw 1 0))), (51, (.one (.si .i64))), (52, (.one (.si .i64)))], [(.rcd 0 [(.nl true true)]), (.row 0 (.int .i64)), (.rcd 0 [(.si .i64)]), (.row 0 (.int .i64))], [⟨(.exit 4), [(6, (.one (.pf 0 0 0))), (9, (.one (.rw 1 0))), (10, (.clo n_i_MakePuzzle_1 [(.one (.pf 2 0 0))])), (11, (.one (.rw 3 0))), (46, (.one (.si .i64))), (47, (.one (.si .i64)))], [(.rcd 0 [(.nl true true)]), (.row 0 (.int .i64)), (.rcd 0 [(.si .i64)]), (.row 0 (.int .i64))]⟩], [], []⟩
noncomputable def i_MakePuzzle_L11_step : ((Unit × Unit × Unit × Unit × Int × Int × Unit × Int × Int) × (Unit × List (Int) × Int × List (Int))) → T (((Unit × Unit × Unit × Unit × Int × Int × Unit × Int × Int) × (Unit × List (Int) × Int × List (Int))) ⊕ ((Unit × Unit × Unit × Unit × Int × Int) × (Unit × List (Int) × Int × List (Int)))) := fun (((), (), (), (), t46, t47, (), t51, t52), ((), list, r2_0, places)) =>
  (.test (decide (t52 < t51))
  (.test (decide ((0 ≤ t52) ∧ (t52 < ((List.length list) : Int))))
   (.sub (list[(0 + (Int.toNat t52))]?) fun z0 =>
    (.test (decide (z0 > 0))
    (.test (decide (1 ≤ (List.length (List.set (List.replicate 1 (0 : Int)) 0 t52))))
     (.test (decide ((0 + (List.length places)) ≤ (List.length places)))
      (.test (decide ((2 * (((List.length places) + (List.length (win (List.set (List.replicate 1 (0 : Int)) 0 t52) 0 1))) * 9)) ≤ 140737488355328))
       (.test (decide ((0 = 0) ∧ ((List.length list) = (List.length list))))
        (.test (decide ((0 = 0) ∧ (((List.length places) + (List.length (win (List.set (List.replicate 1 (0 : Int)) 0 t52) 0 1))) = (List.length ((win places 0 (List.length places)) ++ (win (List.set (List.replicate 1 (0 : Int)) 0 t52) 0 1))))))
         (.test (decide ((0 = 0) ∧ ((List.length list) = (List.length list))))
          (.ret (Sum.inl (((), ((), ((), ((), (t46, (t47, ((), (t51, (w64 (t52 + 1)))))))))), ((), (list, (r2_0, ((win places 0 (List.length places)) ++ (win (List.set (List.replicate 1 (0 : Int)) 0 t52) 0 1))))))))
          .fail)
         .fail)
        .fail)
       .fail)
      .fail)
     .fail)
    (.test (decide ((0 = 0) ∧ ((List.length list) = (List.length list))))
     (.test (decide ((0 = 0) ∧ ((List.length places) = (List.length places))))
      (.test (decide ((0 = 0) ∧ ((List.length list) = (List.length list))))
       (.ret (Sum.inl (((), ((), ((), ((), (t46, (t47, ((), (t51, (w64 (t52 + 1)))))))))), ((), (list, (r2_0, places))))))
       .fail)
      .fail)
     .fail)))
   .fail)
  (.test (decide ((0 = 0) ∧ ((List.length list) = (List.length list))))
   (.test (decide ((0 = 0) ∧ ((List.length places) = (List.length places))))
    (.ret (Sum.inr (((), ((), ((), ((), (t46, t47))))), ((), (list, (r2_0, places))))))
    .fail)
   .fail))
noncomputable def i_MakePuzzle_L11 (v : ((Unit × Unit × Unit × Unit × Int × Int × Unit × Int × Int) × (Unit × List (Int) × Int × List (Int)))) : Option ((Unit × Unit × Unit × Unit × Int × Int) × (Unit × List (Int) × Int × List (Int))) := loopO (fun v => (i_MakePuzzle_L11_step v).run) v

def i_MakePuzzle_L8_sh : LSh := ⟨(fun ex => match ex with | .norm => [(6, none), (9, none), (10, none), (46, none), (47, none)] | .exit i => if i = 2 then [(6, none), (9, none)] else [] | .ret => [(6, none), (7, none)]), [(6, (.one (.pf 0 0 0))), (9, (.one (.rw 1 0))), (10, (.clo n_i_MakePuzzle_1 [(.one (.pf 2 0 0))])), (46, (.one (.si .i64))), (47, (.one (.si .i64)))], [(.rcd 0 [(.nl true true)]), (.row 0 (.int .i64)), (.rcd 0 [(.si .i64)])], [⟨(.exit 2), [(6, (.one (.pf 0 0 0))), (9, (.one (.rw 1 0)))], [(.rcd 0 [(.nl true true)]), (.row 0 (.int .i64))]⟩], [], []⟩
noncomputable def i_MakePuzzle_L8_step : ((Unit × Unit × Unit × Int × Int) × (Unit × List (Int) × Int)) → T (((Unit × Unit × Unit × Int × Int) × (Unit × List (Int) × Int)) ⊕ ((Unit × Unit) × (Unit × List (Int)))) := fun (((), (), (), t46, t47), ((), list, r2_0)) =>
  (.test (decide (t47 < t46))
  (.test (decide ((0 = 0) ∧ ((List.length list) = (List.length list))))
   (.test (decide ((0 = 0) ∧ (0 = (List.length (List.replicate 0 (0 : Int))))))
    (.test (decide ((0 = 0) ∧ ((List.length list) = (List.length list))))
     (.sub (i_MakePuzzle_L11 (((), ((), ((), ((), (t46, (t47, ((), (((List.length list) : Int), (0 : Int))))))))), ((), (list, (r2_0, (List.replicate 0 (0 : Int))))))) fun z0 =>
      (.sub (i_MakePuzzle_1 ((((List.length z0.2.2.2.2) : Int), ()), z0.2.2.2.1)) fun z1 =>
      (.test (decide ((0 ≤ z1.1) ∧ (z1.1 < ((List.length z0.2.2.2.2) : Int))))
      (.sub (z0.2.2.2.2[(0 + (Int.toNat z1.1))]?) fun z2 =>
       (.test (decide ((0 ≤ z2) ∧ (z2 < ((List.length z0.2.2.1) : Int))))
       (.sub (z0.2.2.1[(0 + (Int.toNat z2))]?) fun z3 =>
        (.test (decide ((0 = 0) ∧ ((List.length z0.2.2.1) = (List.length (List.set z0.2.2.1 (0 + (Int.toNat z2)) (0 : Int))))))
        (.ret (Sum.inl (((), ((), ((), (z0.1.2.2.2.2.1, (w64 (z0.1.2.2.2.2.2 + 1)))))), ((), ((List.set z0.2.2.1 (0 + (Int.toNat z2)) (0 : Int)), z1.2)))))
        .fail))
       .fail))
      .fail)))
     .fail)
    .fail)
   .fail)
  (.test (decide ((0 = 0) ∧ ((List.length list) = (List.length list))))
   (.ret (Sum.inr (((), ()), ((), list))))
   .fail))
noncomputable def i_MakePuzzle_L8 (v : ((Unit × Unit × Unit × Int × Int) × (Unit × List (Int) × Int))) : Option ((Unit × Unit) × (Unit × List (Int))) := loopO (fun v => (i_MakePuzzle_L8_step v).run) v

def i_MakePuzzle_w_fo : List FO := [⟨[(.ag [(.nl true true)]), (.one .sb)], []⟩, ⟨[(.ag [(.rw 0 0)]), (.one .sb)], [(.row 0 (.int .i64))]⟩]
noncomputable def i_MakePuzzle_t : (Int × Int × Int) → T ((Unit × Bool) ⊕ ((Unit × Bool) × List (Int))) := fun (n, gaps, seed) =>
  (.sub (i_within (n, ((3 : Int), (9 : Int)))) fun z0 =>
  (.test (! z0)
  (.ret (Sum.inl ((), false)))
  (.sub (i_within (gaps, ((0 : Int), n))) fun z1 =>
   (.test (! z1)
   (.ret (Sum.inl ((), false)))
   (.sub (i_within (seed, ((0 : Int), (9999 : Int)))) fun z2 =>
    (.test (! z2)
    (.ret (Sum.inl ((), false)))
    (.test (decide ((0 = 0) ∧ (3 = (List.length (List.set (List.set (List.set (List.replicate 3 (0 : Int)) 0 (1 : Int)) 1 (1 : Int)) 2 (1 : Int))))))
     (.sub (i_MakePuzzle_L5 ((n, (gaps, ((), ((), ())))), ((), ((List.set (List.set (List.set (List.replicate 3 (0 : Int)) 0 (1 : Int)) 1 (1 : Int)) 2 (1 : Int)), seed)))) fun z3 =>
      (.test (decide ((0 = 0) ∧ ((List.length z3.2.2.1) = (List.length z3.2.2.1))))
      (.sub (i_MakePuzzle_L8 (((), ((), ((), (z3.1.1, (0 : Int))))), ((), (z3.2.2.1, z3.2.2.2)))) fun z4 =>
       (.test (decide ((0 = 0) ∧ ((List.length z4.2.2) = (List.length z4.2.2))))
       (.ret (Sum.inr (((), true), z4.2.2)))
       .fail))
      .fail))
     .fail)))))))
noncomputable def i_MakePuzzle_w (v : (Int × Int × Int)) : Option ((Unit × Bool) ⊕ ((Unit × Bool) × List (Int))) := (i_MakePuzzle_t v).run
noncomputable def i_MakePuzzle_E : TEnv := (((E0.add1 n_i_within i_within_sh i_within_fo i_within).add1 n_i_MakePuzzle_1 i_MakePuzzle_1_sh i_MakePuzzle_1_fo i_MakePuzzle_1).add1 n_i_GlueEar i_GlueEar_sh i_GlueEar_fo i_GlueEar)
theorem i_MakePuzzle_Eok : (i_MakePuzzle_E).OK := (((E0ok.add1 i_within_ok).add1 i_MakePuzzle_1_ok).add1 i_GlueEar_ok)
noncomputable def i_MakePuzzle_told : Nat → Option SealT := fun id => if id = 5 then some (LSh.told i_MakePuzzle_L5_sh 0 (i_MakePuzzle_L5_step)) else if id = 11 then some (LSh.told i_MakePuzzle_L11_sh 0 (i_MakePuzzle_L11_step)) else if id = 8 then some (LSh.told i_MakePuzzle_L8_sh 0 (i_MakePuzzle_L8_step)) else none
theorem i_MakePuzzle_L5_ok : ToldOK Try.prog 0 (loopAt (bodyOf fn_i_MakePuzzle) [0]) (LSh.told i_MakePuzzle_L5_sh 0 (i_MakePuzzle_L5_step)) :=
  loop_ok (E := i_MakePuzzle_E) (i_MakePuzzle_Eok) (told := i_MakePuzzle_told) (l := i_MakePuzzle_L5_sh) (step := i_MakePuzzle_L5_step) (loopsOK_of (ls := []) (by kernel_rfl) trivial) (by kernel_rfl) (fun v => by kernel_rfl)
theorem i_MakePuzzle_L11_ok : ToldOK Try.prog 0 (loopAt (bodyOf fn_i_MakePuzzle) [1, 0]) (LSh.told i_MakePuzzle_L11_sh 0 (i_MakePuzzle_L11_step)) :=
  loop_ok (E := i_MakePuzzle_E) (i_MakePuzzle_Eok) (told := i_MakePuzzle_told) (l := i_MakePuzzle_L11_sh) (step := i_MakePuzzle_L11_step) (loopsOK_of (ls := []) (by kernel_rfl) trivial) (by kernel_rfl) (fun v => by kernel_rfl)
theorem i_MakePuzzle_L8_ok : ToldOK Try.prog 0 (loopAt (bodyOf fn_i_MakePuzzle) [1]) (LSh.told i_MakePuzzle_L8_sh 0 (i_MakePuzzle_L8_step)) :=
  loop_ok (E := i_MakePuzzle_E) (i_MakePuzzle_Eok) (told := i_MakePuzzle_told) (l := i_MakePuzzle_L8_sh) (step := i_MakePuzzle_L8_step) (loopsOK_of (ls := [loopAt (bodyOf fn_i_MakePuzzle) [1, 0]]) (by kernel_rfl) ⟨.inr ⟨_, by kernel_rfl, i_MakePuzzle_L11_ok⟩, trivial⟩) (by kernel_rfl) (fun v => by kernel_rfl)
theorem i_MakePuzzle_w_ok : FOK Try.prog n_i_MakePuzzle i_MakePuzzle_sh i_MakePuzzle_w_fo i_MakePuzzle_w :=
  fn_ok (E := i_MakePuzzle_E) (i_MakePuzzle_Eok) (told := i_MakePuzzle_told) (fl := []) (c := bodyOf fn_i_MakePuzzle) (s := i_MakePuzzle_sh) (l := i_MakePuzzle_w_fo) (tree := i_MakePuzzle_t) fnat_i_MakePuzzle (by kernel_rfl) (by kernel_rfl) (by kernel_rfl) (loopsOK_of (ls := [loopAt (bodyOf fn_i_MakePuzzle) [0], loopAt (bodyOf fn_i_MakePuzzle) [1]]) (by kernel_rfl) ⟨.inr ⟨_, by kernel_rfl, i_MakePuzzle_L5_ok⟩, ⟨.inr ⟨_, by kernel_rfl, i_MakePuzzle_L8_ok⟩, trivial⟩⟩) (fun v => by kernel_rfl)
def i_MakePuzzle_fo : List FO := [⟨[(.ag [(.rw 0 0)]), (.one .sb)], [(.row 0 (.int .i64))]⟩]
def i_MakePuzzle_m : ((Unit × Bool) ⊕ ((Unit × Bool) × List (Int))) → ((Unit × Bool) × List (Int)) := fun o => match o with | (.inl a) => (a, []) | (.inr x) => x
noncomputable def i_MakePuzzle (v : (Int × Int × Int)) : Option ((Unit × Bool) × List (Int)) := (i_MakePuzzle_w v).map i_MakePuzzle_m
theorem i_MakePuzzle_ok : FOK Try.prog n_i_MakePuzzle i_MakePuzzle_sh i_MakePuzzle_fo i_MakePuzzle :=
  FOK.own (l' := i_MakePuzzle_fo) i_MakePuzzle_w_ok i_MakePuzzle_m [(.int .i64)] (by decide) (fun o => match o with | (.inl a) => .inr (by kernel_rfl) | (.inr x) => .inl (by kernel_rfl))

theorem i_MakePuzzle_glue (n gaps : Int) : ∀ (m k : Nat) (q : List Int) (z : Int), q ∈ glued k → k + m ≤ 6 → (k + 3 + m : Nat) = n → 0 ≤ z → z < 10007 →
    i_MakePuzzle_L5 ((n, (gaps, ((), ((), ())))), ((), (q, z))) = some ((gaps, ((), ((), ()))), ((), mkN m q z))
  | 0, k, q, z, hq, hk, hn, h1, h2 => by
    obtain ⟨_, g1, _⟩ := glued_ok k q hq
    simp only [i_MakePuzzle_L5, mkN]
    refine loopO_done ?_
    have : ¬ ((q.length : Int) < n) := by omega
    simp [i_MakePuzzle_L5_step, T.run, this]
  | m + 1, k, q, z, hq, hk, hn, h1, h2 => by
    obtain ⟨g0, g1, g2⟩ := glued_ok k q hq
    have hr := rI_B z
    have hj : (rI z % (q.length : Int)).toNat < k + 3 := by have := Int.emod_lt_of_pos (rI z) (show (0 : Int) < (q.length : Int) by omega); omega
    have hnn : 0 ≤ rI z % (q.length : Int) := Int.emod_nonneg _ (by omega)
    have st : (i_MakePuzzle_L5_step ((n, (gaps, ((), ((), ())))), ((), (q, z)))).run = some (.inl ((n, (gaps, ((), ((), ())))), ((), (glueL q ((rI z % (q.length : Int)).toNat + 1), rI z)))) := by
      have c0 : (q.length : Int) < n := by omega
      have w1 : w64 (rI z % (q.length : Int) + 1) = (((rI z % (q.length : Int)).toNat + 1 : Nat) : Int) := by rw [w64_id (by omega) (by omega)]; omega
      have hg := i_GlueEar_eq q ((rI z % (q.length : Int)).toNat + 1) g0 (by omega) (by omega) g2 (by omega) (by omega)
      simp only [i_MakePuzzle_L5_step, T.run, c0, decide_true, if_true, i_MakePuzzle_1_eq _ z (show (0 : Int) < (q.length : Int) by omega) h1 h2, Option.bind_some, Nat.zero_add, Nat.le_refl, win_all, w1, hg, and_self]
    by_cases h5 : k < 5
    · have ih := i_MakePuzzle_glue n gaps m (k + 1) _ (rI z) (glued_go k h5 q hq _ hj) (by omega) (by omega) hr.1 hr.2
      simp only [i_MakePuzzle_L5, mkN] at ih ⊢
      rw [loopO_next st, ih]
    · have hm0 : m = 0 := by omega
      subst hm0
      simp only [i_MakePuzzle_L5, mkN]
      rw [loopO_next st]
      refine loopO_done ?_
      have hlen : (glueL q ((rI z % (q.length : Int)).toNat + 1)).length = q.length + 1 := by
        have f1 := (glueL_facts (q := q) (at' := (rI z % (q.length : Int)).toNat + 1) (by omega) (by omega) (by omega) g2).1
        unfold glueL; simp only [List.length_set, f1]
      have : ¬ (((q.length + 1 : Nat) : Int) < n) := by omega
      simp only [i_MakePuzzle_L5_step, T.run, hlen, this, decide_false]
      simp
theorem i_MakePuzzle_places (q : List Int) (z a b : Int) (hl : q.length < 1000) : i_MakePuzzle_L11 (((), ((), ((), ((), (a, (b, ((), ((q.length : Int), (0 : Int))))))))), ((), (q, (z, [])))) = some (((), ((), ((), ((), (a, b))))), ((), (q, (z, pl q)))) := by
  have h := loop_fold (step := fun v => (i_MakePuzzle_L11_step v).run) (xs := List.range q.length) (fun k (s : List Int) => s.length ≤ k) (fun k s => (((), ((), ((), ((), (a, (b, ((), ((q.length : Int), (k : Int))))))))), ((), (q, (z, s))))) (plG q) (fun s => (((), ((), ((), ((), (a, b))))), ((), (q, (z, s)))))
    (fun k s x hP hx => by
      obtain ⟨hk, e⟩ := List.getElem?_eq_some_iff.1 hx
      simp only [List.getElem_range] at e
      subst e
      rw [List.length_range] at hk
      have g0 := set_getD hk
      have c0 : (k : Int) < (q.length : Int) := by omega
      have c1 : (0 : Int) ≤ (k : Int) ∧ (k : Int) < (q.length : Int) := by omega
      have c2 : 2 * ((s.length + 1) * 9) ≤ 140737488355328 := by omega
      have w1 : w64 ((k : Int) + 1) = ((k + 1 : Nat) : Int) := by rw [w64_id (by omega) (by omega)]; omega
      by_cases hz : q.getD k 0 > 0
      · have e : plG q s k = s ++ [(k : Int)] := by unfold plG; rw [if_pos hz]
        refine ⟨?_, by rw [e]; simp; omega⟩
        rw [e]
        simp only [i_MakePuzzle_L11_step, T.run, c0, c1, decide_true, if_true, and_self, Int.toNat_natCast, Nat.zero_add, g0, Option.bind_some, hz, win_one, win_all, w1, List.length_cons, List.length_nil, c2, List.length_set, List.length_replicate, Nat.le_refl, List.length_append]
      · have e : plG q s k = s := by unfold plG; rw [if_neg hz]
        refine ⟨?_, by rw [e]; omega⟩
        rw [e]
        simp only [i_MakePuzzle_L11_step, T.run, c0, c1, decide_true, if_true, and_self, Int.toNat_natCast, Nat.zero_add, g0, Option.bind_some, hz, decide_false, Bool.false_eq_true, if_false, w1])
    (fun s hs => by simp [i_MakePuzzle_L11_step, T.run])
    [] (by simp)
  simp only [Int.natCast_zero] at h
  simp only [i_MakePuzzle_L11]
  exact h.1
theorem i_MakePuzzle_gaps (g : Nat) : ∀ (m : Nat) (q : List Int) (z : Int), q.length < 1000 → m ≤ g → g < 1000 → m ≤ (pl q).length → 0 ≤ z → z < 10007 →
    i_MakePuzzle_L8 (((), ((), ((), ((g : Int), ((g - m : Nat) : Int))))), ((), (q, z))) = some (((), ()), ((), gapN m q z))
  | 0, q, z, hl, hm, hg, hp, h1, h2 => by
    simp only [i_MakePuzzle_L8, gapN]
    refine loopO_done ?_
    simp [i_MakePuzzle_L8_step, T.run]
  | m + 1, q, z, hl, hm, hg, hp, h1, h2 => by
    have hr := rI_B z
    obtain ⟨p1, p2, p3, p4⟩ := pl_pick (q := q) (z := z) (by omega)
    obtain ⟨b1, b2, b3⟩ := pl_mem p4
    have hs := pl_set p4
    have ih := i_MakePuzzle_gaps g m (q.set ((pl q).getD (rI z % ((pl q).length : Int)).toNat 0).toNat 0) (rI z) (by simpa using hl) (by omega) hg (by omega) hr.1 hr.2
    simp only [i_MakePuzzle_L8, gapN] at ih ⊢
    rw [← ih]
    refine loopO_next ?_
    have c0 : ((g - (m + 1) : Nat) : Int) < (g : Int) := by omega
    have w1 : w64 (((g - (m + 1) : Nat) : Int) + 1) = ((g - m : Nat) : Int) := by rw [w64_id (by omega) (by omega)]; omega
    have c1 : 0 ≤ rI z % ((pl q).length : Int) ∧ rI z % ((pl q).length : Int) < ((pl q).length : Int) := ⟨p1, p2⟩
    have g3 := set_getD (l := q) (p := ((pl q).getD (rI z % ((pl q).length : Int)).toNat 0).toNat) (by omega)
    have c2 : 0 ≤ (pl q).getD (rI z % ((pl q).length : Int)).toNat 0 ∧ (pl q).getD (rI z % ((pl q).length : Int)).toNat 0 < (q.length : Int) := ⟨b1, b2⟩
    simp only [i_MakePuzzle_L8_step, T.run, c0, decide_true, if_true, true_and, List.replicate_zero, List.length_nil, i_MakePuzzle_places q z _ _ hl, Option.bind_some, i_MakePuzzle_1_eq _ z (show (0 : Int) < ((pl q).length : Int) by omega) h1 h2, c1, and_self, Nat.zero_add, p3, c2, g3, List.length_set, w1]
theorem i_MakePuzzle_eq (n g s : Int) : i_MakePuzzle (n, (g, s)) = some (((), (mkPz n g s).1), (mkPz n g s).2) := by
  simp only [i_MakePuzzle, i_MakePuzzle_w, i_MakePuzzle_t, T.run, i_within_eq, Option.bind_some, mkPz]
  cases hn : inB 3 9 n with
  | false => simp [i_MakePuzzle_m]
  | true =>
    cases hg : inB 0 n g with
    | false => simp [i_MakePuzzle_m]
    | true =>
      cases hs : inB 0 9999 s with
      | false => simp [i_MakePuzzle_m]
      | true =>
        obtain ⟨m, m1, m2, m3, s1, s2, hq⟩ := mk_start n hn s hs
        have hset : List.set (List.set (List.set (List.replicate 3 (0 : Int)) 0 (1 : Int)) 1 (1 : Int)) 2 (1 : Int) = [1, 1, 1] := rfl
        have h5 := i_MakePuzzle_glue n g m 0 [1, 1, 1] s hq (by omega) m3 s1 s2
        obtain ⟨⟨f1, f2⟩, f3, f4⟩ := mkN_facts m 0 [1, 1, 1] s hq (by omega) s1 s2
        rw [inB_iff] at hg hn
        have h8 := i_MakePuzzle_gaps g.toNat g.toNat (mkN m [1, 1, 1] s).1 (mkN m [1, 1, 1] s).2 (by omega) (Nat.le_refl _) (by omega) (by rw [pl_full f2, f1]; omega) f3 f4
        rw [Nat.sub_self, show ((g.toNat : Nat) : Int) = g by omega] at h8
        simp only [Bool.not_true, Bool.false_eq_true, if_false, hset, h5, Option.bind_some, Int.natCast_zero] at h8 ⊢
        simp [h8, m1, i_MakePuzzle_m]


def l_eqIntS_sh : FSh := ⟨[(.one (.sl (.int .i64) false false)), (.one (.sl (.int .i64) false false))], []⟩

def l_eqIntS_L4_sh : LSh := ⟨(fun ex => match ex with | .norm => [(0, none), (1, none), (5, none)] | .exit i => if i = 0 then [] else [] | .ret => [(4, none)]), [(0, (.one (.sl (.int .i64) false false))), (1, (.one (.sl (.int .i64) false false))), (5, (.one (.si .i64)))], [], [⟨.ret, [(4, (.one .sb))], []⟩, ⟨(.exit 0), [], []⟩], [], []⟩
noncomputable def l_eqIntS_L4_step : (List (Int) × List (Int) × Int) → T ((List (Int) × List (Int) × Int) ⊕ (Bool ⊕ Unit)) := fun (a, b, i) =>
  (.test (decide (i < ((List.length a) : Int)))
  (.test (decide ((0 ≤ i) ∧ (i < ((List.length a) : Int))))
   (.sub (a[(Int.toNat i)]?) fun z0 =>
    (.test (decide ((0 ≤ i) ∧ (i < ((List.length b) : Int))))
    (.sub (b[(Int.toNat i)]?) fun z1 =>
     (.test (z0 != z1)
     (.ret (Sum.inr (Sum.inl false)))
     (.ret (Sum.inl (a, (b, (w64 (i + 1))))))))
    .fail))
   .fail)
  (.ret (Sum.inr (Sum.inr ()))))
noncomputable def l_eqIntS_L4 (v : (List (Int) × List (Int) × Int)) : Option (Bool ⊕ Unit) := loopO (fun v => (l_eqIntS_L4_step v).run) v

def l_eqIntS_fo : List FO := [⟨[(.one .sb)], []⟩]
noncomputable def l_eqIntS_t : (List (Int) × List (Int)) → T Bool := fun (a, b) =>
  (.test (((List.length a) : Int) != ((List.length b) : Int))
  (.ret false)
  (.sub (l_eqIntS_L4 (a, (b, (0 : Int)))) fun z0 =>
   (.test (Sum.isLeft z0)
   (.sub (Sum.getLeft? z0) fun z1 =>
    (.ret z1))
   (.sub (Sum.getRight? z0) fun z2 =>
    (.ret true)))))
noncomputable def l_eqIntS (v : (List (Int) × List (Int))) : Option Bool := (l_eqIntS_t v).run
noncomputable def l_eqIntS_E : TEnv := E0
theorem l_eqIntS_Eok : (l_eqIntS_E).OK := E0ok
noncomputable def l_eqIntS_told : Nat → Option SealT := fun id => if id = 4 then some (LSh.told l_eqIntS_L4_sh 0 (l_eqIntS_L4_step)) else none
theorem l_eqIntS_L4_ok : ToldOK Try.prog 0 (loopAt (bodyOf fn_l_eqIntS) [0]) (LSh.told l_eqIntS_L4_sh 0 (l_eqIntS_L4_step)) :=
  loop_ok (E := l_eqIntS_E) (l_eqIntS_Eok) (told := l_eqIntS_told) (l := l_eqIntS_L4_sh) (step := l_eqIntS_L4_step) (loopsOK_of (ls := []) (by kernel_rfl) trivial) (by kernel_rfl) (fun v => by kernel_rfl)
theorem l_eqIntS_ok : FOK Try.prog n_l_eqIntS l_eqIntS_sh l_eqIntS_fo l_eqIntS :=
  fn_ok (E := l_eqIntS_E) (l_eqIntS_Eok) (told := l_eqIntS_told) (fl := []) (c := bodyOf fn_l_eqIntS) (s := l_eqIntS_sh) (l := l_eqIntS_fo) (tree := l_eqIntS_t) fnat_l_eqIntS (by kernel_rfl) (by kernel_rfl) (by kernel_rfl) (loopsOK_of (ls := [loopAt (bodyOf fn_l_eqIntS) [0]]) (by kernel_rfl) ⟨.inr ⟨_, by kernel_rfl, l_eqIntS_L4_ok⟩, trivial⟩) (fun v => by kernel_rfl)

theorem l_eqIntS_eq (a b : List Int) (hl : a.length < 4611686018427387904) : l_eqIntS (a, b) = some (decide (a = b)) := by
  by_cases hab : a.length = b.length
  · have h := loop_any (step := fun v => (l_eqIntS_L4_step v).run) (xs := a.zip b) (fun p => p.1 != p.2) (fun k => (a, b, (k : Int))) (.inl false) (.inr ())
      (fun k x hx => by
        have hk := getElem?_lt hx
        rw [List.length_zip, hab, Nat.min_self] at hk
        rw [List.getElem?_zip_eq_some] at hx
        simp only [l_eqIntS_L4_step, T.run, Option.bind_some, Int.toNat_natCast, hx.1, hx.2]
        rw [w64_id (by omega) (by omega)]
        have hka : k < a.length := by omega
        cases x.1 != x.2 <;> simp [hk, hka])
      (by simp [l_eqIntS_L4_step, T.run, hab])
    simp only [l_eqIntS, l_eqIntS_t, T.run, l_eqIntS_L4]
    simp only [Int.natCast_zero] at h
    rw [h, hab]
    have e : (a.zip b).any (fun p => p.1 != p.2) = !decide (a = b) := zip_any_ne a b hab
    rw [e]
    cases decide (a = b) <;> simp
  · simp only [l_eqIntS, l_eqIntS_t, T.run]
    have : a ≠ b := fun e => hab (by rw [e])
    simp [this]
    omega


def l_eqPuzzle_sh : FSh := ⟨[(.ag [(.sl (.int .i64) false false)]), (.ag [(.sl (.int .i64) false false)])], []⟩

def l_eqPuzzle_fo : List FO := [⟨[(.one .sb)], []⟩]
noncomputable def l_eqPuzzle_t : (List (Int) × List (Int)) → T Bool := fun (a_0, b_0) =>
  (.sub (l_eqIntS (a_0, b_0)) fun z0 =>
  (.test (! z0)
  (.ret false)
  (.ret true)))
noncomputable def l_eqPuzzle (v : (List (Int) × List (Int))) : Option Bool := (l_eqPuzzle_t v).run
noncomputable def l_eqPuzzle_E : TEnv := (E0.add1 n_l_eqIntS l_eqIntS_sh l_eqIntS_fo l_eqIntS)
theorem l_eqPuzzle_Eok : (l_eqPuzzle_E).OK := (E0ok.add1 l_eqIntS_ok)
noncomputable def l_eqPuzzle_told : Nat → Option SealT := fun id => none
theorem l_eqPuzzle_ok : FOK Try.prog n_l_eqPuzzle l_eqPuzzle_sh l_eqPuzzle_fo l_eqPuzzle :=
  fn_ok (E := l_eqPuzzle_E) (l_eqPuzzle_Eok) (told := l_eqPuzzle_told) (fl := []) (c := bodyOf fn_l_eqPuzzle) (s := l_eqPuzzle_sh) (l := l_eqPuzzle_fo) (tree := l_eqPuzzle_t) fnat_l_eqPuzzle (by kernel_rfl) (by kernel_rfl) (by kernel_rfl) (loopsOK_of (ls := []) (by kernel_rfl) trivial) (fun v => by kernel_rfl)

theorem l_eqPuzzle_eq (a b : List Int) (hl : a.length < 4611686018427387904) : l_eqPuzzle (a, b) = some (decide (a = b)) := by
  simp only [l_eqPuzzle, l_eqPuzzle_t, T.run, l_eqIntS_eq a b hl, Option.bind_some]
  cases decide (a = b) <;> rfl


def l_markIntS_sh : FSh := ⟨[(.one (.rw 0 0)), (.one (.si .i64))], [(.row 0 (.int .i64))]⟩

def l_markIntS_L2_sh : LSh := ⟨(fun ex => match ex with | .norm => [(0, none), (1, none), (5, none)] | .exit i => if i = 0 then [(1, none)] else [] | .ret => [(4, none)]), [(0, (.one (.rw 0 0))), (1, (.one (.si .i64))), (5, (.one (.si .i64)))], [(.row 0 (.int .i64))], [⟨(.exit 0), [(1, (.one (.si .i64)))], [(.row 0 (.int .i64))]⟩], [], []⟩
noncomputable def l_markIntS_L2_step : ((Unit × Int × Int) × List (Int)) → T (((Unit × Int × Int) × List (Int)) ⊕ (Int × List (Int))) := fun (((), k, i), a) =>
  (.test (decide (i < ((List.length a) : Int)))
  (.test (decide ((0 ≤ i) ∧ (i < ((List.length a) : Int))))
   (.sub (a[(0 + (Int.toNat i))]?) fun z0 =>
    (.test (decide ((0 = 0) ∧ ((List.length a) = (List.length (List.set a (0 + (Int.toNat i)) k)))))
    (.ret (Sum.inl (((), ((w64 (k + 1)), (w64 (i + 1)))), (List.set a (0 + (Int.toNat i)) k))))
    .fail))
   .fail)
  (.ret (Sum.inr (k, a))))
noncomputable def l_markIntS_L2 (v : ((Unit × Int × Int) × List (Int))) : Option (Int × List (Int)) := loopO (fun v => (l_markIntS_L2_step v).run) v

def l_markIntS_fo : List FO := [⟨[(.one (.si .i64))], [(.row 0 (.int .i64))]⟩]
noncomputable def l_markIntS_t : ((Unit × Int) × List (Int)) → T (Int × List (Int)) := fun (((), k), a) =>
  (.test (decide ((0 = 0) ∧ ((List.length a) = (List.length a))))
  (.sub (l_markIntS_L2 (((), (k, (0 : Int))), a)) fun z0 =>
   (.ret (z0.1, z0.2)))
  .fail)
noncomputable def l_markIntS (v : ((Unit × Int) × List (Int))) : Option (Int × List (Int)) := (l_markIntS_t v).run
noncomputable def l_markIntS_E : TEnv := E0
theorem l_markIntS_Eok : (l_markIntS_E).OK := E0ok
noncomputable def l_markIntS_told : Nat → Option SealT := fun id => if id = 2 then some (LSh.told l_markIntS_L2_sh 1 (l_markIntS_L2_step)) else none
theorem l_markIntS_L2_ok : ToldOK Try.prog 1 (loopAt (bodyOf fn_l_markIntS) [0]) (LSh.told l_markIntS_L2_sh 1 (l_markIntS_L2_step)) :=
  loop_ok (E := l_markIntS_E) (l_markIntS_Eok) (told := l_markIntS_told) (l := l_markIntS_L2_sh) (step := l_markIntS_L2_step) (loopsOK_of (ls := []) (by kernel_rfl) trivial) (by kernel_rfl) (fun v => by kernel_rfl)
theorem l_markIntS_ok : FOK Try.prog n_l_markIntS l_markIntS_sh l_markIntS_fo l_markIntS :=
  fn_ok (E := l_markIntS_E) (l_markIntS_Eok) (told := l_markIntS_told) (fl := []) (c := bodyOf fn_l_markIntS) (s := l_markIntS_sh) (l := l_markIntS_fo) (tree := l_markIntS_t) fnat_l_markIntS (by kernel_rfl) (by kernel_rfl) (by kernel_rfl) (loopsOK_of (ls := [loopAt (bodyOf fn_l_markIntS) [0]]) (by kernel_rfl) ⟨.inr ⟨_, by kernel_rfl, l_markIntS_L2_ok⟩, trivial⟩) (fun v => by kernel_rfl)

theorem l_markIntS_L2_eq (k : Int) (l : List Int) (hk : 0 ≤ k ∧ k < 1000000000000) (hl : l.length < 1000000000000000) : ∀ n i, i + n = l.length →
    l_markIntS_L2 (((), (k + i, (i : Int))), iot k i ++ l.drop i) = some (k + l.length, iot k l.length) := by
  intro n
  induction n with
  | zero =>
    intro i hi
    obtain rfl : i = l.length := by omega
    rw [List.drop_length, List.append_nil]
    simp only [l_markIntS_L2]
    exact loopO_done (by simp [l_markIntS_L2_step, T.run, iot_len])
  | succ n ih =>
    intro i hi
    have hlt : i < l.length := by omega
    have hd : l.drop i = l[i] :: l.drop (i + 1) := List.drop_eq_getElem_cons hlt
    have hlen : (iot k i ++ l.drop i).length = l.length := by rw [List.length_append, iot_len, List.length_drop]; omega
    have hget : (iot k i ++ l.drop i)[i]? = some l[i] := by
      rw [List.getElem?_append_right (by rw [iot_len]; omega), iot_len, Nat.sub_self, hd]; rfl
    have hset : List.set (iot k i ++ l.drop i) i (k + i) = iot k (i + 1) ++ l.drop (i + 1) := by
      rw [List.set_append_right _ _ (by rw [iot_len]; omega), iot_len, Nat.sub_self, hd, iot_succ, List.append_assoc]; rfl
    simp only [l_markIntS_L2] at ih ⊢
    have hst : (l_markIntS_L2_step (((), (k + i, (i : Int))), iot k i ++ l.drop i)).run = some (.inl (((), (k + (i + 1 : Nat), ((i + 1 : Nat) : Int))), iot k (i + 1) ++ l.drop (i + 1))) := by
      simp only [l_markIntS_L2_step, T.run, hlen, Int.toNat_natCast, Nat.zero_add, hget, Option.bind_some, hset]
      rw [w64_id (z := k + i + 1) (by omega) (by omega), w64_id (z := (i : Int) + 1) (by omega) (by omega)]
      have h1 : (i : Int) < (l.length : Int) := by omega
      have h2 : (0 : Int) ≤ i ∧ (i : Int) < (l.length : Int) := by omega
      simp only [h1, h2, decide_true, if_true]
      have h3 : (iot k (i + 1) ++ l.drop (i + 1)).length = l.length := by rw [List.length_append, iot_len, List.length_drop]; omega
      simp [h3, Int.add_assoc]
    rw [loopO_next hst]
    exact ih (i + 1) (by omega)
theorem l_markIntS_eq (k : Int) (l : List Int) (hk : 0 ≤ k ∧ k < 1000000000000) (hl : l.length < 1000000000000000) : l_markIntS (((), k), l) = some (k + l.length, iot k l.length) := by
  have h := l_markIntS_L2_eq k l hk hl l.length 0 (by omega)
  simp only [l_markIntS, l_markIntS_t, T.run]
  have e : iot k 0 ++ l.drop 0 = l := by simp [iot]
  rw [e, show ((0 : Nat) : Int) = 0 from rfl, Int.add_zero] at h
  simp [h]


def l_markPuzzle_sh : FSh := ⟨[(.ag [(.rw 0 0)]), (.one (.si .i64))], [(.row 0 (.int .i64))]⟩

def l_markPuzzle_fo : List FO := [⟨[(.one (.si .i64))], [(.row 0 (.int .i64))]⟩]
noncomputable def l_markPuzzle_t : ((Unit × Int) × List (Int)) → T (Int × List (Int)) := fun (((), k), a_r) =>
  (.test (decide ((0 = 0) ∧ ((List.length a_r) = (List.length a_r))))
  (.sub (l_markIntS (((), k), a_r)) fun z0 =>
   (.ret (z0.1, z0.2)))
  .fail)
noncomputable def l_markPuzzle (v : ((Unit × Int) × List (Int))) : Option (Int × List (Int)) := (l_markPuzzle_t v).run
noncomputable def l_markPuzzle_E : TEnv := (E0.add1 n_l_markIntS l_markIntS_sh l_markIntS_fo l_markIntS)
theorem l_markPuzzle_Eok : (l_markPuzzle_E).OK := (E0ok.add1 l_markIntS_ok)
noncomputable def l_markPuzzle_told : Nat → Option SealT := fun id => none
theorem l_markPuzzle_ok : FOK Try.prog n_l_markPuzzle l_markPuzzle_sh l_markPuzzle_fo l_markPuzzle :=
  fn_ok (E := l_markPuzzle_E) (l_markPuzzle_Eok) (told := l_markPuzzle_told) (fl := []) (c := bodyOf fn_l_markPuzzle) (s := l_markPuzzle_sh) (l := l_markPuzzle_fo) (tree := l_markPuzzle_t) fnat_l_markPuzzle (by kernel_rfl) (by kernel_rfl) (by kernel_rfl) (loopsOK_of (ls := []) (by kernel_rfl) trivial) (fun v => by kernel_rfl)

theorem l_markPuzzle_eq (k : Int) (l : List Int) (hk : 0 ≤ k ∧ k < 1000000000000) (hl : l.length < 1000000000000000) : l_markPuzzle (((), k), l) = some (k + l.length, iot k l.length) := by
  simp [l_markPuzzle, l_markPuzzle_t, T.run, l_markIntS_eq k l hk hl]


def l_heldIntS_sh : FSh := ⟨[(.one (.sl (.int .i64) false false)), (.one (.si .i64))], []⟩

def l_heldIntS_L2_sh : LSh := ⟨(fun ex => match ex with | .norm => [(0, none), (1, none), (5, none)] | .exit i => if i = 0 then [(1, none)] else [] | .ret => [(4, none)]), [(0, (.one (.sl (.int .i64) false false))), (1, (.one (.si .i64))), (5, (.one (.si .i64)))], [], [⟨.ret, [(4, (.one (.si .i64)))], []⟩, ⟨(.exit 0), [(1, (.one (.si .i64)))], []⟩], [], []⟩
noncomputable def l_heldIntS_L2_step : (List (Int) × Int × Int) → T ((List (Int) × Int × Int) ⊕ (Int ⊕ Int)) := fun (a, k, i) =>
  (.test (decide (i < ((List.length a) : Int)))
  (.test (decide ((0 ≤ i) ∧ (i < ((List.length a) : Int))))
   (.sub (a[(Int.toNat i)]?) fun z0 =>
    (.test (z0 != k)
    (.ret (Sum.inr (Sum.inl (-1))))
    (.ret (Sum.inl (a, ((w64 (k + 1)), (w64 (i + 1))))))))
   .fail)
  (.ret (Sum.inr (Sum.inr k))))
noncomputable def l_heldIntS_L2 (v : (List (Int) × Int × Int)) : Option (Int ⊕ Int) := loopO (fun v => (l_heldIntS_L2_step v).run) v

def l_heldIntS_fo : List FO := [⟨[(.one (.si .i64))], []⟩]
noncomputable def l_heldIntS_t : (List (Int) × Int) → T Int := fun (a, k) =>
  (.sub (l_heldIntS_L2 (a, (k, (0 : Int)))) fun z0 =>
  (.test (Sum.isLeft z0)
  (.sub (Sum.getLeft? z0) fun z1 =>
   (.ret z1))
  (.sub (Sum.getRight? z0) fun z2 =>
   (.ret z2))))
noncomputable def l_heldIntS (v : (List (Int) × Int)) : Option Int := (l_heldIntS_t v).run
noncomputable def l_heldIntS_E : TEnv := E0
theorem l_heldIntS_Eok : (l_heldIntS_E).OK := E0ok
noncomputable def l_heldIntS_told : Nat → Option SealT := fun id => if id = 2 then some (LSh.told l_heldIntS_L2_sh 0 (l_heldIntS_L2_step)) else none
theorem l_heldIntS_L2_ok : ToldOK Try.prog 0 (loopAt (bodyOf fn_l_heldIntS) [0]) (LSh.told l_heldIntS_L2_sh 0 (l_heldIntS_L2_step)) :=
  loop_ok (E := l_heldIntS_E) (l_heldIntS_Eok) (told := l_heldIntS_told) (l := l_heldIntS_L2_sh) (step := l_heldIntS_L2_step) (loopsOK_of (ls := []) (by kernel_rfl) trivial) (by kernel_rfl) (fun v => by kernel_rfl)
theorem l_heldIntS_ok : FOK Try.prog n_l_heldIntS l_heldIntS_sh l_heldIntS_fo l_heldIntS :=
  fn_ok (E := l_heldIntS_E) (l_heldIntS_Eok) (told := l_heldIntS_told) (fl := []) (c := bodyOf fn_l_heldIntS) (s := l_heldIntS_sh) (l := l_heldIntS_fo) (tree := l_heldIntS_t) fnat_l_heldIntS (by kernel_rfl) (by kernel_rfl) (by kernel_rfl) (loopsOK_of (ls := [loopAt (bodyOf fn_l_heldIntS) [0]]) (by kernel_rfl) ⟨.inr ⟨_, by kernel_rfl, l_heldIntS_L2_ok⟩, trivial⟩) (fun v => by kernel_rfl)

theorem l_heldIntS_eq (k : Int) (n : Nat) (hk : 0 ≤ k ∧ k < 1000000000000) (hl : n < 1000000000000000) : l_heldIntS (iot k n, k) = some (k + n) := by
  have h := loop_count (step := fun v => (l_heldIntS_L2_step v).run) (n := n) (fun i (_ : Unit) => (iot k n, (k + (i : Int), (i : Int)))) (fun _ _ => Sum.inl ()) (fun _ => Sum.inr (k + (n : Int)))
    (by
      intro i s hi
      simp only [l_heldIntS_L2_step, T.run, iot_len, Int.toNat_natCast, iot_get k hi, Option.bind_some]
      rw [w64_id (z := k + i + 1) (by omega) (by omega), w64_id (z := (i : Int) + 1) (by omega) (by omega)]
      have h1 : (i : Int) < (n : Int) := by omega
      have h2 : (0 : Int) ≤ i ∧ (i : Int) < (n : Int) := by omega
      simp [h1, h2, Int.add_assoc])
    (by intro s; simp [l_heldIntS_L2_step, T.run, iot_len]) 0 () (Nat.zero_le _)
  rw [show ((0 : Nat) : Int) = 0 from rfl, Int.add_zero] at h
  have hf : ∀ l : List Nat, forE (fun (_ : Unit) (_ : Nat) => (Sum.inl () : Unit ⊕ (Int ⊕ Int))) (fun _ => Sum.inr (k + (n : Int))) l () = Sum.inr (k + (n : Int)) := by
    intro l
    induction l with
    | nil => rfl
    | cons x t ih => rw [forE_cons]; exact ih
  rw [hf] at h
  simp only [l_heldIntS, l_heldIntS_t, T.run, l_heldIntS_L2]
  rw [h]
  simp [Sum.isLeft]


def l_heldPuzzle_sh : FSh := ⟨[(.ag [(.sl (.int .i64) false false)]), (.one (.si .i64))], []⟩

def l_heldPuzzle_fo : List FO := [⟨[(.one (.si .i64))], []⟩]
noncomputable def l_heldPuzzle_t : (List (Int) × Int) → T Int := fun (a_0, k) =>
  (.sub (l_heldIntS (a_0, k)) fun z0 =>
  (.test (decide (z0 < 0))
  (.ret (-1))
  (.ret z0)))
noncomputable def l_heldPuzzle (v : (List (Int) × Int)) : Option Int := (l_heldPuzzle_t v).run
noncomputable def l_heldPuzzle_E : TEnv := (E0.add1 n_l_heldIntS l_heldIntS_sh l_heldIntS_fo l_heldIntS)
theorem l_heldPuzzle_Eok : (l_heldPuzzle_E).OK := (E0ok.add1 l_heldIntS_ok)
noncomputable def l_heldPuzzle_told : Nat → Option SealT := fun id => none
theorem l_heldPuzzle_ok : FOK Try.prog n_l_heldPuzzle l_heldPuzzle_sh l_heldPuzzle_fo l_heldPuzzle :=
  fn_ok (E := l_heldPuzzle_E) (l_heldPuzzle_Eok) (told := l_heldPuzzle_told) (fl := []) (c := bodyOf fn_l_heldPuzzle) (s := l_heldPuzzle_sh) (l := l_heldPuzzle_fo) (tree := l_heldPuzzle_t) fnat_l_heldPuzzle (by kernel_rfl) (by kernel_rfl) (by kernel_rfl) (loopsOK_of (ls := []) (by kernel_rfl) trivial) (fun v => by kernel_rfl)

theorem l_heldPuzzle_eq (k : Int) (n : Nat) (hk : 0 ≤ k ∧ k < 1000000000000) (hl : n < 1000000000000000) : l_heldPuzzle (iot k n, k) = some (k + n) := by
  have : ¬ (k + (n : Int) < 0) := by omega
  simp [l_heldPuzzle, l_heldPuzzle_t, T.run, l_heldIntS_eq k n hk hl, this]


def l_FnExactMakePuzzle_sh : FSh := ⟨[(.one (.si .i64)), (.one (.si .i64)), (.one (.si .i64))], []⟩

def l_FnExactMakePuzzle_fo : List FO := [⟨[(.one .sb)], []⟩]
noncomputable def l_FnExactMakePuzzle_t : (Int × Int × Int) → T Bool := fun (aN, aGaps, aSeed) =>
  (.sub (s_MakePuzzle (aN, (aGaps, aSeed))) fun z0 =>
  (.sub (i_MakePuzzle (aN, (aGaps, aSeed))) fun z1 =>
  (.test (decide ((0 + (List.length z1.2)) ≤ (List.length z1.2)))
  (.test (decide ((0 + (List.length z0.2)) ≤ (List.length z0.2)))
   (.sub (l_eqPuzzle ((win z1.2 0 (List.length z1.2)), (win z0.2 0 (List.length z0.2)))) fun z2 =>
    (.test (! z2)
    (.ret false)
    (.test (! (z1.1.2 == z0.1.2))
     (.ret false)
     (.test (decide ((0 = 0) ∧ ((List.length z1.2) = (List.length z1.2))))
      (.sub (l_markPuzzle (((), (1 : Int)), z1.2)) fun z3 =>
       (.test (decide ((0 + (List.length z1.2)) ≤ (List.length z3.2)))
       (.sub (l_heldPuzzle ((win z3.2 0 (List.length z1.2)), (1 : Int))) fun z4 =>
        (.test (decide (z4 < 0))
        (.ret false)
        (.test (z4 != z3.1)
         (.ret false)
         (.sub (i_MakePuzzle (aN, (aGaps, aSeed))) fun z5 =>
          (.test (decide ((0 + (List.length z5.2)) ≤ (List.length z5.2)))
          (.test (decide ((0 + (List.length z0.2)) ≤ (List.length z0.2)))
           (.sub (l_eqPuzzle ((win z5.2 0 (List.length z5.2)), (win z0.2 0 (List.length z0.2)))) fun z6 =>
            (.test (! z6)
            (.ret false)
            (.test (! (z5.1.2 == z0.1.2))
             (.ret false)
             (.test (decide ((0 + (List.length z1.2)) ≤ (List.length z3.2)))
              (.sub (l_heldPuzzle ((win z3.2 0 (List.length z1.2)), (1 : Int))) fun z7 =>
               (.test (decide (z7 < 0))
               (.ret false)
               (.test (z7 != z3.1)
                (.ret false)
                (.ret true))))
              .fail))))
           .fail)
          .fail)))))
       .fail))
      .fail))))
   .fail)
  .fail)))
noncomputable def l_FnExactMakePuzzle (v : (Int × Int × Int)) : Option Bool := (l_FnExactMakePuzzle_t v).run
noncomputable def l_FnExactMakePuzzle_E : TEnv := (((((E0.add1 n_s_MakePuzzle s_MakePuzzle_sh s_MakePuzzle_fo s_MakePuzzle).add1 n_i_MakePuzzle i_MakePuzzle_sh i_MakePuzzle_fo i_MakePuzzle).add1 n_l_eqPuzzle l_eqPuzzle_sh l_eqPuzzle_fo l_eqPuzzle).add1 n_l_markPuzzle l_markPuzzle_sh l_markPuzzle_fo l_markPuzzle).add1 n_l_heldPuzzle l_heldPuzzle_sh l_heldPuzzle_fo l_heldPuzzle)
theorem l_FnExactMakePuzzle_Eok : (l_FnExactMakePuzzle_E).OK := (((((E0ok.add1 s_MakePuzzle_ok).add1 i_MakePuzzle_ok).add1 l_eqPuzzle_ok).add1 l_markPuzzle_ok).add1 l_heldPuzzle_ok)
noncomputable def l_FnExactMakePuzzle_told : Nat → Option SealT := fun id => none
theorem l_FnExactMakePuzzle_ok : FOK Try.prog n_l_FnExactMakePuzzle l_FnExactMakePuzzle_sh l_FnExactMakePuzzle_fo l_FnExactMakePuzzle :=
  fn_ok (E := l_FnExactMakePuzzle_E) (l_FnExactMakePuzzle_Eok) (told := l_FnExactMakePuzzle_told) (fl := []) (c := bodyOf fn_l_FnExactMakePuzzle) (s := l_FnExactMakePuzzle_sh) (l := l_FnExactMakePuzzle_fo) (tree := l_FnExactMakePuzzle_t) fnat_l_FnExactMakePuzzle (by kernel_rfl) (by kernel_rfl) (by kernel_rfl) (loopsOK_of (ls := []) (by kernel_rfl) trivial) (fun v => by kernel_rfl)

theorem l_FnExactMakePuzzle_true (v : Int × Int × Int) (hs : smallL ASh.small [.one (.si .i64), .one (.si .i64), .one (.si .i64)] v) : l_FnExactMakePuzzle v = some true := by
  obtain ⟨n, g, s⟩ := v
  have hr := i_MakePuzzle_eq n g s
  have hsp := s_MakePuzzle_eq n g s
  have hl := mkPz_len n g s
  generalize mkPz n g s = r at *
  obtain ⟨ok, r⟩ := r
  simp only at hl hr hsp
  have hl1 : r.length < 4611686018427387904 := by omega
  have hm := l_markPuzzle_eq 1 r (by omega) (by omega)
  have hh := l_heldPuzzle_eq 1 r.length (by omega) (by omega)
  have hw : win (iot 1 r.length) 0 r.length = iot 1 r.length := by have := win_all (iot 1 r.length); rwa [iot_len] at this
  have hx : ¬ ((1 : Int) + r.length < 0) := by omega
  rw [l_FnExactMakePuzzle, l_FnExactMakePuzzle_t]
  simp (config := { maxSteps := 10000000 }) [T.run, win_all, hr, hsp, l_eqPuzzle_eq r r hl1, hm, iot_len, hw, hh, hx]


end Go.Proofs.W
