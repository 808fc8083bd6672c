/- Functions of the program, walked, and what they compute. -/
import Derived.Test.YtcpjedchcfpbdaaLcWk2
set_option linter.unusedVariables false
set_option linter.unusedSimpArgs false
set_option maxRecDepth 100000
set_option maxHeartbeats 4000000
namespace Go.Proofs.W
open Go Go.Gm Go.Proofs
open Go.RowKit Go.Shelf
def math_bits_Mul_sh : FSh := ⟨[.one (.si .u64), .one (.si .u64)], []⟩
def math_bits_Mul_fo : List FO := [⟨[.one (.si .u64), .one (.si .u64)], []⟩]
def math_bits_Mul (v : Int × Int) : Option (Int × Int) := if 0 ≤ v.1 ∧ v.1 < 18446744073709551616 ∧ 0 ≤ v.2 ∧ v.2 < 18446744073709551616 then some (((v.1.toNat * v.2.toNat / 18446744073709551616 : Nat) : Int), ((v.1.toNat * v.2.toNat % 18446744073709551616 : Nat) : Int)) else none
def math_bits_Mul_ren : Shelf.Ren := ⟨fun k => if k = 212 then n_math_bits_Mul else if k = 263 then 121 else 122, fun t => if t = 46 then 84 else if t = 51 then 102 else if t = 146 then 113 else if t = 148 then 115 else 50, fun x => x⟩
theorem math_bits_Mul_lay : Lays.n212 Try.prog math_bits_Mul_ren :=
  { mixed := by kernel_rfl, f212 := by kernel_rfl, f263 := by kernel_rfl, f264 := by kernel_rfl, t46 := by kernel_rfl, a46 := fun w => by kernel_rfl, z46 := fun w => by kernel_rfl, v46 := fun w => by kernel_rfl, t51 := by kernel_rfl, a51 := fun w => by kernel_rfl, z51 := fun w => by kernel_rfl, v51 := fun w => by kernel_rfl, t53 := by kernel_rfl, a53 := fun w => by kernel_rfl, z53 := fun w => by kernel_rfl, v53 := fun w => by kernel_rfl, t146 := by kernel_rfl, a146 := fun w => by kernel_rfl, z146 := fun w => by kernel_rfl, v146 := fun w => by kernel_rfl, t148 := by kernel_rfl, a148 := fun w => by kernel_rfl, z148 := fun w => by kernel_rfl, v148 := fun w => by kernel_rfl }
theorem math_bits_Mul_ok : FOK Try.prog n_math_bits_Mul math_bits_Mul_sh math_bits_Mul_fo math_bits_Mul :=
  bitsMul_ok ⟨_, fnat_math_bits_Mul, by kernel_rfl, by kernel_rfl⟩ (ρr := math_bits_Mul_ren) rfl math_bits_Mul_lay

def slices_Repeat_int_sh : FSh := ⟨[(.one (.sl (.int .i64) false false)), (.one (.si .i64))], []⟩

def slices_Repeat_int_L8_sh : LSh := ⟨(fun ex => match ex with | .norm => [(7, none), (8, none)] | .exit i => if i = 0 then [(7, none)] else [] | .ret => [(4, none)]), [(7, (.one (.rw 0 0))), (8, (.one (.si .i64)))], [(.row 0 (.int .i64))], [⟨(.exit 0), [(7, (.one (.rw 0 0)))], [(.row 0 (.int .i64))]⟩], [], []⟩
noncomputable def slices_Repeat_int_L8_step : ((Unit × Int) × List (Int)) → T (((Unit × Int) × List (Int)) ⊕ (Unit × List (Int))) := fun (((), n), newslice) =>
  (.test (decide (n < ((List.length newslice) : Int)))
  (.test (decide (0 ≤ n))
   (.test (decide (((Int.toNat n) ≤ (List.length newslice)) ∧ ((List.length newslice) ≤ (List.length newslice))))
    (.test (decide (0 ≤ n))
     (.test (decide ((0 ≤ (Int.toNat n)) ∧ ((Int.toNat n) ≤ (List.length newslice))))
      (.test (decide ((0 + ((Int.toNat n) - 0)) ≤ (List.length newslice)))
       (.test (decide ((0 < (min (List.length (win newslice 0 ((Int.toNat n) - 0))) ((List.length newslice) - (Int.toNat n)))) ∧ (((0 + (Int.toNat n)) + ((List.length newslice) - (Int.toNat n))) ≤ (List.length newslice))))
        (.test (decide ((0 = 0) ∧ ((List.length newslice) = (List.length (spliceT newslice (0 + (Int.toNat n)) (List.take (min (List.length (win newslice 0 ((Int.toNat n) - 0))) ((List.length newslice) - (Int.toNat n))) (win newslice 0 ((Int.toNat n) - 0))))))))
         (.ret (Sum.inl (((), (w64 (n + (((min (List.length (win newslice 0 ((Int.toNat n) - 0))) ((List.length newslice) - (Int.toNat n))) : Nat) : Int)))), (spliceT newslice (0 + (Int.toNat n)) (List.take (min (List.length (win newslice 0 ((Int.toNat n) - 0))) ((List.length newslice) - (Int.toNat n))) (win newslice 0 ((Int.toNat n) - 0)))))))
         .fail)
        .fail)
       .fail)
      .fail)
     .fail)
    .fail)
   .fail)
  (.test (decide ((0 = 0) ∧ ((List.length newslice) = (List.length newslice))))
   (.ret (Sum.inr ((), newslice)))
   .fail))
noncomputable def slices_Repeat_int_L8 (v : ((Unit × Int) × List (Int))) : Option (Unit × List (Int)) := loopO (fun v => (slices_Repeat_int_L8_step v).run) v

def slices_Repeat_int_fo : List FO := [⟨[(.one (.rw 0 0))], [(.row 0 (.int .i64))]⟩]
noncomputable def slices_Repeat_int_t : (List (Int) × Int) → T (Unit × List (Int)) := fun (x, count) =>
  (.test (decide (count < 0))
  .fail
  (.sub (math_bits_Mul ((wu64 ((List.length x) : Int)), (wu64 count))) fun z0 =>
   (.test (decide (z0.1 > 0))
   .fail
   (.test (decide (z0.2 > 9223372036854775807))
    .fail
    (.test (decide ((0 ≤ (w64 z0.2)) ∧ (((w64 z0.2) ≤ (w64 z0.2)) ∧ (((Int.toNat (w64 z0.2)) * 9) ≤ 140737488355328))))
     (.test (decide ((0 < (min (List.length x) (Int.toNat (w64 z0.2)))) ∧ ((0 + (Int.toNat (w64 z0.2))) ≤ (List.length (List.replicate (Int.toNat (w64 z0.2)) (0 : Int))))))
      (.test (decide ((0 = 0) ∧ ((Int.toNat (w64 z0.2)) = (List.length (spliceT (List.replicate (Int.toNat (w64 z0.2)) (0 : Int)) 0 (List.take (min (List.length x) (Int.toNat (w64 z0.2))) x))))))
       (.sub (slices_Repeat_int_L8 (((), (((min (List.length x) (Int.toNat (w64 z0.2))) : Nat) : Int)), (spliceT (List.replicate (Int.toNat (w64 z0.2)) (0 : Int)) 0 (List.take (min (List.length x) (Int.toNat (w64 z0.2))) x)))) fun z1 =>
        (.test (decide ((0 = 0) ∧ ((List.length z1.2) = (List.length z1.2))))
        (.ret ((), z1.2))
        .fail))
       .fail)
      .fail)
     .fail)))))
noncomputable def slices_Repeat_int (v : (List (Int) × Int)) : Option (Unit × List (Int)) := (slices_Repeat_int_t v).run
noncomputable def slices_Repeat_int_E : TEnv := (E0.add1 n_math_bits_Mul math_bits_Mul_sh math_bits_Mul_fo math_bits_Mul)
theorem slices_Repeat_int_Eok : (slices_Repeat_int_E).OK := (E0ok.add1 math_bits_Mul_ok)
noncomputable def slices_Repeat_int_told : Nat → Option SealT := fun id => if id = 8 then some (LSh.told slices_Repeat_int_L8_sh 0 (slices_Repeat_int_L8_step)) else none
theorem slices_Repeat_int_L8_ok : ToldOK Try.prog 0 (loopAt (bodyOf fn_slices_Repeat_int) [0]) (LSh.told slices_Repeat_int_L8_sh 0 (slices_Repeat_int_L8_step)) :=
  loop_ok (E := slices_Repeat_int_E) (slices_Repeat_int_Eok) (told := slices_Repeat_int_told) (l := slices_Repeat_int_L8_sh) (step := slices_Repeat_int_L8_step) (loopsOK_of (ls := []) (by kernel_rfl) trivial) (by kernel_rfl) (fun v => by kernel_rfl)
theorem slices_Repeat_int_ok : FOK Try.prog n_slices_Repeat_int slices_Repeat_int_sh slices_Repeat_int_fo slices_Repeat_int :=
  fn_ok (E := slices_Repeat_int_E) (slices_Repeat_int_Eok) (told := slices_Repeat_int_told) (fl := []) (c := bodyOf fn_slices_Repeat_int) (s := slices_Repeat_int_sh) (l := slices_Repeat_int_fo) (tree := slices_Repeat_int_t) fnat_slices_Repeat_int (by kernel_rfl) (by kernel_rfl) (by kernel_rfl) (loopsOK_of (ls := [loopAt (bodyOf fn_slices_Repeat_int) [0]]) (by kernel_rfl) ⟨.inr ⟨_, by kernel_rfl, slices_Repeat_int_L8_ok⟩, trivial⟩) (fun v => by kernel_rfl)

theorem slices_Repeat_int_one (n : Nat) (h1 : 1 ≤ n) (h2 : n ≤ 1000000) : slices_Repeat_int ([1], (n : Int)) = some ((), List.replicate n 1) := by
  have hm : math_bits_Mul (wu64 (([1] : List Int).length : Int), wu64 (n : Int)) = some (0, (n : Int)) := by
    have e1 : wu64 (([1] : List Int).length : Int) = 1 := IntWalk.u64_in _ ⟨by simp, by simp⟩
    have e2 : wu64 (n : Int) = (n : Int) := IntWalk.u64_in _ ⟨by omega, by omega⟩
    rw [e1, e2]
    unfold math_bits_Mul
    simp only []
    rw [if_pos ⟨by omega, by omega, by omega, by omega⟩]
    have t1 : (1 : Int).toNat = 1 := rfl
    rw [t1, Int.toNat_natCast, Nat.one_mul, Nat.div_eq_of_lt (by omega), Nat.mod_eq_of_lt (by omega)]
    rfl
  have hl : ∀ m k, k + m = n → 1 ≤ k → slices_Repeat_int_L8 (((), (k : Int)), List.replicate k 1 ++ List.replicate (n - k) 0) = some ((), List.replicate n 1) := by
    intro m
    induction m using Nat.strongRecOn with
    | ind m ih =>
      intro k hk hk1
      have hlen : (List.replicate k (1 : Int) ++ List.replicate (n - k) 0).length = n := by simp; omega
      by_cases hm : m = 0
      · have : k = n := by omega
        subst this
        rw [Nat.sub_self, List.replicate_zero, List.append_nil]
        simp only [slices_Repeat_int_L8]
        exact loopO_done (by simp [slices_Repeat_int_L8_step, T.run])
      · have ih := ih (m - min k (n - k)) (by omega) (k + min k (n - k)) (by omega) (by omega)
        simp only [slices_Repeat_int_L8] at ih ⊢
        rw [← ih]
        refine loopO_next ?_
        have c0 : (k : Int) < (n : Int) := by omega
        have c1 : (0 : Int) ≤ (k : Int) := by omega
        have c2 : k ≤ n ∧ n ≤ n := by omega
        have c3 : 0 ≤ k ∧ k ≤ n := by omega
        have tw : win (List.replicate k (1 : Int) ++ List.replicate (n - k) 0) 0 (k - 0) = List.replicate k 1 := by
          rw [win_take, Nat.sub_zero, List.take_left' (by simp)]
        have c4 : 0 + (k - 0) ≤ n := by omega
        have c5 : 0 < min k (n - k) ∧ 0 + k + (n - k) ≤ n := by omega
        have w1 : w64 ((k : Int) + ((min k (n - k) : Nat) : Int)) = ((k + min k (n - k) : Nat) : Int) := by rw [w64_id (by omega) (by omega)]; omega
        have sp : spliceT (List.replicate k (1 : Int) ++ List.replicate (n - k) 0) (0 + k) (List.take (min k (n - k)) (List.replicate k 1)) = List.replicate (k + min k (n - k)) 1 ++ List.replicate (n - (k + min k (n - k))) 0 := by
          unfold spliceT
          rw [Nat.zero_add, List.take_left' (by simp), List.take_replicate, List.length_replicate, List.drop_append, List.drop_replicate, List.drop_replicate, List.length_replicate]
          rw [show k - (k + min (min k (n - k)) k) = 0 by omega, show min (min k (n - k)) k = min k (n - k) by omega, show n - k - (k + min k (n - k) - k) = n - (k + min k (n - k)) by omega, List.replicate_zero, List.nil_append, ← List.append_assoc, List.replicate_append_replicate]
        have lsp : n = (List.replicate (k + min k (n - k)) (1 : Int) ++ List.replicate (n - (k + min k (n - k))) 0).length := by simp; omega
        simp only [slices_Repeat_int_L8_step, T.run, hlen, c0, c1, c2, c3, c4, c5, decide_true, if_true, and_self, Int.toNat_natCast, tw, List.length_replicate, sp, w1]
        rw [← lsp]
        simp
  simp only [slices_Repeat_int, slices_Repeat_int_t, T.run, hm, Option.bind_some]
  have w1 : w64 (n : Int) = (n : Int) := w64_id (by omega) (by omega)
  have c0 : ¬ ((n : Int) < 0) := by omega
  have c1 : ¬ ((n : Int) > 9223372036854775807) := by omega
  have c2 : 0 ≤ (n : Int) ∧ (n : Int) ≤ (n : Int) ∧ n * 9 ≤ 140737488355328 := by omega
  have m1 : min ([1] : List Int).length n = 1 := by simp; omega
  have sp : spliceT (List.replicate n (0 : Int)) 0 (List.take 1 [1]) = List.replicate 1 1 ++ List.replicate (n - 1) 0 := by
    unfold spliceT
    simp
  have lsp : n = (List.replicate 1 (1 : Int) ++ List.replicate (n - 1) 0).length := by simp; omega
  simp only [c0, c1, w1, decide_false, Bool.false_eq_true, if_false, Int.toNat_natCast, c2, and_self, decide_true, if_true, m1, sp, hl (n - 1) 1 (by omega) (Nat.le_refl 1), Option.bind_some]
  simp only [List.length_replicate, Nat.zero_add]
  rw [← lsp]
  simp


def i_quiddity_sh : FSh := ⟨[(.one (.si .i64)), (.one (.sl (.pair (.int .i64) (.int .i64)) false false))], []⟩

def i_quiddity_L3_sh : LSh := ⟨(fun ex => match ex with | .norm => [(5, none), (11, none), (12, none), (13, none)] | .exit i => if i = 0 then [(5, none)] else [] | .ret => [(4, none)]), [(5, (.one (.rw 0 0))), (11, (.one (.sl (.pair (.int .i64) (.int .i64)) false false))), (12, (.one (.si .i64))), (13, (.one (.si .i64)))], [(.row 0 (.int .i64))], [⟨(.exit 0), [(5, (.one (.rw 0 0)))], [(.row 0 (.int .i64))]⟩], [], []⟩
noncomputable def i_quiddity_L3_step : ((Unit × List ((Int × Int)) × Int × Int) × List (Int)) → T (((Unit × List ((Int × Int)) × Int × Int) × List (Int)) ⊕ (Unit × List (Int))) := fun (((), t11, t12, t13), out) =>
  (.test (decide (t13 < t12))
  (.test (decide ((0 ≤ t13) ∧ (t13 < ((List.length t11) : Int))))
   (.sub (t11[(Int.toNat t13)]?) fun z0 =>
    (.test (decide ((0 ≤ z0.1) ∧ (z0.1 < ((List.length out) : Int))))
    (.sub (out[(0 + (Int.toNat z0.1))]?) fun z1 =>
     (.test (decide ((0 ≤ z0.1) ∧ (z0.1 < ((List.length out) : Int))))
     (.sub (out[(0 + (Int.toNat z0.1))]?) fun z2 =>
      (.test (decide ((0 ≤ z0.2) ∧ (z0.2 < ((List.length out) : Int))))
      (.sub ((List.set out (0 + (Int.toNat z0.1)) (w64 (z1 + 1)))[(0 + (Int.toNat z0.2))]?) fun z3 =>
       (.test (decide ((0 ≤ z0.2) ∧ (z0.2 < ((List.length out) : Int))))
       (.sub ((List.set out (0 + (Int.toNat z0.1)) (w64 (z1 + 1)))[(0 + (Int.toNat z0.2))]?) fun z4 =>
        (.test (decide ((0 = 0) ∧ ((List.length out) = (List.length (List.set (List.set out (0 + (Int.toNat z0.1)) (w64 (z1 + 1))) (0 + (Int.toNat z0.2)) (w64 (z3 + 1)))))))
        (.ret (Sum.inl (((), (t11, (t12, (w64 (t13 + 1))))), (List.set (List.set out (0 + (Int.toNat z0.1)) (w64 (z1 + 1))) (0 + (Int.toNat z0.2)) (w64 (z3 + 1))))))
        .fail))
       .fail))
      .fail))
     .fail))
    .fail))
   .fail)
  (.test (decide ((0 = 0) ∧ ((List.length out) = (List.length out))))
   (.ret (Sum.inr ((), out)))
   .fail))
noncomputable def i_quiddity_L3 (v : ((Unit × List ((Int × Int)) × Int × Int) × List (Int))) : Option (Unit × List (Int)) := loopO (fun v => (i_quiddity_L3_step v).run) v

def i_quiddity_fo : List FO := [⟨[(.one (.rw 0 0))], [(.row 0 (.int .i64))]⟩]
noncomputable def i_quiddity_t : (Int × List ((Int × Int))) → T (Unit × List (Int)) := fun (n, ds) =>
  (.test true
  (.sub (slices_Repeat_int ((win (List.set (List.replicate 1 (0 : Int)) 0 (1 : Int)) 0 1), n)) fun z0 =>
   (.test (decide ((0 = 0) ∧ ((List.length z0.2) = (List.length z0.2))))
   (.sub (i_quiddity_L3 (((), (ds, (((List.length ds) : Int), (0 : Int)))), z0.2)) fun z1 =>
    (.test (decide ((0 = 0) ∧ ((List.length z1.2) = (List.length z1.2))))
    (.ret ((), z1.2))
    .fail))
   .fail))
  .fail)
noncomputable def i_quiddity (v : (Int × List ((Int × Int)))) : Option (Unit × List (Int)) := (i_quiddity_t v).run
noncomputable def i_quiddity_E : TEnv := (E0.add1 n_slices_Repeat_int slices_Repeat_int_sh slices_Repeat_int_fo slices_Repeat_int)
theorem i_quiddity_Eok : (i_quiddity_E).OK := (E0ok.add1 slices_Repeat_int_ok)
noncomputable def i_quiddity_told : Nat → Option SealT := fun id => if id = 3 then some (LSh.told i_quiddity_L3_sh 0 (i_quiddity_L3_step)) else none
theorem i_quiddity_L3_ok : ToldOK Try.prog 0 (loopAt (bodyOf fn_i_quiddity) [0]) (LSh.told i_quiddity_L3_sh 0 (i_quiddity_L3_step)) :=
  loop_ok (E := i_quiddity_E) (i_quiddity_Eok) (told := i_quiddity_told) (l := i_quiddity_L3_sh) (step := i_quiddity_L3_step) (loopsOK_of (ls := []) (by kernel_rfl) trivial) (by kernel_rfl) (fun v => by kernel_rfl)
theorem i_quiddity_ok : FOK Try.prog n_i_quiddity i_quiddity_sh i_quiddity_fo i_quiddity :=
  fn_ok (E := i_quiddity_E) (i_quiddity_Eok) (told := i_quiddity_told) (fl := []) (c := bodyOf fn_i_quiddity) (s := i_quiddity_sh) (l := i_quiddity_fo) (tree := i_quiddity_t) fnat_i_quiddity (by kernel_rfl) (by kernel_rfl) (by kernel_rfl) (loopsOK_of (ls := [loopAt (bodyOf fn_i_quiddity) [0]]) (by kernel_rfl) ⟨.inr ⟨_, by kernel_rfl, i_quiddity_L3_ok⟩, trivial⟩) (fun v => by kernel_rfl)

theorem i_quiddity_eq (n : Nat) (ds : List Dg) (hn : 1 ≤ n ∧ n ≤ 1000000) (hl : ds.length < 1000000) (h : ∀ d ∈ ds, 0 ≤ d.1 ∧ d.1 < d.2 ∧ d.2 < (n : Int)) : i_quiddity ((n : Int), ds) = some ((), quid n ds) := by
  have hl' := loop_fold (step := fun v => (i_quiddity_L3_step v).run) (xs := ds) (fun k (s : List Int) => s.length = n ∧ ∀ p, p < n → 0 ≤ s.getD p 0 ∧ s.getD p 0 ≤ k + 1) (fun k s => (((), (ds, ((ds.length : Int), (k : Int)))), s)) bumpD (fun s => ((), s))
    (fun k s d hP hd => by
      obtain ⟨hs, hb⟩ := hP
      have hlt := getElem?_lt hd
      obtain ⟨q1, q2, q3⟩ := h d (List.mem_of_getElem? hd)
      refine ⟨?_, by rw [bumpD_length, hs], fun p hp => ?_⟩
      · have c0 : (k : Int) < (ds.length : Int) := by omega
        have c1 : (0 : Int) ≤ (k : Int) ∧ (k : Int) < (ds.length : Int) := by omega
        have w1 : w64 ((k : Int) + 1) = ((k + 1 : Nat) : Int) := by rw [w64_id (by omega) (by omega)]; omega
        have c2 : 0 ≤ d.1 ∧ d.1 < (s.length : Int) := by omega
        have c3 : 0 ≤ d.2 ∧ d.2 < (s.length : Int) := by omega
        have b1 := hb d.1.toNat (by omega)
        have b2 := hb d.2.toNat (by omega)
        have g1 : s[d.1.toNat]? = some (s.getD d.1.toNat 0) := by rw [List.getD_eq_getElem?_getD, List.getElem?_eq_getElem (by omega)]; rfl
        have g2 : s[d.2.toNat]? = some (s.getD d.2.toNat 0) := by rw [List.getD_eq_getElem?_getD, List.getElem?_eq_getElem (by omega)]; rfl
        have w2 : w64 (s.getD d.1.toNat 0 + 1) = s.getD d.1.toNat 0 + 1 := w64_id (by omega) (by omega)
        have w3 : w64 (s.getD d.2.toNat 0 + 1) = s.getD d.2.toNat 0 + 1 := w64_id (by omega) (by omega)
        have g3 : (s.set d.1.toNat (s.getD d.1.toNat 0 + 1))[d.2.toNat]? = some (s.getD d.2.toNat 0) := by rw [List.getElem?_set_ne (by omega)]; exact g2
        simp only [i_quiddity_L3_step, T.run, c0, c1, c2, c3, decide_true, if_true, and_self, Int.toNat_natCast, hd, Option.bind_some, Nat.zero_add, g1, w2, g3, w3, w1]
        simp [bumpD]
      · rw [bumpD_get q1 q2 (by omega) (by omega)]
        have := hb p hp
        have : 0 ≤ cntD d p ∧ cntD d p ≤ 1 := by unfold cntD; split <;> split <;> omega
        omega)
    (fun s hs => by simp [i_quiddity_L3_step, T.run])
    (List.replicate n 1) ⟨by simp, fun p hp => by rw [List.getD_eq_getElem?_getD, List.getElem?_replicate, if_pos hp]; simp⟩
  have hq : ds.foldl bumpD (List.replicate n 1) = quid n ds := by
    obtain ⟨f1, f2⟩ := bump_fold n ds (List.replicate n 1) (by simp) h
    refine List.ext_getElem (by rw [f1]; simp [quid]) fun p hp _ => ?_
    have := f2 p (by omega)
    rw [List.getD_eq_getElem?_getD, List.getElem?_eq_getElem hp, List.getD_eq_getElem?_getD, List.getElem?_replicate, if_pos (by omega)] at this
    simp only [Option.getD_some] at this
    rw [this]
    simp [quid]
  simp only [Int.natCast_zero] at hl'
  have hw : win (List.set (List.replicate 1 (0 : Int)) 0 (1 : Int)) 0 1 = [1] := rfl
  simp only [i_quiddity, i_quiddity_t, T.run, hw, slices_Repeat_int_one n hn.1 hn.2, Option.bind_some, i_quiddity_L3]
  rw [hl'.1, hq]
  simp


def i_triangulation_sh : FSh := ⟨[(.one (.sl (.int .i64) false false))], []⟩

def i_triangulation_L5_sh : LSh := ⟨(fun ex => match ex with | .norm => [(0, none), (4, none), (5, none), (6, none), (24, none), (25, none)] | .exit i => if i = 0 then [(0, none), (4, none), (5, none), (6, none)] else [] | .ret => [(2, none), (3, none)]), [(0, (.one (.sl (.int .i64) false false))), (4, (.one (.rw 0 0))), (5, (.one (.rw 1 0))), (6, (.one (.rw 2 0))), (24, (.one (.si .i64))), (25, (.one (.si .i64)))], [(.row 0 (.int .i64)), (.row 0 (.int .i64)), (.row 0 (.pair (.int .i64) (.int .i64)))], [⟨(.exit 0), [(0, (.one (.sl (.int .i64) false false))), (4, (.one (.rw 0 0))), (5, (.one (.rw 1 0))), (6, (.one (.rw 2 0)))], [(.row 0 (.int .i64)), (.row 0 (.int .i64)), (.row 0 (.pair (.int .i64) (.int .i64)))]⟩], [], []⟩
noncomputable def i_triangulation_L5_step : ((List (Int) × Unit × Unit × Unit × Int × Int) × (List (Int) × List (Int) × List ((Int × Int)))) → T (((List (Int) × Unit × Unit × Unit × Int × Int) × (List (Int) × List (Int) × List ((Int × Int)))) ⊕ ((List (Int) × Unit × Unit × Unit) × (List (Int) × List (Int) × List ((Int × Int))))) := fun ((list, (), (), (), t24, t25), (left, names, out)) =>
  (.test (decide (t25 < t24))
  (.test (decide (1 ≤ (List.length (List.set (List.replicate 1 (0 : Int)) 0 t25))))
   (.test (decide ((0 + (List.length names)) ≤ (List.length names)))
    (.test (decide ((2 * (((List.length names) + (List.length (win (List.set (List.replicate 1 (0 : Int)) 0 t25) 0 1))) * 9)) ≤ 140737488355328))
     (.test (decide ((0 = 0) ∧ ((List.length left) = (List.length left))))
      (.test (decide ((0 = 0) ∧ (((List.length names) + (List.length (win (List.set (List.replicate 1 (0 : Int)) 0 t25) 0 1))) = (List.length ((win names 0 (List.length names)) ++ (win (List.set (List.replicate 1 (0 : Int)) 0 t25) 0 1))))))
       (.test (decide ((0 = 0) ∧ ((List.length out) = (List.length out))))
        (.ret (Sum.inl ((list, ((), ((), ((), (t24, (w64 (t25 + 1))))))), (left, (((win names 0 (List.length names)) ++ (win (List.set (List.replicate 1 (0 : Int)) 0 t25) 0 1)), out)))))
        .fail)
       .fail)
      .fail)
     .fail)
    .fail)
   .fail)
  (.test (decide ((0 = 0) ∧ ((List.length left) = (List.length left))))
   (.test (decide ((0 = 0) ∧ ((List.length names) = (List.length names))))
    (.test (decide ((0 = 0) ∧ ((List.length out) = (List.length out))))
     (.ret (Sum.inr ((list, ((), ((), ()))), (left, (names, out)))))
     .fail)
    .fail)
   .fail))
noncomputable def i_triangulation_L5 (v : ((List (Int) × Unit × Unit × Unit × Int × Int) × (List (Int) × List (Int) × List ((Int × Int))))) : Option ((List (Int) × Unit × Unit × Unit) × (List (Int) × List (Int) × List ((Int × Int)))) := loopO (fun v => (i_triangulation_L5_step v).run) v

def i_triangulation_L10_sh : LSh := ⟨(fun ex => match ex with | .norm => [(0, none), (4, none), (5, none), (6, none), (8, none)] | .exit i => if i = 2 then [(0, none), (4, none), (6, none)] else [] | .ret => [(2, none), (3, none)]), [(0, (.one (.sl (.int .i64) false false))), (4, (.one (.rw 0 0))), (5, (.one (.rw 1 0))), (6, (.one (.rw 2 0))), (8, (.one (.si .i64)))], [(.row 0 (.int .i64)), (.row 0 (.int .i64)), (.row 0 (.pair (.int .i64) (.int .i64)))], [⟨.ret, [(2, (.one (.rw 0 0))), (3, (.one .sb))], [(.row 0 (.pair (.int .i64) (.int .i64)))]⟩, ⟨(.exit 2), [(0, (.one (.sl (.int .i64) false false))), (4, (.one (.rw 0 0))), (6, (.one (.rw 1 0)))], [(.row 0 (.int .i64)), (.row 0 (.pair (.int .i64) (.int .i64)))]⟩], [], []⟩
noncomputable def i_triangulation_L10_step : ((List (Int) × Unit × Unit × Unit × Int) × (List (Int) × List (Int) × List ((Int × Int)))) → T (((List (Int) × Unit × Unit × Unit × Int) × (List (Int) × List (Int) × List ((Int × Int)))) ⊕ (((Unit × Bool) × List ((Int × Int))) ⊕ ((List (Int) × Unit × Unit) × (List (Int) × List ((Int × Int)))))) := fun ((list, (), (), (), n), (left, names, out)) =>
  (.test (decide (n > 3))
  (.test (decide ((0 + (List.length left)) ≤ (List.length left)))
   (.sub (slices_Index_int ((win left 0 (List.length left)), (1 : Int))) fun z0 =>
    (.test (decide (z0 < 0))
    (.test true
     (.ret (Sum.inr (Sum.inl (((), false), ([] : List (Int × Int))))))
     .fail)
    (.test (decide (n ≠ 0))
     (.test (decide (n ≠ 0))
      (.test (decide ((0 ≤ (Int.tmod (w64 ((w64 (z0 + n)) - 1)) n)) ∧ ((Int.tmod (w64 ((w64 (z0 + n)) - 1)) n) < ((List.length left) : Int))))
       (.sub (left[(0 + (Int.toNat (Int.tmod (w64 ((w64 (z0 + n)) - 1)) n)))]?) fun z1 =>
        (.test (decide ((0 ≤ (Int.tmod (w64 ((w64 (z0 + n)) - 1)) n)) ∧ ((Int.tmod (w64 ((w64 (z0 + n)) - 1)) n) < ((List.length left) : Int))))
        (.sub (left[(0 + (Int.toNat (Int.tmod (w64 ((w64 (z0 + n)) - 1)) n)))]?) fun z2 =>
         (.test (decide ((0 ≤ (Int.tmod (w64 (z0 + 1)) n)) ∧ ((Int.tmod (w64 (z0 + 1)) n) < ((List.length left) : Int))))
         (.sub ((List.set left (0 + (Int.toNat (Int.tmod (w64 ((w64 (z0 + n)) - 1)) n))) (w64 (z1 - 1)))[(0 + (Int.toNat (Int.tmod (w64 (z0 + 1)) n)))]?) fun z3 =>
          (.test (decide ((0 ≤ (Int.tmod (w64 (z0 + 1)) n)) ∧ ((Int.tmod (w64 (z0 + 1)) n) < ((List.length left) : Int))))
          (.sub ((List.set left (0 + (Int.toNat (Int.tmod (w64 ((w64 (z0 + n)) - 1)) n))) (w64 (z1 - 1)))[(0 + (Int.toNat (Int.tmod (w64 (z0 + 1)) n)))]?) fun z4 =>
           (.test (decide ((0 ≤ (Int.tmod (w64 ((w64 (z0 + n)) - 1)) n)) ∧ ((Int.tmod (w64 ((w64 (z0 + n)) - 1)) n) < ((List.length names) : Int))))
           (.sub (names[(0 + (Int.toNat (Int.tmod (w64 ((w64 (z0 + n)) - 1)) n)))]?) fun z5 =>
            (.test (decide ((0 ≤ (Int.tmod (w64 (z0 + 1)) n)) ∧ ((Int.tmod (w64 (z0 + 1)) n) < ((List.length names) : Int))))
            (.sub (names[(0 + (Int.toNat (Int.tmod (w64 (z0 + 1)) n)))]?) fun z6 =>
             (.test (decide (1 ≤ (List.length (List.set (List.replicate 1 ((0 : Int), (0 : Int))) 0 ((if (z6 < z5) then z6 else z5), (if (z6 > z5) then z6 else z5))))))
             (.test (decide ((0 + (List.length out)) ≤ (List.length out)))
              (.test (decide ((2 * (((List.length out) + (List.length (win (List.set (List.replicate 1 ((0 : Int), (0 : Int))) 0 ((if (z6 < z5) then z6 else z5), (if (z6 > z5) then z6 else z5))) 0 1))) * 17)) ≤ 140737488355328))
               (.test (decide ((0 = 0) ∧ ((List.length left) = (List.length (List.set (List.set left (0 + (Int.toNat (Int.tmod (w64 ((w64 (z0 + n)) - 1)) n))) (w64 (z1 - 1))) (0 + (Int.toNat (Int.tmod (w64 (z0 + 1)) n))) (w64 (z3 - 1)))))))
                (.sub (slices_Delete_int (((), (z0, (w64 (z0 + 1)))), (List.set (List.set left (0 + (Int.toNat (Int.tmod (w64 ((w64 (z0 + n)) - 1)) n))) (w64 (z1 - 1))) (0 + (Int.toNat (Int.tmod (w64 (z0 + 1)) n))) (w64 (z3 - 1))))) fun z7 =>
                 (.test (decide ((0 = 0) ∧ ((List.length names) = (List.length names))))
                 (.sub (slices_Delete_int (((), (z0, (w64 (z0 + 1)))), names)) fun z8 =>
                  (.test (decide ((0 = 0) ∧ ((List.length z7.2) = (List.length z7.2))))
                  (.test (decide ((0 = 0) ∧ ((List.length z8.2) = (List.length z8.2))))
                   (.test (decide ((0 = 0) ∧ (((List.length out) + (List.length (win (List.set (List.replicate 1 ((0 : Int), (0 : Int))) 0 ((if (z6 < z5) then z6 else z5), (if (z6 > z5) then z6 else z5))) 0 1))) = (List.length ((win out 0 (List.length out)) ++ (win (List.set (List.replicate 1 ((0 : Int), (0 : Int))) 0 ((if (z6 < z5) then z6 else z5), (if (z6 > z5) then z6 else z5))) 0 1))))))
                    (.ret (Sum.inl ((list, ((), ((), ((), (w64 (n - 1)))))), (z7.2, (z8.2, ((win out 0 (List.length out)) ++ (win (List.set (List.replicate 1 ((0 : Int), (0 : Int))) 0 ((if (z6 < z5) then z6 else z5), (if (z6 > z5) then z6 else z5))) 0 1)))))))
                    .fail)
                   .fail)
                  .fail))
                 .fail))
                .fail)
               .fail)
              .fail)
             .fail))
            .fail))
           .fail))
          .fail))
         .fail))
        .fail))
       .fail)
      .fail)
     .fail)))
   .fail)
  (.test (decide ((0 = 0) ∧ ((List.length left) = (List.length left))))
   (.test (decide ((0 = 0) ∧ ((List.length out) = (List.length out))))
    (.ret (Sum.inr (Sum.inr ((list, ((), ())), (left, out)))))
    .fail)
   .fail))
noncomputable def i_triangulation_L10 (v : ((List (Int) × Unit × Unit × Unit × Int) × (List (Int) × List (Int) × List ((Int × Int))))) : Option (((Unit × Bool) × List ((Int × Int))) ⊕ ((List (Int) × Unit × Unit) × (List (Int) × List ((Int × Int))))) := loopO (fun v => (i_triangulation_L10_step v).run) v

def i_triangulation_fo : List FO := [⟨[(.one (.rw 0 0)), (.one .sb)], [(.row 0 (.pair (.int .i64) (.int .i64)))]⟩]
noncomputable def i_triangulation_t : List (Int) → T ((Unit × Bool) × List ((Int × Int))) := fun list =>
  (.sub (i_isPolygon ((List.length list) : Int)) fun z0 =>
  (.test (! z0)
  (.test true
   (.ret (((), false), ([] : List (Int × Int))))
   .fail)
  (.sub (slices_Clone_int list) fun z1 =>
   (.test (decide ((0 = 0) ∧ ((List.length z1.2) = (List.length z1.2))))
   (.test (decide ((0 = 0) ∧ (0 = (List.length (List.replicate 0 (0 : Int))))))
    (.test (decide ((0 = 0) ∧ (0 = (List.length (List.replicate 0 ((0 : Int), (0 : Int)))))))
     (.sub (i_triangulation_L5 ((list, ((), ((), ((), (((List.length list) : Int), (0 : Int)))))), (z1.2, ((List.replicate 0 (0 : Int)), (List.replicate 0 ((0 : Int), (0 : Int))))))) fun z2 =>
      (.test (decide ((0 = 0) ∧ ((List.length z2.2.1) = (List.length z2.2.1))))
      (.test (decide ((0 = 0) ∧ ((List.length z2.2.2.1) = (List.length z2.2.2.1))))
       (.test (decide ((0 = 0) ∧ ((List.length z2.2.2.2) = (List.length z2.2.2.2))))
        (.sub (i_triangulation_L10 ((z2.1.1, ((), ((), ((), ((List.length z2.2.1) : Int))))), (z2.2.1, (z2.2.2.1, z2.2.2.2)))) fun z3 =>
         (.test (Sum.isLeft z3)
         (.sub (Sum.getLeft? z3) fun z4 =>
          (.test (decide ((0 = 0) ∧ ((List.length z4.2) = (List.length z4.2))))
          (.ret (((), z4.1.2), z4.2))
          .fail))
         (.sub (Sum.getRight? z3) fun z5 =>
          (.test (decide ((0 = 0) ∧ ((List.length z5.2.2) = (List.length z5.2.2))))
          (.sub (slices_SortFunc_Diagonal__i_compareDiagonals (((), ()), z5.2.2)) fun z6 =>
           (.test (decide ((0 + (List.length z5.2.1)) ≤ (List.length z5.2.1)))
           (.test true
            (.sub (slices_Equal_int ((win z5.2.1 0 (List.length z5.2.1)), (win (List.set (List.set (List.set (List.replicate 3 (0 : Int)) 0 (1 : Int)) 1 (1 : Int)) 2 (1 : Int)) 0 3))) fun z7 =>
             (.test (! z7)
             (.test true
              (.ret (((), false), ([] : List (Int × Int))))
              .fail)
             (.test (decide ((0 + (List.length z5.2.2)) ≤ (List.length z6.2)))
              (.sub (i_IsTriangulation (((List.length z5.1.1) : Int), (win z6.2 0 (List.length z5.2.2)))) fun z8 =>
               (.test (! z8)
               (.test true
                (.ret (((), false), ([] : List (Int × Int))))
                .fail)
               (.test (decide ((0 + (List.length z5.2.2)) ≤ (List.length z6.2)))
                (.sub (i_quiddity (((List.length z5.1.1) : Int), (win z6.2 0 (List.length z5.2.2)))) fun z9 =>
                 (.test (decide ((0 + (List.length z9.2)) ≤ (List.length z9.2)))
                 (.sub (slices_Equal_int ((win z9.2 0 (List.length z9.2)), z5.1.1)) fun z10 =>
                  (.test (! z10)
                  (.test true
                   (.ret (((), false), ([] : List (Int × Int))))
                   .fail)
                  (.test (decide ((0 = 0) ∧ ((List.length z5.2.2) = (List.length z6.2))))
                   (.ret (((), true), z6.2))
                   .fail)))
                 .fail))
                .fail)))
              .fail)))
            .fail)
           .fail))
          .fail))))
        .fail)
       .fail)
      .fail))
     .fail)
    .fail)
   .fail))))
noncomputable def i_triangulation (v : List (Int)) : Option ((Unit × Bool) × List ((Int × Int))) := (i_triangulation_t v).run
noncomputable def i_triangulation_E : TEnv := ((((((((E0.add1 n_i_isPolygon i_isPolygon_sh i_isPolygon_fo i_isPolygon).add1 n_slices_Clone_int slices_Clone_int_sh slices_Clone_int_fo slices_Clone_int).add1 n_slices_Index_int slices_Index_int_sh slices_Index_int_fo slices_Index_int).add1 n_slices_Delete_int slices_Delete_int_sh slices_Delete_int_fo slices_Delete_int).add1 n_slices_SortFunc_Diagonal slices_SortFunc_Diagonal__i_compareDiagonals_sh slices_SortFunc_Diagonal__i_compareDiagonals_fo slices_SortFunc_Diagonal__i_compareDiagonals).add1 n_slices_Equal_int slices_Equal_int_sh slices_Equal_int_fo slices_Equal_int).add1 n_i_IsTriangulation i_IsTriangulation_sh i_IsTriangulation_fo i_IsTriangulation).add1 n_i_quiddity i_quiddity_sh i_quiddity_fo i_quiddity)
theorem i_triangulation_Eok : (i_triangulation_E).OK := ((((((((E0ok.add1 i_isPolygon_ok).add1 slices_Clone_int_ok).add1 slices_Index_int_ok).add1 slices_Delete_int_ok).add1 slices_SortFunc_Diagonal__i_compareDiagonals_ok).add1 slices_Equal_int_ok).add1 i_IsTriangulation_ok).add1 i_quiddity_ok)
noncomputable def i_triangulation_told : Nat → Option SealT := fun id => if id = 5 then some (LSh.told i_triangulation_L5_sh 0 (i_triangulation_L5_step)) else if id = 10 then some (LSh.told i_triangulation_L10_sh 0 (i_triangulation_L10_step)) else none
theorem i_triangulation_L5_ok : ToldOK Try.prog 0 (loopAt (bodyOf fn_i_triangulation) [0]) (LSh.told i_triangulation_L5_sh 0 (i_triangulation_L5_step)) :=
  loop_ok (E := i_triangulation_E) (i_triangulation_Eok) (told := i_triangulation_told) (l := i_triangulation_L5_sh) (step := i_triangulation_L5_step) (loopsOK_of (ls := []) (by kernel_rfl) trivial) (by kernel_rfl) (fun v => by kernel_rfl)
theorem i_triangulation_L10_ok : ToldOK Try.prog 0 (loopAt (bodyOf fn_i_triangulation) [1]) (LSh.told i_triangulation_L10_sh 0 (i_triangulation_L10_step)) :=
  loop_ok (E := i_triangulation_E) (i_triangulation_Eok) (told := i_triangulation_told) (l := i_triangulation_L10_sh) (step := i_triangulation_L10_step) (loopsOK_of (ls := []) (by kernel_rfl) trivial) (by kernel_rfl) (fun v => by kernel_rfl)
theorem i_triangulation_ok : FOK Try.prog n_i_triangulation i_triangulation_sh i_triangulation_fo i_triangulation :=
  fn_ok (E := i_triangulation_E) (i_triangulation_Eok) (told := i_triangulation_told) (fl := []) (c := bodyOf fn_i_triangulation) (s := i_triangulation_sh) (l := i_triangulation_fo) (tree := i_triangulation_t) fnat_i_triangulation (by kernel_rfl) (by kernel_rfl) (by kernel_rfl) (loopsOK_of (ls := [loopAt (bodyOf fn_i_triangulation) [0], loopAt (bodyOf fn_i_triangulation) [1]]) (by kernel_rfl) ⟨.inr ⟨_, by kernel_rfl, i_triangulation_L5_ok⟩, ⟨.inr ⟨_, by kernel_rfl, i_triangulation_L10_ok⟩, trivial⟩⟩) (fun v => by kernel_rfl)

theorem i_triangulation_names (l left : List Int) (out : List Dg) (hl : l.length < 1000000) : i_triangulation_L5 ((l, ((), ((), ((), ((l.length : Int), (0 : Int)))))), (left, ([], out))) = some ((l, ((), ((), ()))), (left, (nameL l.length, out))) := by
  have key : ∀ m k, k + m = l.length → i_triangulation_L5 ((l, ((), ((), ((), ((l.length : Int), (k : Int)))))), (left, (nameL k, out))) = some ((l, ((), ((), ()))), (left, (nameL l.length, out))) := by
    intro m
    induction m with
    | zero =>
      intro k hk
      have : k = l.length := by omega
      subst this
      simp only [i_triangulation_L5]
      exact loopO_done (by simp [i_triangulation_L5_step, T.run])
    | succ m ih =>
      intro k hk
      have ih := ih (k + 1) (by omega)
      simp only [i_triangulation_L5] at ih ⊢
      rw [← ih]
      refine loopO_next ?_
      have c0 : (k : Int) < (l.length : Int) := by omega
      have w1 : w64 ((k : Int) + 1) = ((k + 1 : Nat) : Int) := by rw [w64_id (by omega) (by omega)]; omega
      have hw : win (nameL k) 0 k = nameL k := by have := win_all (nameL k); rwa [nameL_length] at this
      have c1 : 2 * ((k + 1) * 9) ≤ 140737488355328 := by omega
      have hs : nameL k ++ [(k : Int)] = nameL (k + 1) := (nameL_succ k).symm
      simp only [i_triangulation_L5_step, T.run, c0, decide_true, if_true, win_one, nameL_length, hw, w1, List.length_cons, List.length_nil, c1, hs, Nat.zero_add]
      simp [c1]
  simpa [nameL] using key l.length 0 (by omega)
theorem i_triangulation_cut (list left names : List Int) (out : List Dg) (k i : Nat) (hk : k < 100000) (hl : left.length = k + 4) (hn : names.length = k + 4) (ho : out.length < 100000) (he : ear left = some i) :
    (i_triangulation_L10_step ((list, ((), ((), ((), (left.length : Int))))), (left, (names, out)))).run = some (.inl ((list, ((), ((), ((), ((k + 3 : Nat) : Int))))), (cutL left i, (names.eraseIdx i, out ++ [cutD names i])))) := by
  obtain ⟨hi, _⟩ := ear_lt he
  obtain ⟨n1, n2, n3, n4, n5, n6⟩ := nb_facts (by omega : 3 ≤ left.length) hi
  obtain ⟨t1, t2⟩ := nb_tmod (by omega : 3 ≤ left.length) (by omega) hi
  have hidx := slices_Index_int_eq left 1 (by omega)
  have hii : idxI (fun x => (1 : Int) == x) left = (i : Int) := by unfold idxI; unfold ear at he; rw [he]
  have c0 : (left.length : Int) > 3 := by omega
  have c1 : ¬ ((i : Int) < 0) := by omega
  have c2 : (left.length : Int) ≠ 0 := by omega
  have c3 : (0 : Int) ≤ (nbB left.length i : Int) ∧ (nbB left.length i : Int) < (left.length : Int) := by omega
  have c4 : (0 : Int) ≤ (nbC left.length i : Int) ∧ (nbC left.length i : Int) < (left.length : Int) := by omega
  have c5 : (0 : Int) ≤ (nbB left.length i : Int) ∧ (nbB left.length i : Int) < (names.length : Int) := by omega
  have c6 : (0 : Int) ≤ (nbC left.length i : Int) ∧ (nbC left.length i : Int) < (names.length : Int) := by omega
  have g1 := set_getD n1
  have g2 : (left.set (nbB left.length i) (w64 (left.getD (nbB left.length i) 0 - 1)))[nbC left.length i]? = some ((decAt left (nbB left.length i)).getD (nbC left.length i) 0) := set_getD (by simpa using n2)
  have g3 := set_getD (l := names) (p := nbB left.length i) (by omega)
  have g4 := set_getD (l := names) (p := nbC left.length i) (by omega)
  have w1 : w64 ((i : Int) + 1) = ((i + 1 : Nat) : Int) := by rw [w64_id (by omega) (by omega)]; omega
  rw [w1] at t2
  have w2 : w64 ((left.length : Int) - 1) = ((k + 3 : Nat) : Int) := by rw [w64_id (by omega) (by omega)]; omega
  have hD : ∀ a b : Int, ((if b < a then b else a), (if b > a then b else a)) = (min a b, max a b) := by
    intro a b
    rw [Prod.mk.injEq]
    constructor <;> split <;> omega
  have hD' : (min (names.getD (nbB left.length i) 0) (names.getD (nbC left.length i) 0), max (names.getD (nbB left.length i) 0) (names.getD (nbC left.length i) 0)) = cutD names i := by unfold cutD; rw [hl, hn]
  have hd1 : slices_Delete_int (((), ((i : Int), ((i + 1 : Nat) : Int))), decAt (decAt left (nbB left.length i)) (nbC left.length i)) = some ((), cutL left i) := by
    unfold slices_Delete_int
    rw [if_pos ⟨by simp only []; omega, by simp only []; omega, by simp only [decAt_length]; omega, by simp only [decAt_length]; omega⟩]
    simp only [Int.toNat_natCast, take_drop_erase]
    rfl
  have hd2 : slices_Delete_int (((), ((i : Int), ((i + 1 : Nat) : Int))), names) = some ((), names.eraseIdx i) := by
    unfold slices_Delete_int
    rw [if_pos ⟨by simp only []; omega, by simp only []; omega, by simp only []; omega, by simp only []; omega⟩]
    simp only [Int.toNat_natCast, take_drop_erase]
  have c7 : 2 * ((out.length + 1) * 17) ≤ 140737488355328 := by omega
  have l1 : left.length = (decAt (decAt left (nbB left.length i)) (nbC left.length i)).length := by rw [decAt_length, decAt_length]
  have e1 : left.set (nbB left.length i) (w64 (left.getD (nbB left.length i) 0 - 1)) = decAt left (nbB left.length i) := rfl
  have e2 : (decAt left (nbB left.length i)).set (nbC left.length i) (w64 ((decAt left (nbB left.length i)).getD (nbC left.length i) 0 - 1)) = decAt (decAt left (nbB left.length i)) (nbC left.length i) := rfl
  rw [e1] at g2
  simp only [i_triangulation_L10_step, T.run, c0, decide_true, if_true, Nat.zero_add, Nat.le_refl, win_all, hidx, hii, Option.bind_some, c1, decide_false, Bool.false_eq_true, if_false, c2, ne_eq, not_false_eq_true, t1, t2, c3, c4, c5, c6, and_self, Int.toNat_natCast, g1, e1, g2, g3, g4, e2, hD, hD', win_one, w1, w2, hd1, hd2, ← l1]
  simp [c7]
theorem i_triangulation_cuts (list : List Int) : ∀ (k : Nat) (left names : List Int) (out : List Dg), k < 1000 → left.length = k + 3 → names.length = k + 3 → out.length + k < 10000 →
    i_triangulation_L10 ((list, ((), ((), ((), (left.length : Int))))), (left, (names, out))) = some (match triW k left names with
      | none => .inl (((), false), [])
      | some r => .inr ((list, ((), ())), (r.1, out ++ r.2)))
  | 0, left, names, out, hk, hl, hn, ho => by
    simp only [i_triangulation_L10, triW]
    refine loopO_done ?_
    have c0 : ¬ ((left.length : Int) > 3) := by omega
    simp [i_triangulation_L10_step, T.run, c0]
  | k + 1, left, names, out, hk, hl, hn, ho => by
    cases he : ear left with
    | none =>
      have hidx := slices_Index_int_eq left 1 (by omega)
      have hii : idxI (fun x => (1 : Int) == x) left = -1 := by unfold idxI; unfold ear at he; rw [he]
      have c0 : (left.length : Int) > 3 := by omega
      simp only [i_triangulation_L10, triW, he]
      refine loopO_done ?_
      simp only [i_triangulation_L10_step, T.run, c0, decide_true, if_true, Nat.zero_add, Nat.le_refl, win_all, hidx, hii, Option.bind_some]
      simp
    | some i =>
      have st := i_triangulation_cut list left names out k i (by omega) (by omega) (by omega) (by omega) he
      have hlc := cutL_length (ear_lt he).1
      have ih := i_triangulation_cuts list k (cutL left i) (names.eraseIdx i) (out ++ [cutD names i]) (by omega) (by omega) (by rw [List.length_eraseIdx, if_pos (by have := (ear_lt he).1; omega)]; omega) (by simp; omega)
      rw [show (cutL left i).length = k + 3 by omega] at ih
      simp only [i_triangulation_L10, triW, he] at ih ⊢
      rw [loopO_next st, ih]
      cases triW k (cutL left i) (names.eraseIdx i) with
      | none => rfl
      | some r => simp
theorem i_triangulation_eq (l : List Int) (hl : l.length < 4611686018427387904) : i_triangulation l = some (match trOf l with | some ds => (((), true), ds) | none => (((), false), [])) := by
  simp only [i_triangulation, i_triangulation_t, T.run, i_isPolygon, i_isPolygon_t, i_within_eq, Option.bind_some]
  cases hn : inB 3 12 (l.length : Int) with
  | false => simp [trOf, hn]
  | true =>
    have hn' := inB_iff.1 hn
    have hc : slices_Clone_int l = some ((), l) := by
      unfold slices_Clone_int
      rw [if_pos]
      exact ⟨by unfold maxLen; omega, by omega⟩
    have h5 := i_triangulation_names l l [] (by omega)
    have h10 := i_triangulation_cuts l (l.length - 3) l (nameL l.length) [] (by omega) (by omega) (by rw [nameL_length]; omega) (by simp; omega)
    have htri := tri_W (l.length - 3) l (nameL l.length)
    simp only [Bool.not_true, Bool.false_eq_true, if_false, hc, Option.bind_some, List.replicate_zero, List.length_nil, true_and, decide_true, if_true, h5, h10]
    unfold trOf
    rw [hn, htri]
    cases hW : triW (l.length - 3) l (nameL l.length) with
    | none => simp
    | some r =>
      obtain ⟨l3, ds⟩ := r
      obtain ⟨g1, g2⟩ := triW_len _ _ _ _ (by omega) hW
      simp only at g1 g2
      have hs := slices_SortFunc_Diagonal__i_compareDiagonals_eq ds (by omega)
      have hls := sortD_length ds
      have hw3 : win (List.set (List.set (List.set (List.replicate 3 (0 : Int)) 0 (1 : Int)) 1 (1 : Int)) 2 (1 : Int)) 0 3 = [1, 1, 1] := rfl
      have heq := slices_Equal_int_eq l3 [1, 1, 1] (by omega)
      have hws : win (sortD ds) 0 ds.length = sortD ds := by rw [← hls]; exact win_all _
      simp only [if_true, Sum.isLeft, Sum.getRight?, Option.bind_some, Bool.false_eq_true, if_false, List.nil_append, hs, Nat.zero_add, Nat.le_refl, decide_true, win_all, hw3, heq, hls, hws, true_and]
      by_cases h3 : l3 = [1, 1, 1]
      · have hT : tri (l.length - 3) l (nameL l.length) = some ds := by rw [htri, hW]; simp [h3]
        obtain ⟨q1, q2⟩ := tri_good _ _ _ _ (nameL_sorted _) (by omega) (by rw [nameL_length]; omega) hT
        have hti := good_isTri (n := l.length) ⟨by omega, by omega⟩ (fun m hm => nameL_mem hm) q2 (by omega)
        have hit := i_IsTriangulation_eq (l.length : Int) (sortD ds) (by omega)
        rw [hti] at hit
        have hqd := i_quiddity_eq l.length (sortD ds) ⟨by omega, by omega⟩ (by omega) (fun d hd => by
          obtain ⟨a1, a2, a3, _⟩ := q2.1 d ((sortD_perm ds).mem_iff.1 hd)
          have := nameL_mem a1
          have := nameL_mem a2
          omega)
        have hqs : quid l.length (sortD ds) = quid l.length ds := by
          unfold quid
          exact List.map_congr_left fun p _ => by rw [cnt_perm (sortD_perm ds)]
        have hqe := slices_Equal_int_eq (quid l.length ds) l (by simp [quid]; omega)
        simp only [h3, decide_true, Bool.not_true, Bool.false_eq_true, if_false, hit, Option.bind_some, hqd, hqs, win_all, hqe, Nat.le_refl, if_true]
        by_cases hq : quid l.length ds = l <;> simp [hq]
      · simp [h3]


def i_IsQuiddity_sh : FSh := ⟨[(.one (.sl (.int .i64) false false))], []⟩

def i_IsQuiddity_fo : List FO := [⟨[(.one .sb)], []⟩]
noncomputable def i_IsQuiddity_t : List (Int) → T Bool := fun quiddity =>
  (.sub (i_triangulation quiddity) fun z0 =>
  (.ret z0.1.2))
noncomputable def i_IsQuiddity (v : List (Int)) : Option Bool := (i_IsQuiddity_t v).run
noncomputable def i_IsQuiddity_E : TEnv := (E0.add1 n_i_triangulation i_triangulation_sh i_triangulation_fo i_triangulation)
theorem i_IsQuiddity_Eok : (i_IsQuiddity_E).OK := (E0ok.add1 i_triangulation_ok)
noncomputable def i_IsQuiddity_told : Nat → Option SealT := fun id => none
theorem i_IsQuiddity_ok : FOK Try.prog n_i_IsQuiddity i_IsQuiddity_sh i_IsQuiddity_fo i_IsQuiddity :=
  fn_ok (E := i_IsQuiddity_E) (i_IsQuiddity_Eok) (told := i_IsQuiddity_told) (fl := []) (c := bodyOf fn_i_IsQuiddity) (s := i_IsQuiddity_sh) (l := i_IsQuiddity_fo) (tree := i_IsQuiddity_t) fnat_i_IsQuiddity (by kernel_rfl) (by kernel_rfl) (by kernel_rfl) (loopsOK_of (ls := []) (by kernel_rfl) trivial) (fun v => by kernel_rfl)

theorem i_IsQuiddity_eq (l : List Int) (hl : l.length < 4611686018427387904) : i_IsQuiddity l = some (trOf l).isSome := by
  simp only [i_IsQuiddity, i_IsQuiddity_t, T.run, i_triangulation_eq l hl, Option.bind_some]
  cases trOf l <;> rfl


def l_dSum_sh : FSh := ⟨[(.one (.sl (.int .i64) false false))], []⟩

def l_dSum_L3_sh : LSh := ⟨(fun ex => match ex with | .norm => [(3, none), (6, none), (7, none), (8, none)] | .exit i => if i = 0 then [(3, none)] else [] | .ret => [(2, none)]), [(3, (.one (.si .i64))), (6, (.one (.sl (.int .i64) false false))), (7, (.one (.si .i64))), (8, (.one (.si .i64)))], [], [⟨(.exit 0), [(3, (.one (.si .i64)))], []⟩], [], []⟩
noncomputable def l_dSum_L3_step : (Int × List (Int) × Int × Int) → T ((Int × List (Int) × Int × Int) ⊕ Int) := fun (sum, t6, t7, t8) =>
  (.test (decide (t8 < t7))
  (.test (decide ((0 ≤ t8) ∧ (t8 < ((List.length t6) : Int))))
   (.sub (t6[(Int.toNat t8)]?) fun z0 =>
    (.ret (Sum.inl ((w64 (sum + z0)), (t6, (t7, (w64 (t8 + 1))))))))
   .fail)
  (.ret (Sum.inr sum)))
noncomputable def l_dSum_L3 (v : (Int × List (Int) × Int × Int)) : Option Int := loopO (fun v => (l_dSum_L3_step v).run) v

def l_dSum_fo : List FO := [⟨[(.one (.si .i64))], []⟩]
noncomputable def l_dSum_t : List (Int) → T Int := fun list =>
  (.sub (l_dSum_L3 ((0 : Int), (list, (((List.length list) : Int), (0 : Int))))) fun z0 =>
  (.ret z0))
noncomputable def l_dSum (v : List (Int)) : Option Int := (l_dSum_t v).run
noncomputable def l_dSum_E : TEnv := E0
theorem l_dSum_Eok : (l_dSum_E).OK := E0ok
noncomputable def l_dSum_told : Nat → Option SealT := fun id => if id = 3 then some (LSh.told l_dSum_L3_sh 0 (l_dSum_L3_step)) else none
theorem l_dSum_L3_ok : ToldOK Try.prog 0 (loopAt (bodyOf fn_l_dSum) [0]) (LSh.told l_dSum_L3_sh 0 (l_dSum_L3_step)) :=
  loop_ok (E := l_dSum_E) (l_dSum_Eok) (told := l_dSum_told) (l := l_dSum_L3_sh) (step := l_dSum_L3_step) (loopsOK_of (ls := []) (by kernel_rfl) trivial) (by kernel_rfl) (fun v => by kernel_rfl)
theorem l_dSum_ok : FOK Try.prog n_l_dSum l_dSum_sh l_dSum_fo l_dSum :=
  fn_ok (E := l_dSum_E) (l_dSum_Eok) (told := l_dSum_told) (fl := []) (c := bodyOf fn_l_dSum) (s := l_dSum_sh) (l := l_dSum_fo) (tree := l_dSum_t) fnat_l_dSum (by kernel_rfl) (by kernel_rfl) (by kernel_rfl) (loopsOK_of (ls := [loopAt (bodyOf fn_l_dSum) [0]]) (by kernel_rfl) ⟨.inr ⟨_, by kernel_rfl, l_dSum_L3_ok⟩, trivial⟩) (fun v => by kernel_rfl)

theorem l_dSum_fold : ∀ (l : List Int) (a : Int), l.foldl (fun p x => p + x) a = a + l.sum
  | [], a => by simp
  | x :: l, a => by rw [List.foldl_cons, l_dSum_fold l, List.sum_cons, Int.add_assoc]
theorem l_dSum_eq (l : List Int) (h : isTerms l = true) : l_dSum l = some l.sum := by
  obtain ⟨h10, h30⟩ := isTerms_iff.1 h
  have h := loop_fold (step := fun v => (l_dSum_L3_step v).run) (xs := l) (fun k (p : Int) => -30 * (k : Int) ≤ p ∧ p ≤ 30 * (k : Int)) (fun k p => (p, (l, ((l.length : Int), (k : Int))))) (fun p x => p + x) (fun p => p)
    (fun k p x hP hx => by
      have hk := getElem?_lt hx
      have hb := h30 x (List.mem_of_getElem? hx)
      have w1 : w64 (p + x) = p + x := w64_id (by omega) (by omega)
      have w2 : w64 ((k : Int) + 1) = ((k + 1 : Nat) : Int) := by rw [w64_id (by omega) (by omega)]; omega
      have c0 : (k : Int) < (l.length : Int) := by omega
      have c1 : (0 : Int) ≤ (k : Int) ∧ (k : Int) < (l.length : Int) := by omega
      refine ⟨?_, by omega, by omega⟩
      rw [l_dSum_L3_step, T.run_test, if_pos (decide_eq_true c0), T.run_test, if_pos (decide_eq_true c1), T.run_sub, Int.toNat_natCast, hx, Option.bind_some, T.run_ret, w1, w2])
    (fun s hP => by rw [l_dSum_L3_step, T.run_test, if_neg (by simp), T.run_ret]) 0 (by omega)
  simp only [Int.natCast_zero] at h
  rw [l_dSum, l_dSum_t, T.run_sub, l_dSum_L3, h.1, Option.bind_some, T.run_ret, l_dSum_fold, Int.zero_add]


def l_dBack_sh : FSh := ⟨[(.one (.sl (.int .i64) false false))], []⟩

def l_dBack_L3_sh : LSh := ⟨(fun ex => match ex with | .norm => [(0, none), (3, none), (4, none)] | .exit i => if i = 0 then [(3, none)] else [] | .ret => [(2, none)]), [(0, (.one (.sl (.int .i64) false false))), (3, (.one (.rw 0 0))), (4, (.one (.si .i64)))], [(.row 0 (.int .i64))], [⟨(.exit 0), [(3, (.one (.rw 0 0)))], [(.row 0 (.int .i64))]⟩], [], []⟩
noncomputable def l_dBack_L3_step : ((List (Int) × Unit × Int) × List (Int)) → T (((List (Int) × Unit × Int) × List (Int)) ⊕ (Unit × List (Int))) := fun ((list, (), i), out) =>
  (.test (decide (i ≥ 0))
  (.test (decide ((0 ≤ i) ∧ (i < ((List.length list) : Int))))
   (.sub (list[(Int.toNat i)]?) fun z0 =>
    (.test (decide (1 ≤ (List.length (List.set (List.replicate 1 (0 : Int)) 0 z0))))
    (.test (decide ((0 + (List.length out)) ≤ (List.length out)))
     (.test (decide ((2 * (((List.length out) + (List.length (win (List.set (List.replicate 1 (0 : Int)) 0 z0) 0 1))) * 9)) ≤ 140737488355328))
      (.test (decide ((0 = 0) ∧ (((List.length out) + (List.length (win (List.set (List.replicate 1 (0 : Int)) 0 z0) 0 1))) = (List.length ((win out 0 (List.length out)) ++ (win (List.set (List.replicate 1 (0 : Int)) 0 z0) 0 1))))))
       (.ret (Sum.inl ((list, ((), (w64 (i - 1)))), ((win out 0 (List.length out)) ++ (win (List.set (List.replicate 1 (0 : Int)) 0 z0) 0 1)))))
       .fail)
      .fail)
     .fail)
    .fail))
   .fail)
  (.test (decide ((0 = 0) ∧ ((List.length out) = (List.length out))))
   (.ret (Sum.inr ((), out)))
   .fail))
noncomputable def l_dBack_L3 (v : ((List (Int) × Unit × Int) × List (Int))) : Option (Unit × List (Int)) := loopO (fun v => (l_dBack_L3_step v).run) v

def l_dBack_fo : List FO := [⟨[(.one (.rw 0 0))], [(.row 0 (.int .i64))]⟩]
noncomputable def l_dBack_t : List (Int) → T (Unit × List (Int)) := fun list =>
  (.test true
  (.sub (l_dBack_L3 ((list, ((), (w64 (((List.length list) : Int) - 1)))), ([] : List (Int)))) fun z0 =>
   (.test (decide ((0 = 0) ∧ ((List.length z0.2) = (List.length z0.2))))
   (.ret ((), z0.2))
   .fail))
  .fail)
noncomputable def l_dBack (v : List (Int)) : Option (Unit × List (Int)) := (l_dBack_t v).run
noncomputable def l_dBack_E : TEnv := E0
theorem l_dBack_Eok : (l_dBack_E).OK := E0ok
noncomputable def l_dBack_told : Nat → Option SealT := fun id => if id = 3 then some (LSh.told l_dBack_L3_sh 0 (l_dBack_L3_step)) else none
theorem l_dBack_L3_ok : ToldOK Try.prog 0 (loopAt (bodyOf fn_l_dBack) [0]) (LSh.told l_dBack_L3_sh 0 (l_dBack_L3_step)) :=
  loop_ok (E := l_dBack_E) (l_dBack_Eok) (told := l_dBack_told) (l := l_dBack_L3_sh) (step := l_dBack_L3_step) (loopsOK_of (ls := []) (by kernel_rfl) trivial) (by kernel_rfl) (fun v => by kernel_rfl)
theorem l_dBack_ok : FOK Try.prog n_l_dBack l_dBack_sh l_dBack_fo l_dBack :=
  fn_ok (E := l_dBack_E) (l_dBack_Eok) (told := l_dBack_told) (fl := []) (c := bodyOf fn_l_dBack) (s := l_dBack_sh) (l := l_dBack_fo) (tree := l_dBack_t) fnat_l_dBack (by kernel_rfl) (by kernel_rfl) (by kernel_rfl) (loopsOK_of (ls := [loopAt (bodyOf fn_l_dBack) [0]]) (by kernel_rfl) ⟨.inr ⟨_, by kernel_rfl, l_dBack_L3_ok⟩, trivial⟩) (fun v => by kernel_rfl)

theorem l_dBack_loop (l : List Int) (hl : l.length ≤ 10) : ∀ (k : Nat) (out : List Int), k ≤ l.length → out.length + k ≤ 10 → l_dBack_L3 ((l, ((), ((k : Int) - 1))), out) = some ((), out ++ (l.take k).reverse) := by
  intro k
  induction k with
  | zero =>
    intro out _ _
    simp only [l_dBack_L3]
    refine loopO_done ?_
    rw [l_dBack_L3_step, T.run_test, if_neg (by simp), T.run_test, if_pos (by simp), T.run_ret]
    simp
  | succ k ih =>
    intro out hk ho
    have w0 : ((k + 1 : Nat) : Int) - 1 = (k : Int) := by omega
    have w1 : w64 ((k : Int) - 1) = (k : Int) - 1 := w64_id (by omega) (by omega)
    have hg : l[k]? = some (l[k]'(by omega)) := List.getElem?_eq_getElem _
    have := ih (out ++ [l[k]'(by omega)]) (by omega) (by rw [List.length_append, List.length_singleton]; omega)
    simp only [l_dBack_L3] at this ⊢
    have c0 : (0 : Int) ≤ (k : Int) ∧ (k : Int) < (l.length : Int) := by omega
    rw [w0, loopO_next (v' := ((l, ((), ((k : Int) - 1))), out ++ [l[k]'(by omega)]))]
    · rw [this, List.take_add_one, hg, List.reverse_append, List.append_assoc]
      rfl
    · rw [l_dBack_L3_step, T.run_test, if_pos (by simp), T.run_test, if_pos (decide_eq_true c0), T.run_sub, Int.toNat_natCast, hg, Option.bind_some, T.run_test, if_pos (by simp), T.run_test, if_pos (by simp), T.run_test, win_one, if_pos (decide_eq_true (by rw [List.length_singleton]; omega)), T.run_test, if_pos (by rw [win_all]; simp), T.run_ret, win_all, w1]
theorem l_dBack_eq (l : List Int) (hl : l.length ≤ 10) : l_dBack l = some ((), l.reverse) := by
  have h := l_dBack_loop l hl l.length [] (Nat.le_refl _) (by simpa using hl)
  have w1 : w64 ((l.length : Int) - 1) = (l.length : Int) - 1 := w64_id (by omega) (by omega)
  rw [l_dBack, l_dBack_t, T.run_test, if_pos rfl, T.run_sub, w1, h, Option.bind_some, T.run_test, if_pos (by simp), T.run_ret]
  simp



/-- The continuant from the front, and that of all but the first. -/
def kr (s : Int) : List Int → Int
  | [] => 1
  | [a] => a
  | a :: b :: l => a * kr s (b :: l) + s * kr s l
def kt (s : Int) : List Int → Int
  | [] => 0
  | _ :: l => kr s l
theorem kr_cons (s a : Int) (l : List Int) : kr s (a :: l) = a * kr s l + s * kt s l := by
  cases l with
  | nil => simp [kr, kt]
  | cons b l => rfl
theorem kt_cons (s a : Int) (l : List Int) : kt s (a :: l) = kr s l := rfl
theorem kr_fold (s : Int) : ∀ (l : List Int) (b o : Int), (l.foldl (cf s) (b, o)).2 = o * kr s l + s * b * kt s l
  | [], b, o => by simp [kr, kt]
  | a :: l, b, o => by
    rw [List.foldl_cons]
    show (l.foldl (cf s) (o, a * o + s * b)).2 = _
    rw [kr_fold s l, kr_cons, kt_cons]
    grind
theorem cont_kr (s : Int) (l : List Int) : cont s l = kr s l := by
  unfold cont cont2
  rw [kr_fold]
  simp
theorem cf_take (p : Int × Int) (x y : Int) : [x, 1, y].foldl (cf (-1)) p = [x - 1, y - 1].foldl (cf (-1)) p := by
  simp only [List.foldl_cons, List.foldl_nil, cf]
  congr 1 <;> grind
theorem cont_take (L R : List Int) (x y : Int) : cont (-1) (L ++ x :: 1 :: y :: R) = cont (-1) (L ++ (x - 1) :: (y - 1) :: R) := by
  unfold cont cont2
  rw [show L ++ x :: 1 :: y :: R = L ++ ([x, 1, y] ++ R) by simp, show L ++ (x - 1) :: (y - 1) :: R = L ++ ([x - 1, y - 1] ++ R) by simp]
  simp only [List.foldl_append]
  rw [cf_take]
theorem cont_put (L R : List Int) (x y : Int) : cont (-1) (L ++ (x + 1) :: 1 :: (y + 1) :: R) = cont (-1) (L ++ x :: y :: R) := by
  rw [cont_take, Int.add_sub_cancel, Int.add_sub_cancel]
/-- How great they get. -/
theorem kr_B {s : Int} (hs : s = 1 ∨ s = -1) : ∀ l : List Int, (∀ x ∈ l, -30 ≤ x ∧ x ≤ 30) → (-pw l.length ≤ kr s l ∧ kr s l ≤ pw l.length) ∧ -pw l.length ≤ kt s l ∧ kt s l ≤ pw l.length
  | [], _ => by simp [kr, kt, pw]
  | a :: l, h => by
    obtain ⟨⟨h1, h2⟩, h3, h4⟩ := kr_B hs l fun x hx => h x (List.mem_cons_of_mem _ hx)
    have ha := h a (by simp)
    have hp := pw_pos l.length
    have hm := mul_le ha.1 ha.2 h1 h2
    rw [kr_cons, kt_cons, List.length_cons, pw_succ]
    rcases hs with rfl | rfl <;> omega
theorem kr_two : ∀ l : List Int, (∀ x ∈ l, 2 ≤ x) → kt (-1) l < kr (-1) l ∧ 0 ≤ kt (-1) l
  | [], _ => by simp [kr, kt]
  | a :: l, h => by
    obtain ⟨h1, h2⟩ := kr_two l fun x hx => h x (List.mem_cons_of_mem _ hx)
    have ha := h a (by simp)
    have hm : 2 * kr (-1) l ≤ a * kr (-1) l := Int.mul_le_mul_of_nonneg_right ha (by omega)
    rw [kr_cons, kt_cons]
    omega
theorem kr_one : ∀ l : List Int, (∀ x ∈ l, 1 ≤ x) → 1 ≤ kr 1 l ∧ 0 ≤ kt 1 l
  | [], _ => by simp [kr, kt]
  | a :: l, h => by
    obtain ⟨h1, h2⟩ := kr_one l fun x hx => h x (List.mem_cons_of_mem _ hx)
    have ha := h a (by simp)
    have hm : 1 * kr 1 l ≤ a * kr 1 l := Int.mul_le_mul_of_nonneg_right ha (by omega)
    rw [kr_cons, kt_cons]
    omega
/-- No common divisor. -/
def cop (a b : Int) : Prop := ∀ d : Int, 0 < d → d ∣ a → d ∣ b → d = 1
theorem cop_of_gcd {a b : Int} (ha : 0 ≤ a) (hb : 0 ≤ b) (h : Nat.gcd a.toNat b.toNat = 1) : cop a b := by
  intro d hd h1 h2
  obtain ⟨m, rfl⟩ := Int.eq_ofNat_of_zero_le ha
  obtain ⟨n, rfl⟩ := Int.eq_ofNat_of_zero_le hb
  obtain ⟨k, rfl⟩ := Int.eq_ofNat_of_zero_le (Int.le_of_lt hd)
  rw [Int.toNat_natCast, Int.toNat_natCast] at h
  have := Nat.dvd_gcd (Int.natCast_dvd_natCast.1 h1) (Int.natCast_dvd_natCast.1 h2)
  rw [h, Nat.dvd_one] at this
  omega
theorem cop_step {a b q : Int} (h : cop a b) : cop b (q * b - a) := by
  intro d hd h1 h2
  refine h d hd ?_ h1
  have : a = q * b - (q * b - a) := by omega
  rw [this]
  exact Int.dvd_sub (Int.dvd_mul_of_dvd_right h1) h2
theorem cop_mod {a b q : Int} (h : cop a b) : cop b (a - q * b) := by
  intro d hd h1 h2
  refine h d hd ?_ h1
  have : a = q * b + (a - q * b) := by omega
  rw [this]
  exact Int.dvd_add (Int.dvd_mul_of_dvd_right h1) h2
theorem cop_comm {a b : Int} (h : cop a b) : cop b a := fun d hd h1 h2 => h d hd h2 h1
theorem kr_cop (s : Int) (hs : s = 1 ∨ s = -1) : ∀ l : List Int, l ≠ [] → cop (kr s l) (kt s l)
  | [], h => absurd rfl h
  | [a], _ => fun d hd h1 h2 => by
    simp only [kt, kr] at h2
    exact Int.eq_one_of_dvd_one (Int.le_of_lt hd) h2
  | a :: b :: l, _ => by
    have ih := kr_cop s hs (b :: l) (by simp)
    intro d hd h1 h2
    rw [kt_cons] at h2
    refine ih d hd h2 ?_
    rw [kr_cons] at h1
    have h3 : d ∣ a * kr s (b :: l) := Int.dvd_mul_of_dvd_right h2
    have h4 : d ∣ s * kt s (b :: l) := by
      have e : s * kt s (b :: l) = (a * kr s (b :: l) + s * kt s (b :: l)) - a * kr s (b :: l) := by omega
      rw [e]
      exact Int.dvd_sub h1 h3
    rcases hs with rfl | rfl
    · rwa [Int.one_mul] at h4
    · rw [Int.neg_mul, Int.one_mul] at h4
      exact Int.dvd_neg.1 h4
theorem den_one {num den q : Int} (hd : 0 < den) (h : cop num den) (e : q * den = num) : den = 1 := h den hd ⟨q, by rw [← e, Int.mul_comm]⟩ (Int.dvd_refl _)
/-- What the terms of a minus fraction are. -/
structure MinusOf (num den : Int) (l : List Int) : Prop where
  ne : l ≠ []
  k : kr (-1) l = num
  t : kt (-1) l = den
  two : ∀ x ∈ l.tail, 2 ≤ x
  one : ∀ x ∈ l.head?, 1 ≤ x
  far : den < num → ∀ x ∈ l.head?, 2 ≤ x
theorem upQ_two {num den : Int} (h1 : 1 ≤ den) (h : den < num) : 2 ≤ upQ num den := by
  unfold upQ
  exact Int.le_ediv_of_mul_le (by omega) (by omega)
theorem upQ_one {num den : Int} (h1 : 1 ≤ den) (h : 1 ≤ num) : 1 ≤ upQ num den := by
  unfold upQ
  exact Int.le_ediv_of_mul_le (by omega) (by omega)
theorem MinusOf.last {num den : Int} (h1 : 1 ≤ num) (h2 : 1 ≤ den) (hc : cop num den) (e : upQ num den * den = num) : MinusOf num den [upQ num den] := by
  have hd := den_one (by omega) hc e
  subst hd
  rw [Int.mul_one] at e
  exact ⟨by simp, by simp [kr, e], by simp [kt, kr], by simp, fun x hx => by simp at hx; subst hx; omega, fun hl x hx => by simp at hx; subst hx; omega⟩
theorem MinusOf.cons {num den : Int} {l : List Int} (h1 : 1 ≤ num) (h2 : 1 ≤ den) (hr : upQ num den * den - num < den) (h : MinusOf den (upQ num den * den - num) l) : MinusOf num den (upQ num den :: l) := by
  refine ⟨by simp, by rw [kr_cons, h.k, h.t]; omega, by rw [kt_cons, h.k], fun x hx => ?_, fun x hx => ?_, fun hl x hx => ?_⟩
  · cases l with
    | nil => exact absurd rfl h.ne
    | cons b l =>
      simp only [List.tail_cons, List.mem_cons] at hx
      rcases hx with rfl | hx
      · exact h.far hr x rfl
      · exact h.two x hx
  · simp at hx; subst hx; exact upQ_one h2 h1
  · simp at hx; subst hx; exact upQ_two h2 hl
/-- What the terms of a plus fraction are. -/
structure PlusOf (num den : Int) (l : List Int) : Prop where
  ne : l ≠ []
  k : kr 1 l = num
  t : kt 1 l = den
  pos : den ≤ num → ∀ x ∈ l, 1 ≤ x
  far : den < num → ∀ x ∈ l.getLast?, 2 ≤ x
theorem PlusOf.last {num den q : Int} (h2 : 1 ≤ den) (hc : cop num den) (e : q * den = num) : PlusOf num den [q] := by
  have hd := den_one (by omega) hc e
  subst hd
  rw [Int.mul_one] at e
  subst e
  exact ⟨by simp, by simp [kr], by simp [kt, kr], fun h x hx => by simp at hx; omega, fun hl x hx => by simp at hx; omega⟩
theorem PlusOf.cons {num den q r : Int} {l : List Int} (h2 : 1 ≤ den) (hr0 : 0 < r) (hr : r < den) (e : q * den + r = num) (h : PlusOf den r l) : PlusOf num den (q :: l) := by
  refine ⟨by simp, by rw [kr_cons, h.k, h.t]; omega, by rw [kt_cons, h.k], fun hl x hx => ?_, fun hl x hx => ?_⟩
  · simp only [List.mem_cons] at hx
    rcases hx with rfl | hx
    · refine Int.not_lt.1 fun hq => ?_
      have : x * den ≤ 0 * den := Int.mul_le_mul_of_nonneg_right (by omega) (by omega)
      omega
    · exact h.pos (by omega) x hx
  · cases l with
    | nil => exact absurd rfl h.ne
    | cons b l =>
      rw [List.getLast?_cons_cons] at hx
      exact h.far hr x hx



theorem PutOne_val (l : List Int) (at' : Int) (hl : l.length < 4611686018427387904) (r : Bool × List Int) (h : i_PutOne (l, at') = some (((), r.1), r.2)) (hr : r.1 = true) :
    ∃ L x y R, l = L ++ x :: y :: R ∧ at' = (L.length : Int) + 1 ∧ isTerms l = true ∧ isTerms r.2 = true ∧ r.2 = L ++ (x + 1) :: 1 :: (y + 1) :: R := by
  have no : i_PutOne (l, at') = some (((), false), []) → False := fun h2 => by
    rw [h] at h2
    simp at h2
    rw [h2.1] at hr
    cases hr
  cases ht : isTerms l with
  | false => exact (no (by simp only [i_PutOne, i_PutOne_t, T.run, i_IsTermList_eq l hl, ht, Option.bind_some]; simp)).elim
  | true =>
    have ht' := isTerms_iff.1 ht
    have w1 : w64 ((l.length : Int) - 1) = (l.length : Int) - 1 := w64_id (by omega) (by omega)
    cases ha : inB 1 ((l.length : Int) - 1) at' with
    | false => exact (no (by simp only [i_PutOne, i_PutOne_t, T.run, i_IsTermList_eq l hl, i_within_eq, w1, ht, ha, Option.bind_some]; simp)).elim
    | true =>
      rw [inB_iff] at ha
      obtain ⟨k, rfl⟩ : ∃ k : Nat, at' = (k : Int) + 1 := ⟨(at' - 1).toNat, by omega⟩
      obtain ⟨L, x, y, R, rfl, hk⟩ := at_split1 l k (by omega)
      subst hk
      have hx := ht'.2 x (by simp)
      have hy := ht'.2 y (by simp)
      have hlen : (L ++ x :: y :: R).length = L.length + R.length + 2 := by simp; omega
      have hp := put_i L R x y (by omega) (by omega) (by omega) ht
      cases hr2 : isTerms (L ++ (x + 1) :: 1 :: (y + 1) :: R) with
      | false => rw [hr2, if_neg (by simp)] at hp; exact (no hp).elim
      | true =>
        rw [hr2, if_pos rfl, h] at hp
        simp only [Option.some.injEq, Prod.mk.injEq] at hp
        refine ⟨L, x, y, R, rfl, rfl, rfl, ?_, hp.2⟩
        rw [hp.2]; exact hr2
theorem continuant_val (l : List Int) (sign : Int) (hs : sign = 1 ∨ sign = -1) (h : isTerms l = true) : i_continuant (l, sign) = some (cont sign l) := by
  rw [isTerms_iff] at h
  obtain ⟨hl, ht⟩ := h
  have h := loop_fold (step := fun v => (i_continuant_L3_step v).run) (xs := l) (fun k p => cfB k p) (fun k p => (sign, p.1, p.2, l, (l.length : Int), (k : Int))) (cf sign) (fun p => p.2)
    (fun k p x hP hx => by
      have hk := getElem?_lt hx
      have hb := cfB_step hs hP (ht x (List.mem_of_getElem? hx))
      have hp := pw_le (k := k + 1) (by omega)
      have hp2 := pw_succ k
      obtain ⟨h1, h2, h3, h4⟩ := hP
      obtain ⟨⟨g1, g2, g3, g4⟩, g5, g6⟩ := hb
      simp only [i_continuant_L3_step, T.run, Option.bind_some, Int.toNat_natCast, hx]
      simp only [cf] at g3 g4
      have e1 : w64 (x * p.2) = x * p.2 := w64_id (by omega) (by omega)
      have e2 : w64 (sign * p.1) = sign * p.1 := by rcases hs with rfl | rfl <;> exact w64_id (by omega) (by omega)
      rw [e1, e2, w64_id (by omega) (by omega), w64_id (by omega) (by omega)]
      exact ⟨by simp [hk, cf], ⟨g1, g2, g3, g4⟩⟩)
    (fun s hP => by simp [i_continuant_L3_step, T.run]) (0, 1) (by simp [cfB, pw])
  simp only [i_continuant, i_continuant_t, T.run, i_continuant_L3]
  simp only [Int.natCast_zero] at h
  rw [h.1]
  rfl
theorem ContinuantOf_val (l : List Int) (hl : l.length < 4611686018427387904) : i_ContinuantOf l = some (if isTerms l then (kr (-1) l, true) else (0, false)) := by
  rw [i_ContinuantOf, i_ContinuantOf_t, T.run_sub, i_IsTermList_eq l hl, Option.bind_some, T.run_test]
  cases h : isTerms l with
  | false => simp [T.run]
  | true => simp [T.run, continuant_val l (-1) (.inr rfl) h, cont_kr]



/-- The cursor over drawn bytes. -/
def curOK (k : Int) (c : List Int × Int × Int) : Prop := (∀ x ∈ c.1, 0 ≤ x ∧ x ≤ 255) ∧ 0 ≤ c.2.1 ∧ c.2.1 ≤ k
theorem curOK.mono {k m : Int} {c : List Int × Int × Int} (h : curOK k c) (hk : k ≤ m) : curOK m c := ⟨h.1, h.2.1, Int.le_trans h.2.2 hk⟩
theorem wu64_id {z : Int} (h1 : 0 ≤ z) (h2 : z ≤ 18446744073709551615) : wu64 z = z := by
  simp [wu64, IntKind.wrap, IntKind.bits, IntKind.signed]; omega
theorem mask_ok (n : Nat) : 0 ≤ w64 (wu64 ((n &&& 255 : Nat) : Int)) ∧ w64 (wu64 ((n &&& 255 : Nat) : Int)) ≤ 255 := by
  have h : n &&& 255 ≤ 255 := Nat.and_le_right
  generalize n &&& 255 = m at h
  rw [wu64_id (by omega) (by omega), w64_id (by omega) (by omega)]
  omega
theorem next_ok {k : Int} {c : List Int × Int × Int} (h : curOK k c) (hk : k < 1000000000000000) : ∃ v c', s_l1Cur_next ((), c) = some (v, c') ∧ (0 ≤ v ∧ v ≤ 255) ∧ curOK (k + 1) c' := by
  obtain ⟨c0, c1, c2⟩ := c
  obtain ⟨h1, h2, h3⟩ := h
  simp only at h1 h2 h3
  have w1 : w64 (c1 + 1) = c1 + 1 := w64_id (by omega) (by omega)
  rw [s_l1Cur_next, s_l1Cur_next_t]
  by_cases a : c1 < (c0.length : Int)
  · have hlt : c1.toNat < c0.length := by omega
    have hx := h1 c0[c1.toNat] (List.getElem_mem hlt)
    rw [T.run_test, if_pos (decide_eq_true a), T.run_test, if_pos (decide_eq_true (by omega)), T.run_sub, List.getElem?_eq_getElem hlt, Option.bind_some, T.run_test, if_pos (decide_eq_true (by rw [w1]; omega)), T.run_ret, w1]
    have w2 : w64 c0[c1.toNat] = c0[c1.toNat] := w64_id (by omega) (by omega)
    refine ⟨_, _, rfl, by rw [w2]; exact hx, h1, ?_, ?_⟩
    · show 0 ≤ c1 + 1; omega
    · show c1 + 1 ≤ k + 1; omega
  · rw [T.run_test, if_neg (by rw [decide_eq_true_eq]; exact a), T.run_test, if_neg (by rw [decide_eq_true_eq, w1]; omega), T.run_ret, w1]
    refine ⟨_, _, rfl, mask_ok _, h1, ?_, ?_⟩
    · show 0 ≤ c1 + 1; omega
    · show c1 + 1 ≤ k + 1; omega
theorem pick_ok {k : Int} {c : List Int × Int × Int} (n : Int) (h : curOK k c) (hk : k < 100000000000000) : ∃ v c', s_l1Cur_pick (((), n), c) = some (v, c') ∧ 0 ≤ v ∧ (1 ≤ n → v < n) ∧ (n ≤ 1 → v = 0) ∧ curOK (k + 2) c' := by
  obtain ⟨c0, c1, c2⟩ := c
  rw [s_l1Cur_pick, s_l1Cur_pick_t]
  by_cases a : n ≤ 1
  · rw [T.run_test, if_pos (decide_eq_true a), T.run_ret]
    exact ⟨0, _, rfl, Int.le_refl _, fun h => by omega, fun _ => rfl, h.mono (by omega)⟩
  · obtain ⟨v, ⟨d0, d1, d2⟩, e, hv, hc⟩ := next_ok h (by omega)
    rw [T.run_test, if_neg (by rw [decide_eq_true_eq]; exact a), T.run_sub, e, Option.bind_some, T.run_test]
    by_cases b : n > 200
    · obtain ⟨u, ⟨f0, f1, f2⟩, e2, hu, hc2⟩ := next_ok hc (by omega)
      rw [if_pos (decide_eq_true b), T.run_sub, e2, Option.bind_some, T.run_test, if_pos (decide_eq_true (by omega)), T.run_ret]
      have w : w64 (w64 (v * 256) + u) = v * 256 + u := by rw [w64_id (z := v * 256) (by omega) (by omega), w64_id (by omega) (by omega)]
      refine ⟨_, _, rfl, ?_, fun _ => ?_, fun h => absurd h a, hc2.mono (by omega)⟩
      · rw [w]; exact Int.tmod_nonneg _ (by omega)
      · rw [w]; exact Int.tmod_lt_of_pos _ (by omega)
    · rw [if_neg (by rw [decide_eq_true_eq]; exact b), T.run_test, if_pos (decide_eq_true (by omega)), T.run_ret]
      exact ⟨_, _, rfl, Int.tmod_nonneg _ (by omega), fun _ => Int.tmod_lt_of_pos _ (by omega), fun h => absurd h a, hc.mono (by omega)⟩
theorem among_ok {k : Int} {c : List Int × Int × Int} (l : List Int) (h : curOK k c) (hk : k < 100000000000000) (hl : 1 ≤ l.length) : ∃ v c', s_l1Cur_among (((), l), c) = some (v, c') ∧ v ∈ l ∧ curOK (k + 2) c' := by
  obtain ⟨c0, c1, c2⟩ := c
  obtain ⟨v, ⟨d0, d1, d2⟩, e, h0, h1, _, hc⟩ := pick_ok (l.length : Int) h hk
  have h1 := h1 (by omega)
  have hlt : v.toNat < l.length := by omega
  rw [s_l1Cur_among, s_l1Cur_among_t, T.run_sub, e, Option.bind_some, T.run_test, if_pos (decide_eq_true (by omega)), T.run_sub, List.getElem?_eq_getElem hlt, Option.bind_some, T.run_ret]
  exact ⟨_, _, rfl, List.getElem_mem hlt, hc⟩
theorem one_ok {k : Int} {c : List Int × Int × Int} (n : Int) (h : curOK k c) (hk : k < 100000000000000) : ∃ v c', s_l1Cur_one (((), n), c) = some (v, c') ∧ curOK (k + 2) c' := by
  obtain ⟨c0, c1, c2⟩ := c
  obtain ⟨v, ⟨d0, d1, d2⟩, e, _, _, _, hc⟩ := pick_ok n h hk
  rw [s_l1Cur_one, s_l1Cur_one_t, T.run_sub, e, Option.bind_some, T.run_ret]
  exact ⟨_, _, rfl, hc⟩
theorem terms_L3 (low high : Int) (hlo : -100 ≤ low ∧ low ≤ 100) (hhi : -100 ≤ high ∧ high ≤ 100) : ∀ (m : Nat) (K : Int) (c : List Int × Int × Int) (out : List Int), curOK K c → K + 2 * (m : Int) < 10000000000000 → m ≤ 100 → out.length + m ≤ 100 →
    ∃ c' out', s_l1Cur_terms_L3 (((), (low, (high, ((), (m : Int))))), (c, out)) = some (((), ()), (c', out')) ∧ out'.length ≤ out.length + m ∧ curOK (K + 2 * (m : Int)) c' := by
  intro m
  induction m with
  | zero =>
    intro K c out h hK hm hl
    obtain ⟨c0, c1, c2⟩ := c
    refine ⟨_, out, ?_, Nat.le_refl _, h.mono (by omega)⟩
    simp only [s_l1Cur_terms_L3]
    exact loopO_done (by simp [s_l1Cur_terms_L3_step, T.run])
  | succ m ih =>
    intro K c out h hK hm hl
    obtain ⟨c0, c1, c2⟩ := c
    obtain ⟨v, ⟨d0, d1, d2⟩, e, h0, h1, h2, hc⟩ := pick_ok (w64 (w64 (high - low) + 1)) h (by omega)
    obtain ⟨c', out', e2, h3, h4⟩ := ih (K + 2) (d0, d1, d2) (out ++ [w64 (low + v)]) hc (by omega) (by omega) (by simp; omega)
    refine ⟨c', out', ?_, by simp at h3; omega, h4.mono (by omega)⟩
    have c9 : ((m + 1 : Nat) : Int) > 0 := by omega
    have w1 : w64 (((m + 1 : Nat) : Int) - 1) = (m : Int) := by rw [w64_id (by omega) (by omega)]; omega
    have hlen : 2 * ((out.length + 1) * 9) ≤ 140737488355328 := by omega
    simp only [s_l1Cur_terms_L3] at e2 ⊢
    rw [← e2]
    refine loopO_next ?_
    rw [s_l1Cur_terms_L3_step, T.run_test, if_pos (decide_eq_true c9), T.run_sub, e, Option.bind_some]
    have wm : w64 (m : Int) = (m : Int) := w64_id (by omega) (by omega)
    simp [T.run, win_all, win_one, win_sing, hlen, wm]
theorem terms_L10 : ∀ (m : Nat) (K : Int) (c : List Int × Int × Int) (out : List Int), curOK K c → K + 2 * (m : Int) < 10000000000000 → m ≤ 100 → out.length ≤ 100 → 12 ≤ out.length + m →
    ∃ c' out', s_l1Cur_terms_L10 (((), ()), (c, out)) = some ((), (c', out')) ∧ out'.length ≤ out.length + m ∧ curOK (K + 2 * (m : Int) + 2) c' := by
  intro m
  induction m with
  | zero =>
    intro K c out h hK hm hl h12
    obtain ⟨c0, c1, c2⟩ := c
    obtain ⟨v, ⟨d0, d1, d2⟩, e, h0, h1, h2, hc⟩ := pick_ok 2 h (by omega)
    have h1 := h1 (by omega)
    have c9 : ¬ ((out.length : Int) < w64 (10 + v)) := by rw [w64_id (by omega) (by omega)]; omega
    refine ⟨_, out, ?_, Nat.le_refl _, hc.mono (by omega)⟩
    simp only [s_l1Cur_terms_L10]
    refine loopO_done ?_
    rw [s_l1Cur_terms_L10_step, T.run_sub, e, Option.bind_some, T.run_test, if_neg (by rw [decide_eq_true_eq]; exact c9), T.run_test, if_pos (by simp), T.run_ret]
  | succ m ih =>
    intro K c out h hK hm hl h12
    obtain ⟨c0, c1, c2⟩ := c
    obtain ⟨v, ⟨d0, d1, d2⟩, e, h0, h1, h2, hc⟩ := pick_ok 2 h (by omega)
    by_cases c9 : (out.length : Int) < w64 (10 + v)
    · have h1 := h1 (by omega)
      have c8 : out.length < 12 := by rw [w64_id (by omega) (by omega)] at c9; omega
      obtain ⟨c', out', e2, h3, h4⟩ := ih (K + 2) (d0, d1, d2) (out ++ [2]) hc (by omega) (by omega) (by simp; omega) (by simp; omega)
      refine ⟨c', out', ?_, by simp at h3; omega, h4.mono (by omega)⟩
      have hlen : 2 * ((out.length + 1) * 9) ≤ 140737488355328 := by omega
      simp only [s_l1Cur_terms_L10] at e2 ⊢
      rw [← e2]
      refine loopO_next ?_
      rw [s_l1Cur_terms_L10_step, T.run_sub, e, Option.bind_some, T.run_test, if_pos (decide_eq_true c9)]
      simp [T.run, win_all, win_one, win_sing, hlen]
    · refine ⟨_, out, ?_, by omega, hc.mono (by omega)⟩
      simp only [s_l1Cur_terms_L10]
      refine loopO_done ?_
      rw [s_l1Cur_terms_L10_step, T.run_sub, e, Option.bind_some, T.run_test, if_neg (by rw [decide_eq_true_eq]; exact c9), T.run_test, if_pos (by simp), T.run_ret]
theorem terms_L13 (c : List Int × Int × Int) : ∀ (m : Nat) (out : List Int), m ≤ 100 → out.length ≤ 100 → 12 ≤ out.length + m →
    ∃ out', s_l1Cur_terms_L13 ((), (c, out)) = some ((), (c, out')) ∧ out'.length ≤ out.length + m := by
  intro m
  induction m with
  | zero =>
    intro out hm hl h12
    obtain ⟨c0, c1, c2⟩ := c
    have c9 : ¬ ((out.length : Int) < 10) := by omega
    refine ⟨out, ?_, Nat.le_refl _⟩
    simp only [s_l1Cur_terms_L13]
    exact loopO_done (by simp [s_l1Cur_terms_L13_step, T.run, c9])
  | succ m ih =>
    intro out hm hl h12
    obtain ⟨c0, c1, c2⟩ := c
    by_cases c9 : (out.length : Int) < 10
    · obtain ⟨out', e2, h3⟩ := ih (out ++ [30]) (by omega) (by simp; omega) (by simp; omega)
      refine ⟨out', ?_, by simp at h3; omega⟩
      have hlen : 2 * ((out.length + 1) * 9) ≤ 140737488355328 := by omega
      simp only [s_l1Cur_terms_L13] at e2 ⊢
      rw [← e2]
      refine loopO_next ?_
      rw [s_l1Cur_terms_L13_step, T.run_test, if_pos (decide_eq_true c9)]
      simp [T.run, win_all, win_one, win_sing, hlen]
    · refine ⟨out, ?_, by omega⟩
      simp only [s_l1Cur_terms_L13]
      exact loopO_done (by simp [s_l1Cur_terms_L13_step, T.run, c9])
theorem terms_ok {k : Int} {c : List Int × Int × Int} (low high : Int) (hlo : -100 ≤ low ∧ low ≤ 100) (hhi : -100 ≤ high ∧ high ≤ 100) (h : curOK k c) (hk : k < 1000000000000) :
    ∃ c' l, s_l1Cur_terms (((), (low, high)), c) = some ((), (c', l)) ∧ l.length ≤ 50 ∧ curOK (k + 100) c' := by
  obtain ⟨c0, c1, c2⟩ := c
  obtain ⟨v, ⟨d0, d1, d2⟩, e, h0, h1, _, hc⟩ := pick_ok 8 h (by omega)
  have h1 := h1 (by omega)
  obtain ⟨m, rfl⟩ := Int.eq_ofNat_of_zero_le h0
  obtain ⟨⟨f0, f1, f2⟩, out, e3, h3, hc3⟩ := terms_L3 low high hlo hhi m (k + 2) (d0, d1, d2) [] hc (by omega) (by omega) (by simp; omega)
  simp only [List.length_nil] at h3
  obtain ⟨u, ⟨g0, g1, g2⟩, e4, h4, h5, _, hc4⟩ := pick_ok 14 hc3 (by omega)
  rw [s_l1Cur_terms, s_l1Cur_terms_t, T.run_sub, e, Option.bind_some, T.run_test, if_pos (by simp), T.run_sub, e3, Option.bind_some, T.run_sub, e4, Option.bind_some, T.run_test]
  have hlen : 2 * ((out.length + 1) * 9) ≤ 140737488355328 := by omega
  by_cases u0 : u = 0
  · obtain ⟨x, ⟨a0, a1, a2⟩, e5, _, hc5⟩ := among_ok [30, 31, -30, -9223372036854775808] hc4 (by omega) (by simp)
    have hw : win (List.set (List.set (List.set (List.set (List.replicate 4 (0 : Int)) 0 (30 : Int)) 1 (31 : Int)) 2 (-30)) 3 (-9223372036854775808)) 0 4 = [30, 31, -30, -9223372036854775808] := rfl
    rw [if_pos (by rw [u0]; rfl), T.run_test, if_pos rfl, T.run_sub, hw, e5, Option.bind_some]
    refine ⟨_, out ++ [x], ?_, by simp; omega, hc5.mono (by omega)⟩
    simp [T.run, win_all, win_one, win_sing, hlen]
  · rw [if_neg (by rw [beq_iff_eq]; exact u0), T.run_test]
    by_cases u1 : u = 1
    · obtain ⟨⟨a0, a1, a2⟩, out', e5, h6, hc5⟩ := terms_L10 12 _ (g0, g1, g2) out hc4 (by omega) (by omega) (by omega) (by omega)
      rw [if_pos (by rw [u1]; rfl), T.run_test, if_pos (by simp), T.run_sub, e5, Option.bind_some, T.run_test, if_pos (by simp), T.run_ret]
      exact ⟨_, out', rfl, by omega, hc5.mono (by omega)⟩
    · rw [if_neg (by rw [beq_iff_eq]; exact u1), T.run_test]
      by_cases u2 : u = 2
      · obtain ⟨out', e5, h6⟩ := terms_L13 (g0, g1, g2) 12 out (by omega) (by omega) (by omega)
        rw [if_pos (by rw [u2]; rfl), T.run_test, if_pos (by simp), T.run_sub, e5, Option.bind_some, T.run_test, if_pos (by simp), T.run_ret]
        exact ⟨_, out', rfl, by omega, hc4.mono (by omega)⟩
      · rw [if_neg (by rw [beq_iff_eq]; exact u2), T.run_test, if_pos (by simp), T.run_ret]
        exact ⟨_, out, rfl, by omega, hc4.mono (by omega)⟩
def bytesOK (code : List Int) : Prop := ∀ x ∈ code, 0 ≤ x ∧ x ≤ 255
theorem cur0 {code : List Int} (h : bytesOK code) : curOK 0 (code, ((0 : Int), (0 : Int))) := ⟨h, Int.le_refl _, Int.le_refl _⟩



theorem win_len {α : Type} (xs : List α) (o n : Nat) (h : o + n ≤ xs.length) : (win xs o n).length = n := by unfold win; rw [List.length_take, List.length_drop]; omega
theorem win_le {α : Type} (xs : List α) (o n : Nat) : (win xs o n).length ≤ xs.length := by unfold win; rw [List.length_take, List.length_drop]; omega
theorem sureQ_loop (n : Int) (hn : n ≤ 20) : ∀ (m : Nat) (K : Int) (c : List Int × Int × Int) (out : List Int), curOK K c → K + 2 * (m : Int) < 10000000000 → 3 ≤ out.length → out.length ≤ 20 → 20 ≤ out.length + m →
    ∃ c' out', s_l1Cur_sureQuiddity_L2 (((), (n, ())), (c, out)) = some ((), (c', out')) ∧ 3 ≤ out'.length ∧ out'.length ≤ 20 ∧ curOK (K + 2 * (m : Int)) c' := by
  intro m
  induction m with
  | zero =>
    intro K c out h hK h3 h20 hm
    obtain ⟨c0, c1, c2⟩ := c
    have c9 : ¬ ((out.length : Int) < n) := by omega
    refine ⟨_, out, ?_, h3, h20, h.mono (by omega)⟩
    simp only [s_l1Cur_sureQuiddity_L2]
    exact loopO_done (by simp [s_l1Cur_sureQuiddity_L2_step, T.run, c9])
  | succ m ih =>
    intro K c out h hK h3 h20 hm
    obtain ⟨c0, c1, c2⟩ := c
    by_cases c9 : (out.length : Int) < n
    · obtain ⟨v, ⟨d0, d1, d2⟩, e, h0, h1, h2, hc⟩ := pick_ok (out.length : Int) h (by omega)
      have h1 := h1 (by omega)
      obtain ⟨v, rfl⟩ := Int.eq_ofNat_of_zero_le h0
      have w1 : w64 (1 + (v : Int)) = ((v + 1 : Nat) : Int) := by rw [w64_id (by omega) (by omega)]; omega
      have w2 : w64 (((v + 1 : Nat) : Int) - 1) = (v : Int) := by rw [w64_id (by omega) (by omega)]; omega
      have w3 : w64 (((v + 1 : Nat) : Int) + 1) = ((v + 2 : Nat) : Int) := by rw [w64_id (by omega) (by omega)]; omega
      have hv : v < out.length := by omega
      have l1 : (win out 0 (v + 1)).length = v + 1 := win_len _ _ _ (by omega)
      have l2 : (win out (v + 1) (out.length - (v + 1))).length = out.length - (v + 1) := win_len _ _ _ (by omega)
      have ow := s_l1Own_eq (win out 0 (v + 1)) (by omega)
      obtain ⟨W1, hW1⟩ : ∃ W, W = win out 0 (v + 1) := ⟨_, rfl⟩
      obtain ⟨W2, hW2⟩ : ∃ W, W = win out (v + 1) (out.length - (v + 1)) := ⟨_, rfl⟩
      rw [← hW1] at l1 ow
      rw [← hW2] at l2
      have hw : win (W1 ++ [1]) 0 (v + 1 + 1) = W1 ++ [1] := by
        have := win_all (W1 ++ [(1 : Int)])
        rwa [List.length_append, l1] at this
      have hwa : win W1 0 (v + 1) = W1 := by have := win_all W1; rwa [l1] at this
      obtain ⟨L, hL⟩ : ∃ L, L = (W1 ++ [1]) ++ W2 := ⟨_, rfl⟩
      have hLl : L.length = v + 1 + 1 + (out.length - (v + 1)) := by rw [hL]; simp [l1, l2]; omega
      have t1 : Int.tmod ((v + 2 : Nat) : Int) ((v + 1 + 1 + (out.length - (v + 1)) : Nat) : Int) = (((v + 2) % (v + 1 + 1 + (out.length - (v + 1))) : Nat) : Int) := by
        rw [Int.tmod_eq_emod_of_nonneg (by omega)]
        rfl
      have t2 : (v + 2) % (v + 1 + 1 + (out.length - (v + 1))) < v + 1 + 1 + (out.length - (v + 1)) := Nat.mod_lt _ (by omega)
      generalize hq : (v + 2) % (v + 1 + 1 + (out.length - (v + 1))) = q at t1 t2
      have g1 : L[v]? = some (L[v]'(by omega)) := List.getElem?_eq_getElem _
      obtain ⟨x, hx⟩ : ∃ x, L[v]? = some x := ⟨_, g1⟩
      obtain ⟨y, hy⟩ : ∃ y, (L.set v (w64 (x + 1)))[q]? = some y := ⟨_, List.getElem?_eq_getElem (by rw [List.length_set]; omega)⟩
      obtain ⟨c', out', e2, r1, r2, r3⟩ := ih (K + 2) (d0, d1, d2) ((L.set v (w64 (x + 1))).set q (w64 (y + 1))) hc (by omega) (by simp only [List.length_set]; omega) (by simp only [List.length_set]; omega) (by simp only [List.length_set]; omega)
      refine ⟨c', out', ?_, r1, r2, r3.mono (by omega)⟩
      simp only [s_l1Cur_sureQuiddity_L2] at e2 ⊢
      rw [← e2]
      refine loopO_next ?_
      have a1 : (0 : Int) ≤ ((v + 1 : Nat) : Int) := by omega
      have a2 : 0 ≤ v + 1 ∧ v + 1 ≤ out.length := by omega
      have a3 : 0 + (v + 1 - 0) ≤ out.length := by omega
      have a4 : 2 * ((v + 1 + 1) * 9) ≤ 140737488355328 := by omega
      have a5 : v + 1 ≤ out.length ∧ out.length ≤ out.length := by omega
      have a6 : 0 + (v + 1) + (out.length - (v + 1)) ≤ out.length := by omega
      have a7 : 2 * ((v + 1 + 1 + (out.length - (v + 1))) * 9) ≤ 140737488355328 := by omega
      have a8 : (0 : Int) ≤ (v : Int) ∧ (v : Int) < ((v + 1 + 1 + (out.length - (v + 1)) : Nat) : Int) := by omega
      have a9 : ((v + 1 + 1 + (out.length - (v + 1)) : Nat) : Int) ≠ 0 := by omega
      have a10 : (0 : Int) ≤ (q : Int) ∧ (q : Int) < ((v + 1 + 1 + (out.length - (v + 1)) : Nat) : Int) := by omega
      rw [s_l1Cur_sureQuiddity_L2_step, T.run_test, if_pos (decide_eq_true c9), T.run_sub, e, Option.bind_some]
      simp only [w1, Int.toNat_natCast, Nat.sub_zero, Nat.zero_add, ← hW1, ← hW2]
      rw [T.run_test, if_pos (decide_eq_true a1), T.run_test, if_pos (decide_eq_true a2), T.run_test, if_pos (decide_eq_true (by omega)), T.run_sub, ow, Option.bind_some]
      simp only [l1, l2, hwa, win_one, hw, w2, w3, Int.toNat_natCast, ← hL, List.length_append, List.length_singleton]
      have e0 : (((v + 1 : Nat) : Int) + 1 + ((out.length - (v + 1) : Nat) : Int)) = ((v + 1 + 1 + (out.length - (v + 1)) : Nat) : Int) := by push_cast; omega
      simp only [e0, t1, Int.toNat_natCast, List.length_set, hLl]
      rw [T.run_test, if_pos (by first | rfl | exact decide_eq_true (by omega))]
      rw [T.run_test, if_pos (by first | rfl | exact decide_eq_true (by omega))]
      rw [T.run_test, if_pos (by first | rfl | exact decide_eq_true (by omega))]
      rw [T.run_test, if_pos (by first | rfl | exact decide_eq_true (by omega))]
      rw [T.run_test, if_pos (by first | rfl | exact decide_eq_true (by omega))]
      rw [T.run_test, if_pos (by first | rfl | exact decide_eq_true (by omega))]
      rw [T.run_test, if_pos (by first | rfl | exact decide_eq_true (by omega))]
      rw [T.run_test, if_pos (by first | rfl | exact decide_eq_true (by omega))]
      rw [T.run_test, if_pos (by first | rfl | exact decide_eq_true (by omega))]
      rw [T.run_sub, hx, Option.bind_some]
      rw [T.run_test, if_pos (by first | rfl | exact decide_eq_true (by omega))]
      rw [T.run_sub, Option.bind_some]
      rw [T.run_test, if_pos (by first | rfl | exact decide_eq_true (by omega))]
      rw [T.run_test, if_pos (by first | rfl | exact decide_eq_true (by omega))]
      rw [T.run_sub, hy, Option.bind_some]
      rw [T.run_test, if_pos (by first | rfl | exact decide_eq_true (by omega))]
      rw [T.run_sub, Option.bind_some]
      rw [T.run_test, if_pos (by simp)]
      rfl
    · refine ⟨_, out, ?_, h3, h20, h.mono (by omega)⟩
      simp only [s_l1Cur_sureQuiddity_L2]
      exact loopO_done (by simp [s_l1Cur_sureQuiddity_L2_step, T.run, c9])
theorem sureQ_ok {K : Int} {c : List Int × Int × Int} (n : Int) (hn : n ≤ 20) (h : curOK K c) (hK : K < 1000000000) :
    ∃ c' out', s_l1Cur_sureQuiddity (((), n), c) = some ((), (c', out')) ∧ 3 ≤ out'.length ∧ out'.length ≤ 20 ∧ curOK (K + 40) c' := by
  obtain ⟨c0, c1, c2⟩ := c
  obtain ⟨⟨d0, d1, d2⟩, out', e, h1, h2, h3⟩ := sureQ_loop n hn 17 K (c0, c1, c2) [1, 1, 1] h (by omega) (by simp) (by simp) (by simp)
  refine ⟨(d0, d1, d2), out', ?_, h1, h2, h3.mono (by omega)⟩
  rw [s_l1Cur_sureQuiddity, s_l1Cur_sureQuiddity_t, T.run_test, if_pos (by simp), T.run_sub, show (List.set (List.set (List.set (List.replicate 3 (0 : Int)) 0 (1 : Int)) 1 (1 : Int)) 2 (1 : Int)) = [1, 1, 1] from rfl, e, Option.bind_some, T.run_test, if_pos (by simp), T.run_ret]
theorem quiddity_ok {K : Int} {c : List Int × Int × Int} (h : curOK K c) (hK : K < 100000000) :
    ∃ l c', s_l1Cur_quiddity (((), (10 : Int)), c) = some (l, c') ∧ l.length ≤ 20 := by
  obtain ⟨c0, c1, c2⟩ := c
  obtain ⟨v, ⟨d0, d1, d2⟩, e, h0, h1, _, hc⟩ := pick_ok 8 h (by omega)
  have h1 := h1 (by omega)
  have w0 : w64 ((10 : Int) - 2) = 8 := rfl
  have w1 : w64 (3 + v) = 3 + v := w64_id (by omega) (by omega)
  obtain ⟨⟨a0, a1, a2⟩, out, e2, g1, g2, hc2⟩ := sureQ_ok (3 + v) (by omega) hc (by omega)
  obtain ⟨u, ⟨b0, b1, b2⟩, e3, _, _, _, hc3⟩ := pick_ok 14 hc2 (by omega)
  rw [s_l1Cur_quiddity, s_l1Cur_quiddity_t, T.run_sub, w0, e, Option.bind_some, T.run_sub, w1, e2, Option.bind_some, T.run_sub, e3, Option.bind_some, T.run_test]
  dsimp only
  by_cases u0 : (u == 0) = true
  · obtain ⟨x, ⟨f0, f1, f2⟩, e4, i0, i1, _, hc4⟩ := pick_ok (out.length : Int) hc3 (by omega)
    have i1 := i1 (by omega)
    obtain ⟨y, ⟨j0, j1, j2⟩, e5, _, hc5⟩ := among_ok [-1, 0, 1, 2, 13, 4611686018427387904] hc4 (by omega) (by simp)
    have hlt : 0 + x.toNat < out.length := by omega
    have hw : (win (List.set (List.set (List.set (List.set (List.set (List.set (List.replicate 6 (0 : Int)) 0 (-1)) 1 (0 : Int)) 2 (1 : Int)) 3 (2 : Int)) 4 (13 : Int)) 5 (4611686018427387904 : Int)) 0 6) = [-1, 0, 1, 2, 13, 4611686018427387904] := rfl
    rw [if_pos u0, T.run_sub, e4, Option.bind_some, T.run_test, if_pos rfl, T.run_sub, hw, e5, Option.bind_some, T.run_test, if_pos (decide_eq_true ⟨i0, i1⟩), T.run_sub, List.getElem?_eq_getElem hlt, Option.bind_some, T.run_test, if_pos (by simp), T.run_ret]
    refine ⟨_, _, rfl, ?_⟩
    dsimp only
    have := win_le (out.set (0 + x.toNat) y) 0 out.length
    rw [List.length_set] at this
    omega
  rw [if_neg u0, T.run_test]
  by_cases u1 : (u == 1) = true
  · rw [if_pos u1, T.run_test, if_pos rfl, T.run_test, if_pos (decide_eq_true (by omega)), T.run_test, if_pos (decide_eq_true (by omega)), T.run_ret]
    have := win_le out 1 (out.length - 1)
    exact ⟨_, _, rfl, by omega⟩
  rw [if_neg u1, T.run_test]
  by_cases u2 : (u == 2) = true
  · have p0 : 0 < out.length := by omega
    have p1 : 1 < out.length := by omega
    have hs : 1 < (out.set 0 out[1]).length := by rw [List.length_set]; exact p1
    rw [if_pos u2, T.run_test, if_pos (decide_eq_true (by omega)), T.run_sub, List.getElem?_eq_getElem p0, Option.bind_some, T.run_test, if_pos (decide_eq_true (by omega)), T.run_sub, List.getElem?_eq_getElem p1, Option.bind_some,
      T.run_test, if_pos (decide_eq_true (by omega)), T.run_sub, Option.bind_some, T.run_test, if_pos (decide_eq_true (by omega)), T.run_sub, List.getElem?_eq_getElem hs, Option.bind_some, T.run_test, if_pos (by simp), T.run_ret]
    refine ⟨_, _, rfl, ?_⟩
    have := win_le ((out.set 0 out[1]).set 1 out[0]) 0 out.length
    simp only [List.length_set] at this
    omega
  rw [if_neg u2, T.run_test, if_pos (by simp), T.run_ret]
  refine ⟨_, _, rfl, ?_⟩
  have := win_le out 0 out.length
  omega
theorem DrawClosesUp_ok {code : List Int} (h : bytesOK code) : ∃ l, s_DrawClosesUp code = some l ∧ l.length ≤ 50 := by
  obtain ⟨b, ⟨d0, d1, d2⟩, e, hc⟩ := one_ok 3 (cur0 h) (by omega)
  rw [s_DrawClosesUp, s_DrawClosesUp_t, T.run_sub, e, Option.bind_some, T.run_test]
  cases b with
  | true =>
    obtain ⟨⟨f0, f1, f2⟩, l, e, hl, hc⟩ := terms_ok 1 3 (by omega) (by omega) hc (by omega)
    rw [if_pos rfl, T.run_sub, e, Option.bind_some, T.run_test, if_pos (by simp), T.run_ret]
    exact ⟨_, rfl, by rw [win_all]; exact hl⟩
  | false =>
    obtain ⟨l, c', e, hl⟩ := quiddity_ok hc (by omega)
    rw [if_neg (by simp), T.run_sub, e, Option.bind_some, T.run_ret]
    exact ⟨_, rfl, by simp only; omega⟩
theorem DrawMatrixOfList_ok {code : List Int} (h : bytesOK code) : ∃ l, s_DrawMatrixOfList code = some ((), l) ∧ l.length ≤ 50 := by
  obtain ⟨⟨f0, f1, f2⟩, l, e, hl, hc⟩ := terms_ok (-2) 5 (by omega) (by omega) (cur0 h) (by omega)
  rw [s_DrawMatrixOfList, s_DrawMatrixOfList_t, T.run_sub, e, Option.bind_some, T.run_test, if_pos (by simp), T.run_ret]
  exact ⟨_, rfl, hl⟩



/-- The matrix of a term; of a list of terms. -/
def A4 (a : Int) : M4 := (a, -1, 1, 0)
def MM : List Int → M4
  | [] => one4
  | a :: l => mul4 (A4 a) (MM l)
theorem mul4_assoc (a b c : M4) : mul4 (mul4 a b) c = mul4 a (mul4 b c) := by
  obtain ⟨a1, a2, a3, a4⟩ := a
  obtain ⟨b1, b2, b3, b4⟩ := b
  obtain ⟨c1, c2, c3, c4⟩ := c
  simp only [mul4, Prod.mk.injEq]
  refine ⟨?_, ?_, ?_, ?_⟩ <;> grind
theorem mul4_one (a : M4) : mul4 one4 a = a := by
  obtain ⟨a1, a2, a3, a4⟩ := a
  simp [mul4, one4]
theorem mul4_one' (a : M4) : mul4 a one4 = a := by
  obtain ⟨a1, a2, a3, a4⟩ := a
  simp [mul4, one4]
theorem MM_append : ∀ l m : List Int, MM (l ++ m) = mul4 (MM l) (MM m)
  | [], m => by rw [List.nil_append]; exact (mul4_one _).symm
  | a :: l, m => by rw [List.cons_append, MM, MM, MM_append l m, mul4_assoc]
theorem MM_mOf (l : List Int) : MM l = mOf l := by
  have key : ∀ n (l : List Int), l.length = n → MM l = mOf l := by
    intro n
    induction n with
    | zero => intro l hl; obtain rfl := List.eq_nil_of_length_eq_zero hl; rfl
    | succ n ih =>
      intro l hl
      rcases List.eq_nil_or_concat l with rfl | ⟨t, a, rfl⟩
      · rfl
      · rw [List.concat_eq_append] at hl ⊢
        rw [MM_append, ih t (by simpa using hl), mOf_snoc]
        show mul4 (mOf t) (mul4 (A4 a) one4) = _
        rw [mul4_one']
        rfl
  exact key _ l rfl
/-- The matrix is one of a sign. -/
def clo (e : Int) (l : List Int) : Prop := MM l = (e, 0, 0, e)
theorem clo_rot1 {e a : Int} {t : List Int} : clo e (a :: t) ↔ clo e (t ++ [a]) := by
  unfold clo
  rw [MM_append, MM]
  show _ ↔ mul4 (MM t) (mul4 (A4 a) one4) = _
  rw [mul4_one']
  obtain ⟨p, q, r, s⟩ := MM t
  simp only [mul4, A4, Prod.mk.injEq]
  constructor
  · rintro ⟨h1, h2, h3, h4⟩
    refine ⟨?_, ?_, ?_, ?_⟩ <;> grind
  · rintro ⟨h1, h2, h3, h4⟩
    refine ⟨?_, ?_, ?_, ?_⟩ <;> grind
theorem clo_rot {e : Int} : ∀ p q : List Int, clo e (p ++ q) ↔ clo e (q ++ p)
  | [], q => by simp
  | a :: p, q => by
    rw [List.cons_append, clo_rot1, List.append_assoc, clo_rot p (q ++ [a]), List.append_assoc]
    rfl
theorem MM_take (x y : Int) (l : List Int) : MM (x :: 1 :: y :: l) = MM ((x - 1) :: (y - 1) :: l) := by
  show mul4 (A4 x) (mul4 (A4 1) (mul4 (A4 y) (MM l))) = mul4 (A4 (x - 1)) (mul4 (A4 (y - 1)) (MM l))
  rw [← mul4_assoc, ← mul4_assoc, ← mul4_assoc]
  congr 1
  simp only [mul4, A4, Prod.mk.injEq]
  refine ⟨?_, ?_, ?_, ?_⟩ <;> grind
theorem clo_take {e x y : Int} {l : List Int} : clo e (x :: 1 :: y :: l) ↔ clo e ((x - 1) :: (y - 1) :: l) := by unfold clo; rw [MM_take]
theorem clo_zero {e a b : Int} {l : List Int} (h : clo e (a :: 0 :: b :: l)) : clo (-e) ((a + b) :: l) := by
  unfold clo at h ⊢
  change mul4 (A4 a) (mul4 (A4 0) (mul4 (A4 b) (MM l))) = _ at h
  change mul4 (A4 (a + b)) (MM l) = _
  generalize MM l = m at h ⊢
  obtain ⟨p, q, r, s⟩ := m
  simp only [mul4, A4, Prod.mk.injEq] at h ⊢
  obtain ⟨h1, h2, h3, h4⟩ := h
  refine ⟨?_, ?_, ?_, ?_⟩ <;> grind
/-- The third number is the continuant of all but the first. -/
theorem clo_kt {e : Int} {l : List Int} (h : clo e l) (hne : l ≠ []) : kt (-1) l = 0 := by
  unfold clo at h
  rw [MM_mOf] at h
  cases l with
  | nil => exact absurd rfl hne
  | cons a t =>
    simp only [mOf, Prod.mk.injEq] at h
    rw [kt_cons, ← cont_kr]
    exact h.2.2.1
theorem clo_two {e : Int} {l : List Int} (h : clo e l) (hne : l ≠ []) (h2 : ∀ x ∈ l, 2 ≤ x) : False := by
  have h0 := clo_kt h hne
  cases l with
  | nil => exact hne rfl
  | cons a t =>
    have := kr_two t fun x hx => h2 x (List.mem_cons_of_mem _ hx)
    rw [kt_cons] at h0
    omega
/-- Two ones side by side: the sum is too small, given that shorter ones are bounded. -/
theorem clo_adj {e : Int} {x y : Int} {v : List Int} (he : e = 1 ∨ e = -1) (hp : ∀ z ∈ x :: 1 :: y :: v, 1 ≤ z) (hv : v ≠ []) (h1 : x = 1 ∨ y = 1)
    (H : ∀ (l : List Int) (e : Int), l.length < (x :: 1 :: y :: v).length → l ≠ [] → (e = 1 ∨ e = -1) → (∀ z ∈ l, 1 ≤ z) → clo e l → l.sum < 3 * (l.length : Int)) (h : clo e (x :: 1 :: y :: v)) :
    (x :: 1 :: y :: v).sum < 3 * ((x :: 1 :: y :: v).length : Int) - 6 := by
  have he' : -e = 1 ∨ -e = -1 := by omega
  have hx := hp x (by simp)
  have hy := hp y (by simp)
  rw [clo_take] at h
  by_cases hy1 : y = 1
  · subst hy1
    cases v with
    | nil => exact absurd rfl hv
    | cons w v =>
      have hw := hp w (by simp)
      have hz := clo_zero h
      have := H ((x - 1 + w) :: v) (-e) (by simp) (by simp) he' (fun z hz => by
        simp only [List.mem_cons] at hz
        rcases hz with rfl | hz
        · omega
        · exact hp z (by simp [hz])) hz
      simp only [List.sum_cons, List.length_cons] at this ⊢
      omega
  · have hx1 : x = 1 := h1.resolve_right hy1
    subst hx1
    rcases List.eq_nil_or_concat v with rfl | ⟨v, w, rfl⟩
    · exact absurd rfl hv
    · rw [List.concat_eq_append] at *
      have hw := hp w (by simp)
      have h : clo e ((0 :: (y - 1) :: v) ++ [w]) := h
      rw [clo_rot] at h
      have hz := clo_zero (a := w) (b := y - 1) (l := v) h
      have := H ((w + (y - 1)) :: v) (-e) (by simp) (by simp) he' (fun z hz => by
        simp only [List.mem_cons] at hz
        rcases hz with rfl | hz
        · omega
        · exact hp z (by simp [hz])) hz
      simp only [List.sum_cons, List.length_cons, List.sum_append, List.length_append, List.sum_nil, List.length_nil] at this ⊢
      omega
theorem clo_sum : ∀ (n : Nat) (l : List Int) (e : Int), l.length = n → l ≠ [] → (e = 1 ∨ e = -1) → (∀ z ∈ l, 1 ≤ z) → clo e l → l.sum < 3 * (l.length : Int) := by
  intro n
  induction n using Nat.strongRecOn with
  | ind n ih =>
    intro l e hn hne he hp h
    by_cases h2 : ∀ x ∈ l, 2 ≤ x
    · exact (clo_two h hne h2).elim
    · obtain ⟨x, hx, hx2⟩ : ∃ x, x ∈ l ∧ ¬ 2 ≤ x := by
        refine Classical.byContradiction fun hc => h2 fun x hx => Classical.byContradiction fun h3 => hc ⟨x, hx, h3⟩
      have hx1 : x = 1 := by have := hp x hx; omega
      subst hx1
      obtain ⟨A, B, rfl⟩ := List.append_of_mem hx
      have hs : (A ++ 1 :: B).sum = 1 + (B ++ A).sum := by simp only [List.sum_append, List.sum_cons]; omega
      have hl : (A ++ 1 :: B).length = (B ++ A).length + 1 := by simp only [List.length_append, List.length_cons]; omega
      have hp' : ∀ z ∈ B ++ A, 1 ≤ z := fun z hz => hp z (by simp only [List.mem_append, List.mem_cons] at hz ⊢; exact hz.elim (fun h => .inr (.inr h)) .inl)
      rw [clo_rot] at h
      have h : clo e (1 :: (B ++ A)) := h
      rw [hs, hl]
      rw [hl] at hn
      generalize B ++ A = t at *
      have h0 := clo_kt h (by simp)
      rw [kt_cons] at h0
      cases t with
      | nil => simp [kr] at h0
      | cons y t =>
        rcases List.eq_nil_or_concat t with rfl | ⟨v, x, rfl⟩
        · have := hp' y (by simp)
          simp [kr] at h0
          omega
        · rw [List.concat_eq_append] at *
          have hx := hp' x (by simp)
          have hy := hp' y (by simp)
          have h : clo e ((1 :: y :: v) ++ [x]) := h
          rw [clo_rot] at h
          have h : clo e (x :: 1 :: y :: v) := h
          have hlen : (y :: (v ++ [x])).length = v.length + 2 := by simp
          have hsum : (y :: (v ++ [x])).sum = y + (v.sum + x) := by simp
          rw [hlen, hsum]
          rw [hlen] at hn
          by_cases hxy : 2 ≤ x ∧ 2 ≤ y
          · rw [clo_take] at h
            have := ih (n - 1) (by omega) ((x - 1) :: (y - 1) :: v) e (by simp; omega) (by simp) he (fun z hz => by
              simp only [List.mem_cons] at hz
              rcases hz with rfl | rfl | hz
              · omega
              · omega
              · exact hp' z (by simp [hz])) h
            simp only [List.sum_cons, List.length_cons] at this
            omega
          · have h1 : x = 1 ∨ y = 1 := by omega
            cases v with
            | nil =>
              rw [clo_take] at h
              have hk := clo_kt h (by simp)
              simp [kt, kr] at hk
              obtain rfl : y = 1 := by omega
              unfold clo at h
              simp [MM, mul4, A4, one4] at h
              simp
              omega
            | cons w v' =>
              have := clo_adj he (fun z hz => by
                simp only [List.mem_cons] at hz
                rcases hz with rfl | rfl | rfl | hz
                · exact hx
                · omega
                · exact hy
                · exact hp' z (by simp only [List.mem_cons, List.mem_append]; exact .inr (.inl hz))) (by simp) h1 (fun l e hl hne he hp hc => ih l.length (by simp only [List.length_cons] at hl hn; omega) l e rfl hne he hp hc) h
              simp only [List.sum_cons, List.length_cons] at this ⊢
              omega
/-- Turned lists. -/
def Rot (p q : List Int) : Prop := ∃ a b, p = a ++ b ∧ q = b ++ a
theorem Rot.clo {p q : List Int} {e : Int} (h : Rot p q) : clo e p ↔ clo e q := by
  obtain ⟨a, b, rfl, rfl⟩ := h
  exact clo_rot a b
theorem Rot.sum {p q : List Int} (h : Rot p q) : p.sum = q.sum := by
  obtain ⟨a, b, rfl, rfl⟩ := h
  simp only [List.sum_append]; omega
theorem Rot.length {p q : List Int} (h : Rot p q) : p.length = q.length := by
  obtain ⟨a, b, rfl, rfl⟩ := h
  simp only [List.length_append]; omega
theorem Rot.mem {p q : List Int} (h : Rot p q) (x : Int) : x ∈ p ↔ x ∈ q := by
  obtain ⟨a, b, rfl, rfl⟩ := h
  simp only [List.mem_append, or_comm]
theorem decAt_mid (L R : List Int) (x : Int) (hx : -1000000000 ≤ x ∧ x ≤ 1000000000) (p : Nat) (hp : p = L.length) : decAt (L ++ x :: R) p = L ++ (x - 1) :: R := by
  subst hp
  unfold decAt
  have hg : (L ++ x :: R).getD L.length 0 = x := by rw [List.getD_eq_getElem?_getD, List.getElem?_append_right (Nat.le_refl _), Nat.sub_self]; rfl
  rw [hg, w64_id (by omega) (by omega), List.set_append_right _ _ (Nat.le_refl _), Nat.sub_self]
  rfl
theorem getD_mid (L R : List Int) (x : Int) (p : Nat) (hp : p = L.length) : (L ++ x :: R).getD p 0 = x := by
  subst hp
  rw [List.getD_eq_getElem?_getD, List.getElem?_append_right (Nat.le_refl _), Nat.sub_self]; rfl
theorem erase_mid (L R : List Int) (x : Int) (p : Nat) (hp : p = L.length) : (L ++ x :: R).eraseIdx p = L ++ R := by
  subst hp
  rw [List.eraseIdx_append_of_length_le (Nat.le_refl _), Nat.sub_self]
  rfl
/-- An ear and its neighbours. -/
theorem cut_rot {l : List Int} {i : Nat} (hn : 4 ≤ l.length) (hb : ∀ z ∈ l, -1000000000 ≤ z ∧ z ≤ 1000000000) (hi : l[i]? = some 1) :
    ∃ x y v, Rot l (x :: 1 :: y :: v) ∧ Rot (cutL l i) ((x - 1) :: (y - 1) :: v) ∧ okC l i = decide (1 ≤ x - 1 ∧ 1 ≤ y - 1) := by
  obtain ⟨hlt, h1⟩ := List.getElem?_eq_some_iff.1 hi
  obtain ⟨A, B, e, hA⟩ : ∃ A B, l = A ++ 1 :: B ∧ A.length = i := ⟨l.take i, l.drop (i + 1), by
    rw [← h1, ← List.drop_eq_getElem_cons hlt, List.take_append_drop], by rw [List.length_take]; omega⟩
  have hlen : l.length = A.length + B.length + 1 := by rw [e]; simp; omega
  obtain ⟨n1, n2, n3, n4, n5, n6⟩ := nb_facts (by omega : 3 ≤ l.length) hlt
  rcases n6 with ⟨q0, q1, q2⟩ | ⟨q0, q1, q2⟩ | ⟨q0, q00, q1, q2⟩
  · -- the first
    obtain rfl : A = [] := List.eq_nil_of_length_eq_zero (by omega)
    cases B with
    | nil => simp at hlen; omega
    | cons y B =>
      rcases List.eq_nil_or_concat B with rfl | ⟨v, x, rfl⟩
      · simp at hlen; omega
      · rw [List.concat_eq_append] at *
        have e : l = (1 :: y :: v) ++ x :: [] := by rw [e]; simp
        have hx := hb x (by rw [e]; simp)
        have hy := hb y (by rw [e]; simp)
        refine ⟨x, y, v, ⟨1 :: y :: v, [x], by rw [e], rfl⟩, ⟨(y - 1) :: v, [x - 1], ?_, rfl⟩, ?_⟩
        · unfold cutL
          rw [q1, q2, q0]
          have d1 : decAt l (l.length - 1) = (1 :: y :: v) ++ (x - 1) :: [] := by
            have := decAt_mid (1 :: y :: v) [] x hx (l.length - 1) (by rw [e]; simp)
            rwa [← e] at this
          rw [d1]
          have d2 := decAt_mid [1] (v ++ [x - 1]) y hy 1 rfl
          have e2 : ((1 :: y :: v) ++ (x - 1) :: []) = [1] ++ y :: (v ++ [x - 1]) := by simp
          rw [e2, d2]
          simp
        · unfold okC
          rw [q1, q2]
          have g1 := getD_mid (1 :: y :: v) [] x (l.length - 1) (by rw [e]; simp)
          have g2 := getD_mid [1] (v ++ [x]) y 1 rfl
          have e2 : l = [1] ++ y :: (v ++ [x]) := by rw [e]; simp
          rw [← e] at g1
          rw [← e2] at g2
          rw [g1, g2, w64_id (by omega) (by omega), w64_id (by omega) (by omega)]
  · -- the last
    obtain rfl : B = [] := List.eq_nil_of_length_eq_zero (by omega)
    cases A with
    | nil => simp at hlen; omega
    | cons y A =>
      rcases List.eq_nil_or_concat A with rfl | ⟨v, x, rfl⟩
      · simp at hlen; omega
      · rw [List.concat_eq_append] at *
        have e : l = (y :: v) ++ x :: [1] := by rw [e]; simp
        have hx := hb x (by rw [e]; simp)
        have hy := hb y (by rw [e]; simp)
        have hlv : l.length = v.length + 3 := by rw [e]; simp
        refine ⟨x, y, v, ⟨y :: v, [x, 1], by rw [e], rfl⟩, ⟨(y - 1) :: v, [x - 1], ?_, rfl⟩, ?_⟩
        · unfold cutL
          rw [q1, q2, q0]
          have d1 : decAt l (l.length - 2) = (y :: v) ++ (x - 1) :: [1] := by
            have := decAt_mid (y :: v) [1] x hx (l.length - 2) (by rw [hlv]; simp)
            rwa [← e] at this
          rw [d1]
          have d2 := decAt_mid [] (v ++ [x - 1, 1]) y hy 0 rfl
          have e2 : ((y :: v) ++ (x - 1) :: [1]) = [] ++ y :: (v ++ [x - 1, 1]) := by simp
          rw [e2, d2]
          have e3 : ([] ++ (y - 1) :: (v ++ [x - 1, 1])) = ((y - 1) :: (v ++ [x - 1])) ++ 1 :: [] := by simp
          rw [e3, erase_mid _ _ _ _ (by rw [hlv]; simp)]
          simp
        · unfold okC
          rw [q1, q2]
          have g1 := getD_mid (y :: v) [1] x (l.length - 2) (by rw [hlv]; simp)
          have g2 := getD_mid [] (v ++ [x, 1]) y 0 rfl
          have e2 : l = [] ++ y :: (v ++ [x, 1]) := by rw [e]; simp
          rw [← e] at g1
          rw [← e2] at g2
          rw [g1, g2, w64_id (by omega) (by omega), w64_id (by omega) (by omega)]
  · -- within
    rcases List.eq_nil_or_concat A with rfl | ⟨L, x, rfl⟩
    · simp at hA; omega
    · cases B with
      | nil => simp at hlen hA; omega
      | cons y R =>
        rw [List.concat_eq_append] at *
        have hL : L.length + 1 = i := by rw [← hA]; simp
        have e : l = L ++ x :: 1 :: y :: R := by rw [e]; simp
        have hx := hb x (by rw [e]; simp)
        have hy := hb y (by rw [e]; simp)
        refine ⟨x, y, R ++ L, ⟨L, x :: 1 :: y :: R, e, by simp⟩, ⟨L, (x - 1) :: (y - 1) :: R, ?_, by simp⟩, ?_⟩
        · unfold cutL
          rw [q1, q2]
          have d1 := decAt_mid L (1 :: y :: R) x hx (i - 1) (by omega)
          rw [← e] at d1
          rw [d1]
          have e2 : L ++ (x - 1) :: 1 :: y :: R = (L ++ [x - 1, 1]) ++ y :: R := by simp
          rw [e2, decAt_mid (L ++ [x - 1, 1]) R y hy (i + 1) (by simp; omega)]
          have e3 : (L ++ [x - 1, 1]) ++ (y - 1) :: R = (L ++ [x - 1]) ++ 1 :: (y - 1) :: R := by simp
          rw [e3, erase_mid _ _ _ _ (by simp; omega)]
          simp
        · unfold okC
          rw [q1, q2]
          have g1 := getD_mid L (1 :: y :: R) x (i - 1) (by omega)
          have g2 := getD_mid (L ++ [x, 1]) R y (i + 1) (by simp; omega)
          have e2 : l = (L ++ [x, 1]) ++ y :: R := by rw [e]; simp
          rw [← e] at g1
          rw [← e2] at g2
          rw [g1, g2, w64_id (by omega) (by omega), w64_id (by omega) (by omega)]
theorem tri_clo : ∀ (k : Nat) (l names : List Int) (ds : List Dg), l.length = k + 3 → (∀ z ∈ l, 1 ≤ z ∧ z ≤ 1000000) → triS k l names = some ds → clo (-1) l
  | 0, l, names, ds, hl, hb, h => by
    unfold triS at h
    split at h
    · rename_i e
      subst e
      unfold clo
      decide
    · cases h
  | k + 1, l, names, ds, hl, hb, h => by
    unfold triS at h
    split at h
    · cases h
    · rename_i i he
      split at h
      · rename_i ho
        obtain ⟨d, hd, _⟩ := Option.map_eq_some_iff.1 h
        obtain ⟨x, y, v, r1, r2, r3⟩ := cut_rot (i := i) (by omega) (fun z hz => by have := hb z hz; omega) (ear_lt he).2
        rw [r3, decide_eq_true_eq] at ho
        have hx := hb x ((r1.mem x).2 (by simp))
        have hy := hb y ((r1.mem y).2 (by simp))
        have hc := tri_clo k (cutL l i) _ d (by rw [cutL_length (ear_lt he).1]; omega) (fun z hz => by
          rw [r2.mem] at hz
          simp only [List.mem_cons] at hz
          rcases hz with rfl | rfl | hz
          · omega
          · omega
          · exact hb z ((r1.mem z).2 (by simp [hz]))) hd
        rw [r2.clo, ← clo_take, ← r1.clo] at hc
        exact hc
      · cases h
theorem clo_tri : ∀ (k : Nat) (l names : List Int), l.length = k + 3 → (∀ z ∈ l, 1 ≤ z ∧ z ≤ 1000000) → l.sum = 3 * (l.length : Int) - 6 → clo (-1) l → ∃ ds, triS k l names = some ds
  | 0, l, names, hl, hb, hs, h => by
    match l, hl with
    | [a, b, c], _ =>
      have ha := hb a (by simp)
      have hb' := hb b (by simp)
      have hc := hb c (by simp)
      simp at hs
      obtain rfl : a = 1 := by omega
      obtain rfl : b = 1 := by omega
      obtain rfl : c = 1 := by omega
      exact ⟨[], by simp [triS]⟩
  | k + 1, l, names, hl, hb, hs, h => by
    have hne : l ≠ [] := by intro e; rw [e] at hl; simp at hl
    cases he : ear l with
    | none =>
      exact (clo_two h hne fun z hz => by
        unfold ear at he
        rw [List.findIdx?_eq_none_iff] at he
        have h1 := he z hz
        have h2 := hb z hz
        have h3 : ¬ (1 = z) := by simpa using h1
        omega).elim
    | some i =>
      obtain ⟨x, y, v, r1, r2, r3⟩ := cut_rot (i := i) (by omega) (fun z hz => by have := hb z hz; omega) (ear_lt he).2
      have hx := hb x ((r1.mem x).2 (by simp))
      have hy := hb y ((r1.mem y).2 (by simp))
      have hr : clo (-1) (x :: 1 :: y :: v) := r1.clo.1 h
      have hlr : l.length = v.length + 3 := by rw [r1.length]; simp
      have hsr : l.sum = x + (1 + (y + v.sum)) := by rw [r1.sum]; simp
      have hxy : 2 ≤ x ∧ 2 ≤ y := by
        refine Classical.byContradiction fun hc => ?_
        have := clo_adj (e := -1) (.inr rfl) (fun z hz => (hb z ((r1.mem z).2 hz)).1) (by intro e; rw [e] at hlr; simp at hlr; omega) (by omega) (fun l e _ hne he hp hc => clo_sum l.length l e rfl hne he hp hc) hr
        simp only [List.sum_cons, List.length_cons] at this
        omega
      have hok : okC l i = true := by rw [r3, decide_eq_true_eq]; omega
      have hcl := cutL_length (ear_lt he).1
      obtain ⟨ds, hd⟩ := clo_tri k (cutL l i) (names.eraseIdx i) (by omega) (fun z hz => by
        rw [r2.mem] at hz
        simp only [List.mem_cons] at hz
        rcases hz with rfl | rfl | hz
        · omega
        · omega
        · exact hb z ((r1.mem z).2 (by simp [hz]))) (by
          rw [r2.sum, hcl]
          simp only [List.sum_cons]
          omega) (by rw [r2.clo, ← clo_take]; exact hr)
      refine ⟨cutD names i :: ds, ?_⟩
      unfold triS
      rw [he]
      simp only [hok, if_true, hd, Option.map_some]
/-- A quiddity closes up. -/
theorem quid_clo {l : List Int} (h : (trOf l).isSome = true) : clo (-1) l := by
  have hn : inB 3 12 (l.length : Int) = true := by
    unfold trOf at h
    split at h
    · assumption
    · simp at h
  have hb : l.all (inB 1 12) = true := by
    cases hb : l.all (inB 1 12) with
    | true => rfl
    | false => rw [trOf_bad l hb] at h; simp at h
  have hs := trOf_spec l hb hn
  rw [inB_iff] at hn
  cases ht : triS (l.length - 3) l (nameL l.length) with
  | none => rw [ht] at hs; rw [← hs] at h; simp at h
  | some ds =>
    have hb' : ∀ z ∈ l, 1 ≤ z ∧ z ≤ 1000000 := fun z hz => by
      have := List.all_eq_true.1 hb z hz
      rw [inB_iff] at this
      omega
    exact tri_clo (l.length - 3) l _ ds (by omega) hb' ht
/-- A positive list that closes up is a quiddity, if its sum is right. -/
theorem clo_quid {l : List Int} (hn : 3 ≤ l.length ∧ l.length ≤ 12) (hb : ∀ z ∈ l, 1 ≤ z ∧ z ≤ 1000000) (hs : l.sum = 3 * (l.length : Int) - 6) (h : clo (-1) l) : (trOf l).isSome = true := by
  obtain ⟨ds, hd⟩ := clo_tri (l.length - 3) l (nameL l.length) (by omega) hb hs h
  obtain ⟨h1, h2⟩ := triS_tri (l.length - 3) l (nameL l.length) ds (nameL_sorted _) (by omega) (by rw [nameL_length]; omega) (fun v hv => by have := hb v hv; omega) hd
  unfold trOf
  rw [if_pos (by rw [inB_iff]; omega), h1]
  simp only
  rw [if_pos (cnts_quid.1 h2)]
  rfl
/-- A list read backwards closes up too. -/
def tp4 (m : M4) : M4 := (m.1, -m.2.2.1, -m.2.1, m.2.2.2)
theorem MM_rev : ∀ l : List Int, MM l.reverse = tp4 (MM l)
  | [] => rfl
  | a :: l => by
    rw [List.reverse_cons, MM_append, MM_rev l]
    show mul4 (tp4 (MM l)) (mul4 (A4 a) one4) = tp4 (mul4 (A4 a) (MM l))
    rw [mul4_one']
    obtain ⟨p, q, r, s⟩ := MM l
    simp only [mul4, tp4, A4, Prod.mk.injEq]
    refine ⟨?_, ?_, ?_, ?_⟩ <;> grind
theorem clo_rev {l : List Int} {e : Int} (h : clo e l) : clo e l.reverse := by
  unfold clo at h ⊢
  rw [MM_rev, h]
  simp [tp4]


end Go.Proofs.W
