import Derived.Test.YtaoeghfoifhhcaaGreatMCxWk4
set_option linter.unusedVariables false
set_option linter.unusedSimpArgs false
set_option maxRecDepth 100000
set_option maxHeartbeats 4000000
namespace Go.Proofs.W
open Go Go.Gm Go.Proofs
open Go.RowKit Go.Shelf
def F55_sh : FSh := ⟨[(.one (.si .i64))], []⟩
def F55_L8_sh : LSh := ⟨(fun ex => match ex with | .norm => [(0, none), (4, none), (5, none)] | .exit i => if i = 0 then [(4, none)] else [] | .ret => [(2, none), (3, none)]), [(0, (.one (.si .i64))), (4, (.one (.rw 0 0))), (5, (.one (.si .i64)))], [(.row 0 (.int .i64))], [⟨(.exit 0), [(4, (.one (.rw 0 0)))], [(.row 0 (.int .i64))]⟩], [], []⟩
noncomputable def F55_L8_step : ((Int × Unit × Int) × List (Int)) → T (((Int × Unit × Int) × List (Int)) ⊕ (Unit × List (Int))) := fun ((n, (), k), out) =>
 (.test (decide ((w64 (2 * k)) ≤ n))
 (.test (decide (k > 2))
 (.sub (F79 k) fun z0 =>
 (.test (decide ((0 ≤ (w64 (n - (w64 (2 * k))))) ∧ ((w64 (n - (w64 (2 * k)))) ≤ 63)))
 (.sub (F91 ((w64 (n - 4)), (w64 ((w64 (2 * k)) - 4)))) fun z1 =>
 (.test (decide (k ≠ 0))
 (.test (decide ((0 ≤ k) ∧ (k < (out.length : Int))))
 (.sub (out[(0 + (Int.toNat k))]?) fun z2 =>
 (.test (decide ((0 = 0) ∧ (out.length = (List.length (List.set out (0 + (Int.toNat k)) (w64 (Int.tdiv (w64 ((w64 ((w64 (n * (w64 (1 * ((2 : Int) ^ (Int.toNat (w64 (n - (w64 (2 * k)))))))))) * z1)) * z0)) k)))))))
 (.ret (Sum.inl ((n, ((), (w64 (k + 1)))), (List.set out (0 + (Int.toNat k)) (w64 (Int.tdiv (w64 ((w64 ((w64 (n * (w64 (1 * ((2 : Int) ^ (Int.toNat (w64 (n - (w64 (2 * k)))))))))) * z1)) * z0)) k))))))
 .fail))
 .fail)
 .fail))
 .fail))
 (.test (decide ((0 ≤ (w64 (n - (w64 (2 * k))))) ∧ ((w64 (n - (w64 (2 * k)))) ≤ 63)))
 (.sub (F91 ((w64 (n - 4)), (w64 ((w64 (2 * k)) - 4)))) fun z3 =>
 (.test (decide (k ≠ 0))
 (.test (decide ((0 ≤ k) ∧ (k < (out.length : Int))))
 (.sub (out[(0 + (Int.toNat k))]?) fun z4 =>
 (.test (decide ((0 = 0) ∧ (out.length = (List.length (List.set out (0 + (Int.toNat k)) (w64 (Int.tdiv (w64 ((w64 ((w64 (n * (w64 (1 * ((2 : Int) ^ (Int.toNat (w64 (n - (w64 (2 * k)))))))))) * z3)) * 1)) k)))))))
 (.ret (Sum.inl ((n, ((), (w64 (k + 1)))), (List.set out (0 + (Int.toNat k)) (w64 (Int.tdiv (w64 ((w64 ((w64 (n * (w64 (1 * ((2 : Int) ^ (Int.toNat (w64 (n - (w64 (2 * k)))))))))) * z3)) * 1)) k))))))
 .fail))
 .fail)
 .fail))
 .fail))
 (.test (decide ((0 = 0) ∧ (out.length = out.length)))
 (.ret (Sum.inr ((), out)))
 .fail))
noncomputable def F55_L8 (v) := loopO (fun v => (F55_L8_step v).run) v
def F55_fo : List FO := [⟨[(.one (.rw 0 0)), (.one .sb)], [(.row 0 (.int .i64))]⟩]
noncomputable def F55_t : Int → T ((Unit × Bool) × List (Int)) := fun n =>
 (.sub (F66 n) fun z0 =>
 (.test (! z0)
 (.test true
 (.ret (((), false), ([] : List (Int))))
 .fail)
 (.test (decide ((0 ≤ (w64 (n + 1))) ∧ (((w64 (n + 1)) ≤ (w64 (n + 1))) ∧ (((Int.toNat (w64 (n + 1))) * 9) ≤ 140737488355328))))
 (.test (n == 3)
 (.test (decide (((0 : Int) ≤ (3 : Int)) ∧ (3 < ((Int.toNat (w64 (n + 1))) : Int))))
 (.sub ((List.replicate (Int.toNat (w64 (n + 1))) (0 : Int))[3]?) fun z1 =>
 (.test (decide ((0 = 0) ∧ ((Int.toNat (w64 (n + 1))) = (List.length (List.set (List.replicate (Int.toNat (w64 (n + 1))) (0 : Int)) 3 (1 : Int))))))
 (.ret (((), true), (List.set (List.replicate (Int.toNat (w64 (n + 1))) (0 : Int)) 3 (1 : Int))))
 .fail))
 .fail)
 (.test (decide ((0 = 0) ∧ ((Int.toNat (w64 (n + 1))) = (List.length (List.replicate (Int.toNat (w64 (n + 1))) (0 : Int))))))
 (.sub (F55_L8 ((n, ((), (2 : Int))), (List.replicate (Int.toNat (w64 (n + 1))) (0 : Int)))) fun z2 =>
 (.test (decide ((0 = 0) ∧ (z2.2.length = z2.2.length)))
 (.ret (((), true), z2.2))
 .fail))
 .fail))
 .fail)))
noncomputable def F55 (v) := (F55_t v).run
noncomputable def F55_E : TEnv := (((E0.add1 n_F66 F66_sh F66_fo F66).add1 n_F79 F79_sh F79_fo F79).add1 n_F91 F91_sh F91_fo F91)
theorem F55_Eok : (F55_E).OK := (((E0ok.add1 F66_ok).add1 F79_ok).add1 F91_ok)
noncomputable def F55_told : Nat → Option SealT := fun id => if id = 8 then some (LSh.told F55_L8_sh 0 (F55_L8_step)) else none
theorem F55_L8_ok : ToldOK Tryz.prog 0 (loopAt (bodyOf fn_F55) [0]) (LSh.told F55_L8_sh 0 (F55_L8_step)) :=
 loop_ok (E := F55_E) (F55_Eok) (told := F55_told) (l := F55_L8_sh) (step := F55_L8_step) (loopsOK_of (ls := []) (by kernel_rfl) trivial) (by kernel_rfl) (fun v => by kernel_rfl)
theorem F55_ok : FOK Tryz.prog n_F55 F55_sh F55_fo F55 :=
 fn_ok (E := F55_E) (F55_Eok) (told := F55_told) (fl := []) (c := bodyOf fn_F55) (s := F55_sh) (l := F55_fo) (tree := F55_t) fnat_F55 (by kernel_rfl) (by kernel_rfl) (by kernel_rfl) (loopsOK_of (ls := [loopAt (bodyOf fn_F55) [0]]) (by kernel_rfl) ⟨.inr ⟨_, by kernel_rfl, F55_L8_ok⟩, trivial⟩) (fun v => by kernel_rfl)
theorem F55_L8_eq (n : Int) (hn : 4 ≤ n ∧ n ≤ 12) : ∀ (m : Nat) (k : Int) (out : List Int), 2 ≤ k → k + m ≤ 1000 → n < 2 * k + 2 * m → (out.length : Int) = n + 1 → F55_L8 ((n, ((), k)), out) = some ((), earG (earV chI n) n m k out)
 | 0, k, out, hk, hk2, hm, hl => by
  have w : w64 (2 * k) = 2 * k := w64_id (by omega) (by omega)
  simp only [F55_L8, earG]
  refine loopO_done ?_
  rw [F55_L8_step, w, T.run_test, if_neg (by rw [decide_eq_true_eq]; omega), T.run_test, if_pos (by simp), T.run_ret]
 | m + 1, k, out, hk, hkm, hm, hl => by
  have w : w64 (2 * k) = 2 * k := w64_id (by omega) (by omega)
  rw [earG]
  by_cases hc : 2 * k ≤ n
  ·have w1 : w64 (n - 2 * k) = n - 2 * k := w64_id (by omega) (by omega)
   have w2 : w64 (k + 1) = k + 1 := w64_id (by omega) (by omega)
   have w3 : w64 (n - 4) = n - 4 := w64_id (by omega) (by omega)
   have w4 : w64 (2 * k - 4) = 2 * k - 4 := w64_id (by omega) (by omega)
   have ech := choose_I (n - 4) (2 * k - 4) (by omega)
   have hkl : k.toNat < out.length := by omega
   rw [if_pos hc, ← F55_L8_eq n hn m (k + 1) (out.set k.toNat (earV chI n k)) (by omega) (by omega) (by omega) (by simpa using hl)]
   simp only [F55_L8]
   refine loopO_next ?_
   have hv : earV chI n k = w64 (Int.tdiv (w64 ((w64 ((w64 (n * (w64 (1 * ((2 : Int) ^ (Int.toNat (n - 2 * k))))))) * chI (n - 4) (2 * k - 4))) * catE k)) k) := by unfold earV; rw [w, w1, w3, w4]
   rw [hv, F55_L8_step, w, w1, w3, w4, w2, T.run_test, if_pos (decide_eq_true hc), T.run_test]
   unfold catE
   by_cases hk2 : k > 2
   ·rw [if_pos (decide_eq_true hk2), if_pos hk2, T.run_sub, F79_eq k (by omega) (by omega), Option.bind_some, T.run_test, if_pos (decide_eq_true (by omega)), T.run_sub, ech, Option.bind_some, T.run_test, if_pos (decide_eq_true (by omega)), T.run_test, if_pos (decide_eq_true (by omega)), T.run_sub, Nat.zero_add, List.getElem?_eq_getElem hkl, Option.bind_some, T.run_test, if_pos (by simp), T.run_ret]
   ·rw [if_neg (by rw [decide_eq_true_eq]; exact hk2), if_neg hk2, T.run_test, if_pos (decide_eq_true (by omega)), T.run_sub, ech, Option.bind_some, T.run_test, if_pos (decide_eq_true (by omega)), T.run_test, if_pos (decide_eq_true (by omega)), T.run_sub, Nat.zero_add, List.getElem?_eq_getElem hkl, Option.bind_some, T.run_test, if_pos (by simp), T.run_ret]
  ·rw [if_neg hc]
   simp only [F55_L8]
   refine loopO_done ?_
   rw [F55_L8_step, w, T.run_test, if_neg (by rw [decide_eq_true_eq]; omega), T.run_test, if_pos (by simp), T.run_ret]
theorem F55_eq (n : Int) : F55 n = some (((), inB 3 12 n), if inB 3 12 n then earT n else []) := by
 rw [F55, F55_t, T.run_sub, F66, F66_t, T.run_sub, F90_eq, Option.bind_some, T.run_ret, Option.bind_some, T.run_test]
 cases hn : inB 3 12 n with
 | false => rfl
 | true =>
  rw [inB_iff] at hn
  have w : w64 (n + 1) = n + 1 := w64_id (by omega) (by omega)
  rw [if_neg (by simp), w, T.run_test, if_pos (decide_eq_true (by omega)), T.run_test]
  unfold earT
  by_cases h3 : n = 3
  ·subst h3
   rfl
  ·have hL := F55_L8_eq n (by omega) 10 2 (List.replicate (n + 1).toNat 0) (by omega) (by omega) (by omega) (by simp; omega)
   rw [if_neg (by rw [beq_iff_eq]; exact h3), if_neg h3, T.run_test, if_pos (by simp), T.run_sub, hL, Option.bind_some, T.run_test, if_pos (by simp), T.run_ret]
   rfl
def F56_sh : FSh := ⟨[(.one (.si .i64))], []⟩
def F56_L8_sh : LSh := ⟨(fun ex => match ex with | .norm => [(0, none), (4, none), (5, none)] | .exit i => if i = 0 then [(4, none)] else [] | .ret => [(2, none), (3, none)]), [(0, (.one (.si .i64))), (4, (.one (.rw 0 0))), (5, (.one (.si .i64)))], [(.row 0 (.int .i64))], [⟨(.exit 0), [(4, (.one (.rw 0 0)))], [(.row 0 (.int .i64))]⟩], [], []⟩
noncomputable def F56_L8_step : ((Int × Unit × Int) × List (Int)) → T (((Int × Unit × Int) × List (Int)) ⊕ (Unit × List (Int))) := fun ((n, (), k), out) =>
 (.test (decide ((w64 (2 * k)) ≤ n))
 (.test (decide ((0 ≤ (w64 (n - (w64 (2 * k))))) ∧ ((w64 (n - (w64 (2 * k)))) ≤ 63)))
 (.sub (F75 ((w64 (n - 4)), (w64 ((w64 (2 * k)) - 4)))) fun z0 =>
 (.sub (F80 k) fun z1 =>
 (.test (decide (k ≠ 0))
 (.test (decide ((0 ≤ k) ∧ (k < (out.length : Int))))
 (.sub (out[(0 + (Int.toNat k))]?) fun z2 =>
 (.test (decide ((0 = 0) ∧ (out.length = (List.length (List.set out (0 + (Int.toNat k)) (w64 (Int.tdiv (w64 ((w64 ((w64 (n * (w64 (1 * ((2 : Int) ^ (Int.toNat (w64 (n - (w64 (2 * k)))))))))) * z0)) * z1)) k)))))))
 (.ret (Sum.inl ((n, ((), (w64 (k + 1)))), (List.set out (0 + (Int.toNat k)) (w64 (Int.tdiv (w64 ((w64 ((w64 (n * (w64 (1 * ((2 : Int) ^ (Int.toNat (w64 (n - (w64 (2 * k)))))))))) * z0)) * z1)) k))))))
 .fail))
 .fail)
 .fail)))
 .fail)
 (.test (decide ((0 = 0) ∧ (out.length = out.length)))
 (.ret (Sum.inr ((), out)))
 .fail))
noncomputable def F56_L8 (v) := loopO (fun v => (F56_L8_step v).run) v
def F56_fo : List FO := [⟨[(.one (.rw 0 0)), (.one .sb)], [(.row 0 (.int .i64))]⟩]
noncomputable def F56_t : Int → T ((Unit × Bool) × List (Int)) := fun n =>
 (.sub (F114 n) fun z0 =>
 (.test (! z0)
 (.test true
 (.ret (((), false), ([] : List (Int))))
 .fail)
 (.test (decide ((0 ≤ (w64 (n + 1))) ∧ (((w64 (n + 1)) ≤ (w64 (n + 1))) ∧ (((Int.toNat (w64 (n + 1))) * 9) ≤ 140737488355328))))
 (.test (n == 3)
 (.test (decide (((0 : Int) ≤ (3 : Int)) ∧ (3 < ((Int.toNat (w64 (n + 1))) : Int))))
 (.sub ((List.replicate (Int.toNat (w64 (n + 1))) (0 : Int))[3]?) fun z1 =>
 (.test (decide ((0 = 0) ∧ ((Int.toNat (w64 (n + 1))) = (List.length (List.set (List.replicate (Int.toNat (w64 (n + 1))) (0 : Int)) 3 (1 : Int))))))
 (.ret (((), true), (List.set (List.replicate (Int.toNat (w64 (n + 1))) (0 : Int)) 3 (1 : Int))))
 .fail))
 .fail)
 (.test (decide ((0 = 0) ∧ ((Int.toNat (w64 (n + 1))) = (List.length (List.replicate (Int.toNat (w64 (n + 1))) (0 : Int))))))
 (.sub (F56_L8 ((n, ((), (2 : Int))), (List.replicate (Int.toNat (w64 (n + 1))) (0 : Int)))) fun z2 =>
 (.test (decide ((0 = 0) ∧ (z2.2.length = z2.2.length)))
 (.ret (((), true), z2.2))
 .fail))
 .fail))
 .fail)))
noncomputable def F56 (v) := (F56_t v).run
noncomputable def F56_E : TEnv := (((E0.add1 n_F114 F114_sh F114_fo F114).add1 n_F75 F75_sh F75_fo F75).add1 n_F80 F80_sh F80_fo F80)
theorem F56_Eok : (F56_E).OK := (((E0ok.add1 F114_ok).add1 F75_ok).add1 F80_ok)
noncomputable def F56_told : Nat → Option SealT := fun id => if id = 8 then some (LSh.told F56_L8_sh 0 (F56_L8_step)) else none
theorem F56_L8_ok : ToldOK Tryz.prog 0 (loopAt (bodyOf fn_F56) [0]) (LSh.told F56_L8_sh 0 (F56_L8_step)) :=
 loop_ok (E := F56_E) (F56_Eok) (told := F56_told) (l := F56_L8_sh) (step := F56_L8_step) (loopsOK_of (ls := []) (by kernel_rfl) trivial) (by kernel_rfl) (fun v => by kernel_rfl)
theorem F56_ok : FOK Tryz.prog n_F56 F56_sh F56_fo F56 :=
 fn_ok (E := F56_E) (F56_Eok) (told := F56_told) (fl := []) (c := bodyOf fn_F56) (s := F56_sh) (l := F56_fo) (tree := F56_t) fnat_F56 (by kernel_rfl) (by kernel_rfl) (by kernel_rfl) (loopsOK_of (ls := [loopAt (bodyOf fn_F56) [0]]) (by kernel_rfl) ⟨.inr ⟨_, by kernel_rfl, F56_L8_ok⟩, trivial⟩) (fun v => by kernel_rfl)
theorem F56_L8_eq (n : Int) (hn : 4 ≤ n ∧ n ≤ 12) : ∀ (m : Nat) (k : Int) (out : List Int), 2 ≤ k → k + m ≤ 1000 → n < 2 * k + 2 * m → (out.length : Int) = n + 1 → F56_L8 ((n, ((), k)), out) = some ((), earG (earV chS n) n m k out)
 | 0, k, out, hk, hk2, hm, hl => by
  have w : w64 (2 * k) = 2 * k := w64_id (by omega) (by omega)
  simp only [F56_L8, earG]
  refine loopO_done ?_
  rw [F56_L8_step, w, T.run_test, if_neg (by rw [decide_eq_true_eq]; omega), T.run_test, if_pos (by simp), T.run_ret]
 | m + 1, k, out, hk, hkm, hm, hl => by
  have w : w64 (2 * k) = 2 * k := w64_id (by omega) (by omega)
  rw [earG]
  by_cases hc : 2 * k ≤ n
  ·have w1 : w64 (n - 2 * k) = n - 2 * k := w64_id (by omega) (by omega)
   have w2 : w64 (k + 1) = k + 1 := w64_id (by omega) (by omega)
   have w3 : w64 (n - 4) = n - 4 := w64_id (by omega) (by omega)
   have w4 : w64 (2 * k - 4) = 2 * k - 4 := w64_id (by omega) (by omega)
   have ech := choose_S (n - 4) (2 * k - 4) (by omega)
   have hkl : k.toNat < out.length := by omega
   rw [if_pos hc, ← F56_L8_eq n hn m (k + 1) (out.set k.toNat (earV chS n k)) (by omega) (by omega) (by omega) (by simpa using hl)]
   simp only [F56_L8]
   refine loopO_next ?_
   have hv : earV chS n k = w64 (Int.tdiv (w64 ((w64 ((w64 (n * (w64 (1 * ((2 : Int) ^ (Int.toNat (n - 2 * k))))))) * chS (n - 4) (2 * k - 4))) * catE k)) k) := by unfold earV; rw [w, w1, w3, w4]
   rw [hv, F56_L8_step, w, w1, w3, w4, w2, T.run_test, if_pos (decide_eq_true hc), T.run_test, if_pos (decide_eq_true (by omega)), T.run_sub, ech, Option.bind_some, T.run_sub, caCount_E k (by omega) (by omega), Option.bind_some, T.run_test, if_pos (decide_eq_true (by omega)), T.run_test, if_pos (decide_eq_true (by omega)), T.run_sub, Nat.zero_add, List.getElem?_eq_getElem hkl, Option.bind_some, T.run_test, if_pos (by simp), T.run_ret]
  ·rw [if_neg hc]
   simp only [F56_L8]
   refine loopO_done ?_
   rw [F56_L8_step, w, T.run_test, if_neg (by rw [decide_eq_true_eq]; omega), T.run_test, if_pos (by simp), T.run_ret]
theorem F56_eq (n : Int) : F56 n = some (((), inB 3 12 n), if inB 3 12 n then earT n else []) := by
 rw [F56, F56_t, T.run_sub, F114, F114_t, T.run_sub, F113_eq, Option.bind_some, T.run_ret, Option.bind_some, T.run_test]
 cases hn : inB 3 12 n with
 | false => rfl
 | true =>
  rw [inB_iff] at hn
  have w : w64 (n + 1) = n + 1 := w64_id (by omega) (by omega)
  rw [if_neg (by simp), w, T.run_test, if_pos (decide_eq_true (by omega)), T.run_test]
  unfold earT
  by_cases h3 : n = 3
  ·subst h3
   rfl
  ·have hL := F56_L8_eq n (by omega) 10 2 (List.replicate (n + 1).toNat 0) (by omega) (by omega) (by omega) (by simp; omega)
   have hs := ear_same n.toNat (by omega) (by omega)
   rw [Int.toNat_of_nonneg (by omega)] at hs
   rw [hs] at hL
   rw [if_neg (by rw [beq_iff_eq]; exact h3), if_neg h3, T.run_test, if_pos (by simp), T.run_sub, hL, Option.bind_some, T.run_test, if_pos (by simp), T.run_ret]
   rfl
def F45_sh : FSh := ⟨[(.one (.si .i64))], []⟩
def F45_L5_sh : LSh := ⟨(fun ex => match ex with | .norm => [(0, none), (4, none), (5, none)] | .exit i => if i = 0 then [(4, none)] else [] | .ret => [(2, none), (3, none)]), [(0, (.one (.si .i64))), (4, (.one (.rw 0 0))), (5, (.one (.si .i64)))], [(.row 0 (.int .i64))], [⟨(.exit 0), [(4, (.one (.rw 0 0)))], [(.row 0 (.int .i64))]⟩], [], []⟩
noncomputable def F45_L5_step : ((Int × Unit × Int) × List (Int)) → T (((Int × Unit × Int) × List (Int)) ⊕ (Unit × List (Int))) := fun ((n, (), k), out) =>
 (.test (decide (k ≤ (w64 (n - 2))))
 (.sub (F91 ((w64 ((w64 ((w64 (2 * n)) - 4)) - k)), (w64 (n - 2)))) fun z0 =>
 (.test (decide ((w64 ((w64 ((w64 (2 * n)) - 4)) - k)) ≠ 0))
 (.test (decide (1 ≤ 1))
 (.test (decide ((0 + out.length) ≤ out.length))
 (.test (decide ((2 * ((out.length + 1) * 9)) ≤ 140737488355328))
 (.test (decide ((0 = 0) ∧ ((out.length + 1) = (List.length ((win out 0 out.length) ++ [(w64 (Int.tdiv (w64 (k * z0)) (w64 ((w64 ((w64 (2 * n)) - 4)) - k))))])))))
 (.ret (Sum.inl ((n, ((), (w64 (k + 1)))), ((win out 0 out.length) ++ [(w64 (Int.tdiv (w64 (k * z0)) (w64 ((w64 ((w64 (2 * n)) - 4)) - k))))]))))
 .fail)
 .fail)
 .fail)
 .fail)
 .fail))
 (.test (decide ((0 = 0) ∧ (out.length = out.length)))
 (.ret (Sum.inr ((), out)))
 .fail))
noncomputable def F45_L5 (v) := loopO (fun v => (F45_L5_step v).run) v
def F45_fo : List FO := [⟨[(.one (.rw 0 0)), (.one .sb)], [(.row 0 (.int .i64))]⟩]
noncomputable def F45_t : Int → T ((Unit × Bool) × List (Int)) := fun n =>
 (.sub (F66 n) fun z0 =>
 (.test (! z0)
 (.test true
 (.ret (((), false), ([] : List (Int))))
 .fail)
 (.test true
 (.sub (F45_L5 ((n, ((), (1 : Int))), [(0 : Int)])) fun z1 =>
 (.test (decide ((0 = 0) ∧ (z1.2.length = z1.2.length)))
 (.ret (((), true), z1.2))
 .fail))
 .fail)))
noncomputable def F45 (v) := (F45_t v).run
noncomputable def F45_E : TEnv := ((E0.add1 n_F66 F66_sh F66_fo F66).add1 n_F91 F91_sh F91_fo F91)
theorem F45_Eok : (F45_E).OK := ((E0ok.add1 F66_ok).add1 F91_ok)
noncomputable def F45_told : Nat → Option SealT := fun id => if id = 5 then some (LSh.told F45_L5_sh 0 (F45_L5_step)) else none
theorem F45_L5_ok : ToldOK Tryz.prog 0 (loopAt (bodyOf fn_F45) [0]) (LSh.told F45_L5_sh 0 (F45_L5_step)) :=
 loop_ok (E := F45_E) (F45_Eok) (told := F45_told) (l := F45_L5_sh) (step := F45_L5_step) (loopsOK_of (ls := []) (by kernel_rfl) trivial) (by kernel_rfl) (fun v => by kernel_rfl)
theorem F45_ok : FOK Tryz.prog n_F45 F45_sh F45_fo F45 :=
 fn_ok (E := F45_E) (F45_Eok) (told := F45_told) (fl := []) (c := bodyOf fn_F45) (s := F45_sh) (l := F45_fo) (tree := F45_t) fnat_F45 (by kernel_rfl) (by kernel_rfl) (by kernel_rfl) (loopsOK_of (ls := [loopAt (bodyOf fn_F45) [0]]) (by kernel_rfl) ⟨.inr ⟨_, by kernel_rfl, F45_L5_ok⟩, trivial⟩) (fun v => by kernel_rfl)
theorem F45_L5_eq (n : Nat) (hn : 3 ≤ n ∧ n ≤ 12) : ∀ (m t : Nat) (out : List Int), t + m = n - 2 → out = 0 :: (List.range t).map (fun (t : Nat) => corV chI n ((t : Int) + 1)) → F45_L5 (((n : Int), ((), (t : Int) + 1)), out) = some ((), corT n)
 | 0, t, out, ht, ho => by
  have w2 : w64 ((n : Int) - 2) = (n : Int) - 2 := w64_id (by omega) (by omega)
  simp only [F45_L5]
  refine loopO_done ?_
  have : out = corT n := by rw [ho]; unfold corT; rw [show ((n : Int) - 2).toNat = t by omega]
  rw [F45_L5_step, w2, T.run_test, if_neg (by rw [decide_eq_true_eq]; omega), T.run_test, if_pos (by simp), T.run_ret, this]
 | m + 1, t, out, ht, ho => by
  have w1 : w64 ((t : Int) + 1 + 1) = ((t + 1 : Nat) : Int) + 1 := by rw [w64_id (by omega) (by omega)]; omega
  have w2 : w64 ((n : Int) - 2) = (n : Int) - 2 := w64_id (by omega) (by omega)
  have w3 : w64 (w64 (w64 (2 * (n : Int)) - 4) - ((t : Int) + 1)) = 2 * (n : Int) - 4 - (t + 1) := by rw [w64_id (z := 2 * (n : Int)) (by omega) (by omega), w64_id (z := 2 * (n : Int) - 4) (by omega) (by omega), w64_id (by omega) (by omega)]
  have hlen : out.length = t + 1 := by rw [ho]; simp
  rw [← F45_L5_eq n hn m (t + 1) (out ++ [corV chI n ((t : Int) + 1)]) (by omega) (by rw [ho, List.range_succ]; simp)]
  simp only [F45_L5]
  refine loopO_next ?_
  have hv : corV chI n ((t : Int) + 1) = w64 (Int.tdiv (w64 (((t : Int) + 1) * chI (2 * (n : Int) - 4 - (t + 1)) ((n : Int) - 2))) (2 * (n : Int) - 4 - (t + 1))) := by unfold corV; rw [w3, w2]
  rw [hv, F45_L5_step, w2, w3, w1, T.run_test, if_pos (decide_eq_true (by omega)), T.run_sub, choose_I _ _ (by omega), Option.bind_some, T.run_test, if_pos (decide_eq_true (by omega)), T.run_test, if_pos (by simp), T.run_test, if_pos (by simp), T.run_test, if_pos (decide_eq_true (by omega))]
  simp only [win_all]
  rw [T.run_test, if_pos (decide_eq_true (by simp)), T.run_ret]
theorem F45_eq (n : Int) : F45 n = some (((), inB 3 12 n), if inB 3 12 n then corT n else []) := by
 rw [F45, F45_t, T.run_sub, F66, F66_t, T.run_sub, F90_eq, Option.bind_some, T.run_ret, Option.bind_some, T.run_test]
 cases hn : inB 3 12 n with
 | false => rfl
 | true =>
  rw [inB_iff] at hn
  obtain ⟨k, rfl⟩ : ∃ k : Nat, n = k := ⟨n.toNat, by omega⟩
  have hL := F45_L5_eq k (by omega) (k - 2) 0 [0] (by omega) rfl
  have hL' : F45_L5 (((k : Int), ((), (1 : Int))), [(0 : Int)]) = _ := hL
  rw [if_neg (by simp), T.run_test, if_pos rfl, T.run_sub, hL', Option.bind_some, T.run_test, if_pos (by simp), T.run_ret]
  rfl
def F46_sh : FSh := ⟨[(.one (.si .i64))], []⟩
def F46_L5_sh : LSh := ⟨(fun ex => match ex with | .norm => [(0, none), (4, none), (5, none)] | .exit i => if i = 0 then [(4, none)] else [] | .ret => [(2, none), (3, none)]), [(0, (.one (.si .i64))), (4, (.one (.rw 0 0))), (5, (.one (.si .i64)))], [(.row 0 (.int .i64))], [⟨(.exit 0), [(4, (.one (.rw 0 0)))], [(.row 0 (.int .i64))]⟩], [], []⟩
noncomputable def F46_L5_step : ((Int × Unit × Int) × List (Int)) → T (((Int × Unit × Int) × List (Int)) ⊕ (Unit × List (Int))) := fun ((n, (), k), out) =>
 (.test (decide (k ≤ (w64 (n - 2))))
 (.sub (F75 ((w64 ((w64 ((w64 (2 * n)) - 4)) - k)), (w64 (n - 2)))) fun z0 =>
 (.test (decide ((w64 ((w64 ((w64 (2 * n)) - 4)) - k)) ≠ 0))
 (.test (decide ((0 ≤ k) ∧ (k < (out.length : Int))))
 (.sub (out[(0 + (Int.toNat k))]?) fun z1 =>
 (.test (decide ((0 = 0) ∧ (out.length = (List.length (List.set out (0 + (Int.toNat k)) (w64 (Int.tdiv (w64 (k * z0)) (w64 ((w64 ((w64 (2 * n)) - 4)) - k)))))))))
 (.ret (Sum.inl ((n, ((), (w64 (k + 1)))), (List.set out (0 + (Int.toNat k)) (w64 (Int.tdiv (w64 (k * z0)) (w64 ((w64 ((w64 (2 * n)) - 4)) - k))))))))
 .fail))
 .fail)
 .fail))
 (.test (decide ((0 = 0) ∧ (out.length = out.length)))
 (.ret (Sum.inr ((), out)))
 .fail))
noncomputable def F46_L5 (v) := loopO (fun v => (F46_L5_step v).run) v
def F46_fo : List FO := [⟨[(.one (.rw 0 0)), (.one .sb)], [(.row 0 (.int .i64))]⟩]
noncomputable def F46_t : Int → T ((Unit × Bool) × List (Int)) := fun n =>
 (.sub (F114 n) fun z0 =>
 (.test (! z0)
 (.test true
 (.ret (((), false), ([] : List (Int))))
 .fail)
 (.test (decide ((0 ≤ (w64 (n - 1))) ∧ (((w64 (n - 1)) ≤ (w64 (n - 1))) ∧ (((Int.toNat (w64 (n - 1))) * 9) ≤ 140737488355328))))
 (.test (decide ((0 = 0) ∧ ((Int.toNat (w64 (n - 1))) = (List.length (List.replicate (Int.toNat (w64 (n - 1))) (0 : Int))))))
 (.sub (F46_L5 ((n, ((), (1 : Int))), (List.replicate (Int.toNat (w64 (n - 1))) (0 : Int)))) fun z1 =>
 (.test (decide ((0 = 0) ∧ (z1.2.length = z1.2.length)))
 (.ret (((), true), z1.2))
 .fail))
 .fail)
 .fail)))
noncomputable def F46 (v) := (F46_t v).run
noncomputable def F46_E : TEnv := ((E0.add1 n_F114 F114_sh F114_fo F114).add1 n_F75 F75_sh F75_fo F75)
theorem F46_Eok : (F46_E).OK := ((E0ok.add1 F114_ok).add1 F75_ok)
noncomputable def F46_told : Nat → Option SealT := fun id => if id = 5 then some (LSh.told F46_L5_sh 0 (F46_L5_step)) else none
theorem F46_L5_ok : ToldOK Tryz.prog 0 (loopAt (bodyOf fn_F46) [0]) (LSh.told F46_L5_sh 0 (F46_L5_step)) :=
 loop_ok (E := F46_E) (F46_Eok) (told := F46_told) (l := F46_L5_sh) (step := F46_L5_step) (loopsOK_of (ls := []) (by kernel_rfl) trivial) (by kernel_rfl) (fun v => by kernel_rfl)
theorem F46_ok : FOK Tryz.prog n_F46 F46_sh F46_fo F46 :=
 fn_ok (E := F46_E) (F46_Eok) (told := F46_told) (fl := []) (c := bodyOf fn_F46) (s := F46_sh) (l := F46_fo) (tree := F46_t) fnat_F46 (by kernel_rfl) (by kernel_rfl) (by kernel_rfl) (loopsOK_of (ls := [loopAt (bodyOf fn_F46) [0]]) (by kernel_rfl) ⟨.inr ⟨_, by kernel_rfl, F46_L5_ok⟩, trivial⟩) (fun v => by kernel_rfl)
theorem F46_L5_eq (n : Nat) (hn : 3 ≤ n ∧ n ≤ 12) : ∀ (m t : Nat) (out : List Int), t + m = n - 2 → out.length = n - 1 → out.take (t + 1) = (corT n).take (t + 1) → F46_L5 (((n : Int), ((), (t : Int) + 1)), out) = some ((), corT n)
 | 0, t, out, ht, hlen, ho => by
  have hcl : (corT n).length = n - 1 := (tab_facts n hn.1 hn.2).2.2.2.1
  have w2 : w64 ((n : Int) - 2) = (n : Int) - 2 := w64_id (by omega) (by omega)
  simp only [F46_L5]
  refine loopO_done ?_
  have : out = corT n := by rwa [List.take_of_length_le (by omega), List.take_of_length_le (by omega)] at ho
  rw [F46_L5_step, w2, T.run_test, if_neg (by rw [decide_eq_true_eq]; omega), T.run_test, if_pos (by simp), T.run_ret, this]
 | m + 1, t, out, ht, hlen, ho => by
  have hcl : (corT n).length = n - 1 := (tab_facts n hn.1 hn.2).2.2.2.1
  have w1 : w64 ((t : Int) + 1 + 1) = ((t + 1 : Nat) : Int) + 1 := by rw [w64_id (by omega) (by omega)]; omega
  have w2 : w64 ((n : Int) - 2) = (n : Int) - 2 := w64_id (by omega) (by omega)
  have w3 : w64 (w64 (w64 (2 * (n : Int)) - 4) - ((t : Int) + 1)) = 2 * (n : Int) - 4 - (t + 1) := by rw [w64_id (z := 2 * (n : Int)) (by omega) (by omega), w64_id (z := 2 * (n : Int) - 4) (by omega) (by omega), w64_id (by omega) (by omega)]
  have hkl : t + 1 < out.length := by omega
  have hck : t + 1 < (corT n).length := by omega
  have hcv : (corT n)[t + 1] = corV chI n ((t : Int) + 1) := by
   have : (corT n)[t + 1]? = some (corV chI n ((t : Int) + 1)) := by
    unfold corT
    rw [List.getElem?_cons_succ, List.getElem?_map, List.getElem?_range (by omega)]
    rfl
   rw [List.getElem?_eq_getElem hck] at this
   exact Option.some.inj this
  have hnew : (out.set (t + 1) (corV chI n ((t : Int) + 1))).take (t + 1 + 1) = (corT n).take (t + 1 + 1) := by
   rw [List.take_succ_eq_append_getElem (by simpa using hkl), List.take_succ_eq_append_getElem hck, List.getElem_set_self, List.take_set_of_le (Nat.le_refl _), ho, hcv]
  rw [← F46_L5_eq n hn m (t + 1) (out.set (t + 1) (corV chI n ((t : Int) + 1))) (by omega) (by simpa using hlen) hnew, ← cor_same n hn.1 hn.2 t (by omega)]
  simp only [F46_L5]
  refine loopO_next ?_
  have hv : corV chS n ((t : Int) + 1) = w64 (Int.tdiv (w64 (((t : Int) + 1) * chS (2 * (n : Int) - 4 - (t + 1)) ((n : Int) - 2))) (2 * (n : Int) - 4 - (t + 1))) := by unfold corV; rw [w3, w2]
  rw [hv, F46_L5_step, w2, w3, w1, T.run_test, if_pos (decide_eq_true (by omega)), T.run_sub, choose_S _ _ (by omega), Option.bind_some, T.run_test, if_pos (decide_eq_true (by omega)), T.run_test, if_pos (decide_eq_true (by omega)), T.run_sub, Nat.zero_add, show ((t : Int) + 1).toNat = t + 1 by omega, List.getElem?_eq_getElem hkl, Option.bind_some, T.run_test, if_pos (by simp), T.run_ret]
theorem F46_eq (n : Int) : F46 n = some (((), inB 3 12 n), if inB 3 12 n then corT n else []) := by
 rw [F46, F46_t, T.run_sub, F114, F114_t, T.run_sub, F113_eq, Option.bind_some, T.run_ret, Option.bind_some, T.run_test]
 cases hn : inB 3 12 n with
 | false => rfl
 | true =>
  rw [inB_iff] at hn
  obtain ⟨k, rfl⟩ : ∃ k : Nat, n = k := ⟨n.toNat, by omega⟩
  have w : w64 ((k : Int) - 1) = (k : Int) - 1 := w64_id (by omega) (by omega)
  have hL := F46_L5_eq k (by omega) (k - 2) 0 (List.replicate ((k : Int) - 1).toNat 0) (by omega) (by rw [List.length_replicate]; omega) (by
   obtain ⟨j, hj⟩ : ∃ j, ((k : Int) - 1).toNat = j + 1 := ⟨k - 2, by omega⟩
   rw [hj, List.replicate_succ]
   rfl)
  have hL' : F46_L5 (((k : Int), ((), (1 : Int))), List.replicate ((k : Int) - 1).toNat 0) = _ := hL
  rw [if_neg (by simp), w, T.run_test, if_pos (decide_eq_true (by omega)), T.run_test, if_pos (by simp), T.run_sub, hL', Option.bind_some, T.run_test, if_pos (by simp), T.run_ret]
  rfl
def F18_sh : FSh := ⟨[(.one (.si .i64))], []⟩
def F18_fo : List FO := [⟨[(.one (.si .i64)), (.one .sb)], []⟩]
noncomputable def F18_t : Int → T (Int × Bool) := fun n =>
 (.sub (F66 n) fun z0 =>
 (.test (! z0)
 (.ret ((0 : Int), false))
 (.sub (F79 n) fun z1 =>
 (.ret (z1, true)))))
noncomputable def F18 (v) := (F18_t v).run
noncomputable def F18_E : TEnv := ((E0.add1 n_F66 F66_sh F66_fo F66).add1 n_F79 F79_sh F79_fo F79)
theorem F18_Eok : (F18_E).OK := ((E0ok.add1 F66_ok).add1 F79_ok)
noncomputable def F18_told : Nat → Option SealT := fun id => none
theorem F18_ok : FOK Tryz.prog n_F18 F18_sh F18_fo F18 :=
 fn_ok (E := F18_E) (F18_Eok) (told := F18_told) (fl := []) (c := bodyOf fn_F18) (s := F18_sh) (l := F18_fo) (tree := F18_t) fnat_F18 (by kernel_rfl) (by kernel_rfl) (by kernel_rfl) (loopsOK_of (ls := []) (by kernel_rfl) trivial) (fun v => by kernel_rfl)
def cntR (n : Int) : Int × Bool := if inB 3 12 n then (catV n, true) else (0, false)
theorem F18_eq (n : Int) : F18 n = some (cntR n) := by
 rw [F18, F18_t, T.run_sub, F66, F66_t, T.run_sub, F90_eq, Option.bind_some, T.run_ret, Option.bind_some, T.run_test, cntR]
 cases hn : inB 3 12 n with
 | false => rfl
 | true =>
  rw [inB_iff] at hn
  rw [if_neg (by simp), T.run_sub, F79_eq n (by omega) (by omega), Option.bind_some, T.run_ret]
  rfl
def F19_sh : FSh := ⟨[(.one (.si .i64))], []⟩
def F19_fo : List FO := [⟨[(.one (.si .i64)), (.one .sb)], []⟩]
noncomputable def F19_t : Int → T (Int × Bool) := fun n =>
 (.sub (F114 n) fun z0 =>
 (.test (! z0)
 (.ret ((0 : Int), false))
 (.sub (F80 n) fun z1 =>
 (.ret (z1, true)))))
noncomputable def F19 (v) := (F19_t v).run
noncomputable def F19_E : TEnv := ((E0.add1 n_F114 F114_sh F114_fo F114).add1 n_F80 F80_sh F80_fo F80)
theorem F19_Eok : (F19_E).OK := ((E0ok.add1 F114_ok).add1 F80_ok)
noncomputable def F19_told : Nat → Option SealT := fun id => none
theorem F19_ok : FOK Tryz.prog n_F19 F19_sh F19_fo F19 :=
 fn_ok (E := F19_E) (F19_Eok) (told := F19_told) (fl := []) (c := bodyOf fn_F19) (s := F19_sh) (l := F19_fo) (tree := F19_t) fnat_F19 (by kernel_rfl) (by kernel_rfl) (by kernel_rfl) (loopsOK_of (ls := []) (by kernel_rfl) trivial) (fun v => by kernel_rfl)
theorem F19_eq (n : Int) : F19 n = some (cntR n) := by
 rw [F19, F19_t, T.run_sub, F114, F114_t, T.run_sub, F113_eq, Option.bind_some, T.run_ret, Option.bind_some, T.run_test, cntR]
 cases hn : inB 3 12 n with
 | false => rfl
 | true =>
  rw [inB_iff] at hn
  rw [if_neg (by simp), T.run_sub, F80_eq n (by omega) (by omega), Option.bind_some, T.run_ret]
  rfl
def F106_sh : FSh := ⟨[(.one (.sl (.int .i64) false false)), (.one (.sl (.int .i64) false false))], []⟩
def F106_L4_sh : LSh := ⟨(fun ex => match ex with | .norm => [(0, none), (1, none), (12, none), (13, none)] | .exit i => if i = 0 then [] else [] | .ret => [(4, none)]), [(0, (.one (.sl (.int .i64) false false))), (1, (.one (.sl (.int .i64) false false))), (12, (.one (.si .i64))), (13, (.one (.si .i64)))], [], [⟨.ret, [(4, (.one .sb))], []⟩, ⟨(.exit 0), [], []⟩], [], []⟩
noncomputable def F106_L4_step : (List (Int) × List (Int) × Int × Int) → T ((List (Int) × List (Int) × Int × Int) ⊕ (Bool ⊕ Unit)) := fun (a, b, t12, t13) =>
 (.test (decide (t13 < t12))
 (.test (decide ((0 ≤ t13) ∧ (t13 < (a.length : Int))))
 (.sub (a[(Int.toNat t13)]?) fun z0 =>
 (.test (decide ((0 ≤ t13) ∧ (t13 < (b.length : Int))))
 (.sub (b[(Int.toNat t13)]?) fun z1 =>
 (.test (z0 != z1)
 (.ret (Sum.inr (Sum.inl false)))
 (.ret (Sum.inl (a, (b, (t12, (w64 (t13 + 1)))))))))
 .fail))
 .fail)
 (.ret (Sum.inr (Sum.inr ()))))
noncomputable def F106_L4 (v) := loopO (fun v => (F106_L4_step v).run) v
def F106_fo : List FO := [⟨[(.one .sb)], []⟩]
noncomputable def F106_t : (List (Int) × List (Int)) → T Bool := fun (a, b) =>
 (.test ((a.length : Int) != (b.length : Int))
 (.ret false)
 (.sub (F106_L4 (a, (b, ((a.length : Int), (0 : Int))))) fun z0 =>
 (.test (Sum.isLeft z0)
 (.sub (Sum.getLeft? z0) fun z1 =>
 (.ret z1))
 (.sub (Sum.getRight? z0) fun z2 =>
 (.ret true)))))
noncomputable def F106 (v) := (F106_t v).run
noncomputable def F106_E : TEnv := E0
theorem F106_Eok : (F106_E).OK := E0ok
noncomputable def F106_told : Nat → Option SealT := fun id => if id = 4 then some (LSh.told F106_L4_sh 0 (F106_L4_step)) else none
theorem F106_L4_ok : ToldOK Tryz.prog 0 (loopAt (bodyOf fn_F106) [0]) (LSh.told F106_L4_sh 0 (F106_L4_step)) :=
 loop_ok (E := F106_E) (F106_Eok) (told := F106_told) (l := F106_L4_sh) (step := F106_L4_step) (loopsOK_of (ls := []) (by kernel_rfl) trivial) (by kernel_rfl) (fun v => by kernel_rfl)
theorem F106_ok : FOK Tryz.prog n_F106 F106_sh F106_fo F106 :=
 fn_ok (E := F106_E) (F106_Eok) (told := F106_told) (fl := []) (c := bodyOf fn_F106) (s := F106_sh) (l := F106_fo) (tree := F106_t) fnat_F106 (by kernel_rfl) (by kernel_rfl) (by kernel_rfl) (loopsOK_of (ls := [loopAt (bodyOf fn_F106) [0]]) (by kernel_rfl) ⟨.inr ⟨_, by kernel_rfl, F106_L4_ok⟩, trivial⟩) (fun v => by kernel_rfl)
theorem dSame_val (a b : List Int) (hl : a.length < 4611686018427387904) : F106 (a, b) = some (decide (a = b)) := by
 by_cases hab : a.length = b.length
 ·have h := loop_any (step := fun v => (F106_L4_step v).run) (xs := a.zip b) (fun p => p.1 != p.2) (fun k => (a, b, (a.length : Int), (k : Int))) (.inl false) (.inr ())
   (fun k x hx => by
    have hk := getElem?_lt hx
    rw [List.length_zip, hab, Nat.min_self] at hk
    rw [List.getElem?_zip_eq_some] at hx
    simp only [F106_L4_step, T.run, Option.bind_some, Int.toNat_natCast, hx.1, hx.2]
    rw [w64_id (by omega) (by omega)]
    have hka : k < a.length := by omega
    cases x.1 != x.2 <;> simp [hk, hka])
   (by simp [F106_L4_step, T.run, hab])
  simp only [F106, F106_t, T.run, F106_L4]
  simp only [Int.natCast_zero] at h
  rw [h, hab]
  have e : (a.zip b).any (fun p => p.1 != p.2) = !decide (a = b) := zip_any_ne a b hab
  rw [e]
  cases decide (a = b) <;> simp
 ·simp only [F106, F106_t, T.run]
  have : a ≠ b := fun e => hab (by rw [e])
  simp [this]
  omega
def F35_sh : FSh := ⟨[(.one (.si .i64))], []⟩
def F35_fo : List FO := [⟨[(.one .sb)], []⟩]
noncomputable def F35_t : Int → T Bool := fun n =>
 (.sub (F90 (n, ((3 : Int), (8 : Int)))) fun z0 =>
 (.ret z0))
noncomputable def F35 (v) := (F35_t v).run
noncomputable def F35_E : TEnv := (E0.add1 n_F90 F90_sh F90_fo F90)
theorem F35_Eok : (F35_E).OK := (E0ok.add1 F90_ok)
noncomputable def F35_told : Nat → Option SealT := fun id => none
theorem F35_ok : FOK Tryz.prog n_F35 F35_sh F35_fo F35 :=
 fn_ok (E := F35_E) (F35_Eok) (told := F35_told) (fl := []) (c := bodyOf fn_F35) (s := F35_sh) (l := F35_fo) (tree := F35_t) fnat_F35 (by kernel_rfl) (by kernel_rfl) (by kernel_rfl) (loopsOK_of (ls := []) (by kernel_rfl) trivial) (fun v => by kernel_rfl)
def F61_sh : FSh := ⟨[(.one (.si .i64)), (.ag [(.si .i64), (.si .i64)])], []⟩
def F61_fo : List FO := [⟨[(.one .sb)], []⟩]
noncomputable def F61_t : (Int × (Int × Int)) → T Bool := fun (n, (d_0, d_1)) =>
 (.sub (F90 (d_0, ((0 : Int), (w64 (n - 1))))) fun z0 =>
 (.test z0
 (.sub (F90 (d_1, ((0 : Int), (w64 (n - 1))))) fun z1 =>
 (.test z1
 (.test (decide ((w64 (d_1 - d_0)) > 1))
 (.test (d_0 == 0)
 (.ret (! (d_1 == (w64 (n - 1)))))
 (.ret true))
 (.ret false))
 (.ret false)))
 (.ret false)))
noncomputable def F61 (v) := (F61_t v).run
noncomputable def F61_E : TEnv := (E0.add1 n_F90 F90_sh F90_fo F90)
theorem F61_Eok : (F61_E).OK := (E0ok.add1 F90_ok)
noncomputable def F61_told : Nat → Option SealT := fun id => none
theorem F61_ok : FOK Tryz.prog n_F61 F61_sh F61_fo F61 :=
 fn_ok (E := F61_E) (F61_Eok) (told := F61_told) (fl := []) (c := bodyOf fn_F61) (s := F61_sh) (l := F61_fo) (tree := F61_t) fnat_F61 (by kernel_rfl) (by kernel_rfl) (by kernel_rfl) (loopsOK_of (ls := []) (by kernel_rfl) trivial) (fun v => by kernel_rfl)
theorem F61_eq (n : Int) (d : Dg) (h1 : 0 ≤ n) (h2 : n ≤ 1000000) : F61 (n, d) = some (inDg n d) := by
 obtain ⟨a, b⟩ := d
 have w1 : w64 (n - 1) = n - 1 := w64_id (by omega) (by omega)
 simp only [F61, F61_t, T.run, F90_eq, Option.bind_some, w1, inDg]
 cases ha : inB 0 (n - 1) a with
 | false => simp
 | true =>
  cases hb : inB 0 (n - 1) b with
  | false => simp
  | true =>
   rw [inB_iff] at ha hb
   have w2 : w64 (b - a) = b - a := w64_id (by omega) (by omega)
   rw [w2]
   by_cases h4 : a = 0
   ·subst h4
    rw [Int.sub_zero]
    by_cases h5 : b > 1 <;> simp [h5, beq_int]
   ·by_cases h5 : b - a > 1 <;> simp [h5, h4]
def F51_sh : FSh := ⟨[(.one (.si .i64))], []⟩
def F51_L6_sh : LSh := ⟨(fun ex => match ex with | .norm => [(0, none), (3, none), (4, none), (5, none), (8, none), (9, none)] | .exit i => if i = 2 then [(0, none), (3, none), (8, none), (9, none)] else if i = 1 then [(0, none), (3, none), (8, none), (9, none)] else if i = 0 then [(3, none)] else [] | .ret => [(2, none)]), [(0, (.one (.si .i64))), (3, (.one (.rw 0 0))), (4, (.one (.si .i64))), (5, (.one (.si .i64))), (8, (.one (.si .i64))), (9, (.one (.si .i64)))], [(.row 0 (.pair (.int .i64) (.int .i64)))], [⟨(.exit 2), [(0, (.one (.si .i64))), (3, (.one (.rw 0 0))), (8, (.one (.si .i64))), (9, (.one (.si .i64)))], [(.row 0 (.pair (.int .i64) (.int .i64)))]⟩], [], []⟩
noncomputable def F51_L6_step : ((Int × Unit × Int × Int × Int × Int) × List ((Int × Int))) → T (((Int × Unit × Int × Int × Int × Int) × List ((Int × Int))) ⊕ ((Int × Unit × Int × Int) × List ((Int × Int)))) := fun ((n, (), low, high, t8, t9), out) =>
 (.test (decide (high < n))
 (.sub (F61 (n, (low, high))) fun z0 =>
 (.test z0
 (.test (decide (1 ≤ (List.length (List.set (List.replicate 1 ((0 : Int), (0 : Int))) 0 (low, high)))))
 (.test (decide ((0 + out.length) ≤ out.length))
 (.test (decide ((2 * ((out.length + (List.length (win (List.set (List.replicate 1 ((0 : Int), (0 : Int))) 0 (low, high)) 0 1))) * 17)) ≤ 140737488355328))
 (.test (decide ((0 = 0) ∧ ((out.length + (List.length (win (List.set (List.replicate 1 ((0 : Int), (0 : Int))) 0 (low, high)) 0 1))) = (List.length ((win out 0 out.length) ++ (win (List.set (List.replicate 1 ((0 : Int), (0 : Int))) 0 (low, high)) 0 1))))))
 (.ret (Sum.inl ((n, ((), (low, ((w64 (high + 1)), (t8, t9))))), ((win out 0 out.length) ++ (win (List.set (List.replicate 1 ((0 : Int), (0 : Int))) 0 (low, high)) 0 1)))))
 .fail)
 .fail)
 .fail)
 .fail)
 (.test (decide ((0 = 0) ∧ (out.length = out.length)))
 (.ret (Sum.inl ((n, ((), (low, ((w64 (high + 1)), (t8, t9))))), out)))
 .fail)))
 (.test (decide ((0 = 0) ∧ (out.length = out.length)))
 (.ret (Sum.inr ((n, ((), (t8, t9))), out)))
 .fail))
noncomputable def F51_L6 (v) := loopO (fun v => (F51_L6_step v).run) v
def F51_L3_sh : LSh := ⟨(fun ex => match ex with | .norm => [(0, none), (3, none), (8, none), (9, none)] | .exit i => if i = 0 then [(3, none)] else [] | .ret => [(2, none)]), [(0, (.one (.si .i64))), (3, (.one (.rw 0 0))), (8, (.one (.si .i64))), (9, (.one (.si .i64)))], [(.row 0 (.pair (.int .i64) (.int .i64)))], [⟨(.exit 0), [(3, (.one (.rw 0 0)))], [(.row 0 (.pair (.int .i64) (.int .i64)))]⟩], [], []⟩
noncomputable def F51_L3_step : ((Int × Unit × Int × Int) × List ((Int × Int))) → T (((Int × Unit × Int × Int) × List ((Int × Int))) ⊕ (Unit × List ((Int × Int)))) := fun ((n, (), t8, t9), out) =>
 (.test (decide (t9 < t8))
 (.test (decide ((0 = 0) ∧ (out.length = out.length)))
 (.sub (F51_L6 ((n, ((), (t9, ((w64 (t9 + 1)), (t8, t9))))), out)) fun z0 =>
 (.test (decide ((0 = 0) ∧ (z0.2.length = z0.2.length)))
 (.ret (Sum.inl ((z0.1.1, ((), (z0.1.2.2.1, (w64 (z0.1.2.2.2 + 1))))), z0.2)))
 .fail))
 .fail)
 (.test (decide ((0 = 0) ∧ (out.length = out.length)))
 (.ret (Sum.inr ((), out)))
 .fail))
noncomputable def F51_L3 (v) := loopO (fun v => (F51_L3_step v).run) v
def F51_fo : List FO := [⟨[(.one (.rw 0 0))], [(.row 0 (.pair (.int .i64) (.int .i64)))]⟩]
noncomputable def F51_t : Int → T (Unit × List ((Int × Int))) := fun n =>
 (.test true
 (.sub (F51_L3 ((n, ((), (n, (0 : Int)))), (List.replicate 0 ((0 : Int), (0 : Int))))) fun z0 =>
 (.test (decide ((0 = 0) ∧ (z0.2.length = z0.2.length)))
 (.ret ((), z0.2))
 .fail))
 .fail)
noncomputable def F51 (v) := (F51_t v).run
noncomputable def F51_E : TEnv := (E0.add1 n_F61 F61_sh F61_fo F61)
theorem F51_Eok : (F51_E).OK := (E0ok.add1 F61_ok)
noncomputable def F51_told : Nat → Option SealT := fun id => if id = 6 then some (LSh.told F51_L6_sh 0 (F51_L6_step)) else if id = 3 then some (LSh.told F51_L3_sh 0 (F51_L3_step)) else none
theorem F51_L6_ok : ToldOK Tryz.prog 0 (loopAt (bodyOf fn_F51) [0, 0]) (LSh.told F51_L6_sh 0 (F51_L6_step)) :=
 loop_ok (E := F51_E) (F51_Eok) (told := F51_told) (l := F51_L6_sh) (step := F51_L6_step) (loopsOK_of (ls := []) (by kernel_rfl) trivial) (by kernel_rfl) (fun v => by kernel_rfl)
theorem F51_L3_ok : ToldOK Tryz.prog 0 (loopAt (bodyOf fn_F51) [0]) (LSh.told F51_L3_sh 0 (F51_L3_step)) :=
 loop_ok (E := F51_E) (F51_Eok) (told := F51_told) (l := F51_L3_sh) (step := F51_L3_step) (loopsOK_of (ls := [loopAt (bodyOf fn_F51) [0, 0]]) (by kernel_rfl) ⟨.inr ⟨_, by kernel_rfl, F51_L6_ok⟩, trivial⟩) (by kernel_rfl) (fun v => by kernel_rfl)
theorem F51_ok : FOK Tryz.prog n_F51 F51_sh F51_fo F51 :=
 fn_ok (E := F51_E) (F51_Eok) (told := F51_told) (fl := []) (c := bodyOf fn_F51) (s := F51_sh) (l := F51_fo) (tree := F51_t) fnat_F51 (by kernel_rfl) (by kernel_rfl) (by kernel_rfl) (loopsOK_of (ls := [loopAt (bodyOf fn_F51) [0]]) (by kernel_rfl) ⟨.inr ⟨_, by kernel_rfl, F51_L3_ok⟩, trivial⟩) (fun v => by kernel_rfl)
theorem F51_row (n a : Nat) (t8 t9 : Int) (hn : n ≤ 1000) : ∀ (m b : Nat) (out : List Dg), b + m = n → out.length + m ≤ 1000000 →
  F51_L6 (((n : Int), ((), ((a : Int), ((b : Int), (t8, t9))))), out) = some (((n : Int), ((), (t8, t9))), out ++ rowD n a b)
 | 0, b, out, hb, ho => by
  have : b = n := by omega
  subst this
  rw [rowD_end, List.append_nil]
  simp only [F51_L6]
  exact loopO_done (by simp [F51_L6_step, T.run])
 | m + 1, b, out, hb, ho => by
  have c0 : (b : Int) < (n : Int) := by omega
  have w1 : w64 ((b : Int) + 1) = ((b + 1 : Nat) : Int) := by rw [w64_id (by omega) (by omega)]; omega
  have c1 : 2 * ((out.length + 1) * 17) ≤ 140737488355328 := by omega
  have hd := F61_eq (n : Int) ((a : Int), (b : Int)) (by omega) (by omega)
  rw [rowD_step (by omega : b < n)]
  cases hg : inDg n ((a : Int), (b : Int)) with
  | true =>
   have ih := F51_row n a t8 t9 hn m (b + 1) (out ++ [((a : Int), (b : Int))]) (by omega) (by simp; omega)
   simp only [F51_L6] at ih ⊢
   rw [hg] at hd
   have st : (F51_L6_step (((n : Int), ((), ((a : Int), ((b : Int), (t8, t9))))), out)).run = some (.inl (((n : Int), ((), ((a : Int), (((b + 1 : Nat) : Int), (t8, t9))))), out ++ [((a : Int), (b : Int))])) := by
    simp only [F51_L6_step, T.run, c0, hd, decide_true, if_true, Option.bind_some, win_one, win_all, List.length_cons, List.length_nil, Nat.zero_add, c1, w1, List.length_set, List.length_replicate, Nat.le_refl, List.length_append, true_and]
   rw [loopO_next st, ih]
   simp
  | false =>
   have ih := F51_row n a t8 t9 hn m (b + 1) out (by omega) (by omega)
   simp only [F51_L6] at ih ⊢
   rw [hg] at hd
   have st : (F51_L6_step (((n : Int), ((), ((a : Int), ((b : Int), (t8, t9))))), out)).run = some (.inl (((n : Int), ((), ((a : Int), (((b + 1 : Nat) : Int), (t8, t9))))), out)) := by
    simp only [F51_L6_step, T.run, c0, hd, decide_true, if_true, Option.bind_some, Bool.false_eq_true, if_false, w1, true_and]
   rw [loopO_next st, ih]
   simp
theorem F51_rows (n : Nat) (hn : n ≤ 12) : ∀ (m a : Nat) (out : List Dg), a + m = n → out.length ≤ 1000 * a →
  F51_L3 (((n : Int), ((), ((n : Int), (a : Int)))), out) = some ((), out ++ rowsD n a)
 | 0, a, out, ha, ho => by
  have : a = n := by omega
  subst this
  rw [rowsD_end, List.append_nil]
  simp only [F51_L3]
  exact loopO_done (by simp [F51_L3_step, T.run])
 | m + 1, a, out, ha, ho => by
  have c0 : (a : Int) < (n : Int) := by omega
  have w1 : w64 ((a : Int) + 1) = ((a + 1 : Nat) : Int) := by rw [w64_id (by omega) (by omega)]; omega
  have hr := F51_row n a (n : Int) (a : Int) (by omega) (n - (a + 1)) (a + 1) out (by omega) (by omega)
  rw [← rowD_front n a (a + 1) (by omega)] at hr
  have hl := rowD_len n a 0
  have ih := F51_rows n hn m (a + 1) (out ++ rowD n a 0) (by omega) (by rw [List.length_append]; omega)
  rw [rowsD_step (by omega : a < n), ← List.append_assoc]
  simp only [F51_L3] at ih ⊢
  rw [← ih]
  refine loopO_next ?_
  simp only [F51_L3_step, T.run, c0, decide_true, if_true, true_and, w1, hr, Option.bind_some]
theorem F51_eq (n : Nat) (hn : n ≤ 12) : F51 (n : Int) = some ((), dgL n) := by
 have h := F51_rows n hn n 0 [] (by omega) (by simp)
 have e : rowsD n 0 = dgL n := by unfold rowsD; rw [List.drop_zero, dgL_rows]
 rw [e, List.nil_append, Int.natCast_zero] at h
 simp only [F51, F51_t, T.run, List.replicate_zero, h, Option.bind_some]
 simp
def F20_sh : FSh := ⟨[.one (.sl (.pair (.int .i64) (.int .i64)) false false)], []⟩
def F20_fo : List FO := [⟨[.one (.rw 0 0)], [.row 0 (.pair (.int .i64) (.int .i64))]⟩]
def F20 (v : List (Int × Int)) : Option (Unit × List (Int × Int)) := if v.length ≤ maxLen ∧ v.length * 16 ≤ 140737488355328 then some ((), v) else none
def F20_ren : Shelf.Ren := ⟨fun _ => n_F20, fun t => if t = 4 then 4 else if t = 22 then 31 else 52, fun x => x⟩
theorem F20_lay : SlLaysE0.n41 Tryz.prog F20_ren :=
 { mixed := by kernel_rfl, f41 := ⟨"slices.Clone[[]loop.example/g01236/impl.Diagonal,loop.example/g01236/impl.Diagonal]", by kernel_rfl, by kernel_rfl⟩, t4 := by kernel_rfl, a4 := fun w => by kernel_rfl, z4 := fun w => by kernel_rfl, v4 := fun w => by kernel_rfl, t22 := by kernel_rfl, a22 := fun w => by kernel_rfl, z22 := fun w => by kernel_rfl, v22 := fun w => by kernel_rfl }
noncomputable def F20_info : TypeInfo := (Tryz.prog.info? 52).get (by kernel_rfl)
theorem F20_ok : FOK Tryz.prog n_F20 F20_sh F20_fo F20 :=
 clone_ok (e := (.pair (.int .i64) (.int .i64))) ⟨_, fnat_F20, by kernel_rfl, by kernel_rfl⟩ (ρr := F20_ren) rfl F20_lay rfl F20_info (.agg #[.int .i64 0, .int .i64 0]) 16 (by kernel_rfl) (by kernel_rfl) (by kernel_rfl) (by kernel_rfl) (by decide) (by decide) (fun w => by kernel_rfl)
def F81_sh : FSh := ⟨[(.ag [(.si .i64), (.si .i64)]), (.ag [(.si .i64), (.si .i64)])], []⟩
def F81_fo : List FO := [⟨[(.one .sb)], []⟩]
noncomputable def F81_t : ((Int × Int) × (Int × Int)) → T Bool := fun ((d_0, d_1), (e_0, e_1)) =>
 (.test (decide (d_0 < e_0))
 (.test (decide (e_0 < d_1))
 (.test (decide (d_1 < e_1))
 (.ret true)
 (.test (decide (e_0 < d_0))
 (.test (decide (d_0 < e_1))
 (.ret (decide (e_1 < d_1)))
 (.ret false))
 (.ret false)))
 (.test (decide (e_0 < d_0))
 (.test (decide (d_0 < e_1))
 (.ret (decide (e_1 < d_1)))
 (.ret false))
 (.ret false)))
 (.test (decide (e_0 < d_0))
 (.test (decide (d_0 < e_1))
 (.ret (decide (e_1 < d_1)))
 (.ret false))
 (.ret false)))
noncomputable def F81 (v) := (F81_t v).run
noncomputable def F81_E : TEnv := E0
theorem F81_Eok : (F81_E).OK := E0ok
noncomputable def F81_told : Nat → Option SealT := fun id => none
theorem F81_ok : FOK Tryz.prog n_F81 F81_sh F81_fo F81 :=
 fn_ok (E := F81_E) (F81_Eok) (told := F81_told) (fl := []) (c := bodyOf fn_F81) (s := F81_sh) (l := F81_fo) (tree := F81_t) fnat_F81 (by kernel_rfl) (by kernel_rfl) (by kernel_rfl) (loopsOK_of (ls := []) (by kernel_rfl) trivial) (fun v => by kernel_rfl)
theorem F81_eq (d e : Dg) : F81 (d, e) = some (crossD d e) := by
 obtain ⟨a, b⟩ := d
 obtain ⟨c, f⟩ := e
 simp only [F81, F81_t, T.run, crossD]
 by_cases h1 : a < c <;> by_cases h2 : c < b <;> by_cases h3 : b < f <;> by_cases h4 : c < a <;> by_cases h5 : a < f <;> by_cases h6 : f < b <;> simp [h1, h2, h3, h4, h5, h6]
def F16_sh : FSh := ⟨[(.ag [(.si .i64), (.si .i64)]), (.one (.pf 0 0 0)), (.one (.pf 2 0 0))], [(.rcd 0 [(.rw 1 0)]), (.row 0 (.pair (.int .i64) (.int .i64))), (.rcd 0 [(.si .i64)])]⟩
def F16_fo : List FO := [⟨[(.one .sb)], [(.rcd 0 [(.rw 1 0)]), (.row 0 (.pair (.int .i64) (.int .i64))), (.rcd 0 [(.si .i64)])]⟩]
noncomputable def F16_t : (((Int × Int) × Unit × Unit) × (Unit × List ((Int × Int)) × Int)) → T (Bool × (Unit × List ((Int × Int)) × Int)) := fun (((e_0, e_1), (), ()), ((), t1_r, t2_0)) =>
 (.test (decide ((0 ≤ t2_0) ∧ (t2_0 < (t1_r.length : Int))))
 (.sub (t1_r[(0 + (Int.toNat t2_0))]?) fun z0 =>
 (.sub (F81 ((z0.1, z0.2), (e_0, e_1))) fun z1 =>
 (.test (decide ((0 = 0) ∧ (t1_r.length = t1_r.length)))
 (.ret (z1, ((), (t1_r, t2_0))))
 .fail)))
 .fail)
noncomputable def F16 (v) := (F16_t v).run
noncomputable def F16_E : TEnv := (E0.add1 n_F81 F81_sh F81_fo F81)
theorem F16_Eok : (F16_E).OK := (E0ok.add1 F81_ok)
noncomputable def F16_told : Nat → Option SealT := fun id => none
theorem F16_ok : FOK Tryz.prog n_F16 F16_sh F16_fo F16 :=
 fn_ok (E := F16_E) (F16_Eok) (told := F16_told) (fl := []) (c := bodyOf fn_F16) (s := F16_sh) (l := F16_fo) (tree := F16_t) fnat_F16 (by kernel_rfl) (by kernel_rfl) (by kernel_rfl) (loopsOK_of (ls := []) (by kernel_rfl) trivial) (fun v => by kernel_rfl)
def F2_sh : FSh := ⟨[(.one (.sl (.pair (.int .i64) (.int .i64)) false false)), (.clo n_F16 [(.one (.pf 0 0 0)), (.one (.pf 2 0 0))])], [(.rcd 0 [(.rw 1 0)]), (.row 0 (.pair (.int .i64) (.int .i64))), (.rcd 0 [(.si .i64)])]⟩
def F2_L2_sh : LSh := ⟨(fun ex => match ex with | .norm => [(0, none), (1, none), (7, none), (8, none)] | .exit i => if i = 0 then [] else [] | .ret => [(4, none)]), [(0, (.one (.sl (.pair (.int .i64) (.int .i64)) false false))), (1, (.clo n_F16 [(.one (.pf 0 0 0)), (.one (.pf 2 0 0))])), (7, (.one (.si .i64))), (8, (.one (.si .i64)))], [(.rcd 0 [(.rw 1 0)]), (.row 0 (.pair (.int .i64) (.int .i64))), (.rcd 0 [(.si .i64)])], [⟨.ret, [(4, (.one (.si .i64)))], [(.rcd 0 [(.rw 1 0)]), (.row 0 (.pair (.int .i64) (.int .i64))), (.rcd 0 [(.si .i64)])]⟩, ⟨(.exit 0), [], [(.rcd 0 [(.rw 1 0)]), (.row 0 (.pair (.int .i64) (.int .i64))), (.rcd 0 [(.si .i64)])]⟩], [], []⟩
noncomputable def F2_L2_step : ((List ((Int × Int)) × (Unit × Unit) × Int × Int) × (Unit × List ((Int × Int)) × Int)) → T (((List ((Int × Int)) × (Unit × Unit) × Int × Int) × (Unit × List ((Int × Int)) × Int)) ⊕ ((Int × (Unit × List ((Int × Int)) × Int)) ⊕ (Unit × (Unit × List ((Int × Int)) × Int)))) := fun ((s, ((), ()), t7, t8), ((), r0_r, r2_0)) =>
 (.test (decide (t8 < t7))
 (.test (decide ((0 ≤ t8) ∧ (t8 < (s.length : Int))))
 (.sub (s[(Int.toNat t8)]?) fun z0 =>
 (.test (decide ((0 = 0) ∧ (r0_r.length = r0_r.length)))
 (.sub (F16 (((z0.1, z0.2), ((), ())), ((), (r0_r, r2_0)))) fun z1 =>
 (.test z1.1
 (.test (decide ((0 = 0) ∧ (z1.2.2.1.length = z1.2.2.1.length)))
 (.ret (Sum.inr (Sum.inl (t8, ((), (z1.2.2.1, z1.2.2.2))))))
 .fail)
 (.test (decide ((0 = 0) ∧ (z1.2.2.1.length = z1.2.2.1.length)))
 (.ret (Sum.inl ((s, (((), ()), (t7, (w64 (t8 + 1))))), ((), (z1.2.2.1, z1.2.2.2)))))
 .fail)))
 .fail))
 .fail)
 (.test (decide ((0 = 0) ∧ (r0_r.length = r0_r.length)))
 (.ret (Sum.inr (Sum.inr ((), ((), (r0_r, r2_0))))))
 .fail))
noncomputable def F2_L2 (v) := loopO (fun v => (F2_L2_step v).run) v
def F2_fo : List FO := [⟨[(.one (.si .i64))], [(.rcd 0 [(.rw 1 0)]), (.row 0 (.pair (.int .i64) (.int .i64))), (.rcd 0 [(.si .i64)])]⟩]
noncomputable def F2_t : ((List ((Int × Int)) × (Unit × Unit)) × (Unit × List ((Int × Int)) × Int)) → T (Int × (Unit × List ((Int × Int)) × Int)) := fun ((s, ((), ())), ((), r0_r, r2_0)) =>
 (.test (decide ((0 = 0) ∧ (r0_r.length = r0_r.length)))
 (.sub (F2_L2 ((s, (((), ()), ((s.length : Int), (0 : Int)))), ((), (r0_r, r2_0)))) fun z0 =>
 (.test (Sum.isLeft z0)
 (.sub (Sum.getLeft? z0) fun z1 =>
 (.test (decide ((0 = 0) ∧ (z1.2.2.1.length = z1.2.2.1.length)))
 (.ret (z1.1, ((), (z1.2.2.1, z1.2.2.2))))
 .fail))
 (.sub (Sum.getRight? z0) fun z2 =>
 (.test (decide ((0 = 0) ∧ (z2.2.2.1.length = z2.2.2.1.length)))
 (.ret ((-1), ((), (z2.2.2.1, z2.2.2.2))))
 .fail))))
 .fail)
noncomputable def F2 (v) := (F2_t v).run
noncomputable def F2_E : TEnv := (E0.add1 n_F16 F16_sh F16_fo F16)
theorem F2_Eok : (F2_E).OK := (E0ok.add1 F16_ok)
noncomputable def F2_told : Nat → Option SealT := fun id => if id = 2 then some (LSh.told F2_L2_sh 3 (F2_L2_step)) else none
theorem F2_L2_ok : ToldOK Tryz.prog 3 (loopAt (bodyOf fn_F15) [0]) (LSh.told F2_L2_sh 3 (F2_L2_step)) :=
 loop_ok (E := F2_E) (F2_Eok) (told := F2_told) (l := F2_L2_sh) (step := F2_L2_step) (loopsOK_of (ls := []) (by kernel_rfl) trivial) (by kernel_rfl) (fun v => by kernel_rfl)
theorem F2_ok : FOK Tryz.prog n_F15 F2_sh F2_fo F2 :=
 fn_ok (E := F2_E) (F2_Eok) (told := F2_told) (fl := []) (c := bodyOf fn_F15) (s := F2_sh) (l := F2_fo) (tree := F2_t) fnat_F15 (by kernel_rfl) (by kernel_rfl) (by kernel_rfl) (loopsOK_of (ls := [loopAt (bodyOf fn_F15) [0]]) (by kernel_rfl) ⟨.inr ⟨_, by kernel_rfl, F2_L2_ok⟩, trivial⟩) (fun v => by kernel_rfl)
def F0_sh : FSh := ⟨[(.one (.sl (.pair (.int .i64) (.int .i64)) false false)), (.clo n_F16 [(.one (.pf 0 0 0)), (.one (.pf 2 0 0))])], [(.rcd 0 [(.rw 1 0)]), (.row 0 (.pair (.int .i64) (.int .i64))), (.rcd 0 [(.si .i64)])]⟩
def F0_fo : List FO := [⟨[(.one .sb)], [(.rcd 0 [(.rw 1 0)]), (.row 0 (.pair (.int .i64) (.int .i64))), (.rcd 0 [(.si .i64)])]⟩]
noncomputable def F0_t : ((List ((Int × Int)) × (Unit × Unit)) × (Unit × List ((Int × Int)) × Int)) → T (Bool × (Unit × List ((Int × Int)) × Int)) := fun ((s, ((), ())), ((), r0_r, r2_0)) =>
 (.test (decide ((0 = 0) ∧ (r0_r.length = r0_r.length)))
 (.sub (F2 ((s, ((), ())), ((), (r0_r, r2_0)))) fun z0 =>
 (.test (decide ((0 = 0) ∧ (z0.2.2.1.length = z0.2.2.1.length)))
 (.ret ((decide (z0.1 ≥ 0)), ((), (z0.2.2.1, z0.2.2.2))))
 .fail))
 .fail)
noncomputable def F0 (v) := (F0_t v).run
noncomputable def F0_E : TEnv := (E0.add1 n_F15 F2_sh F2_fo F2)
theorem F0_Eok : (F0_E).OK := (E0ok.add1 F2_ok)
noncomputable def F0_told : Nat → Option SealT := fun id => none
theorem F0_ok : FOK Tryz.prog n_F9 F0_sh F0_fo F0 :=
 fn_ok (E := F0_E) (F0_Eok) (told := F0_told) (fl := []) (c := bodyOf fn_F9) (s := F0_sh) (l := F0_fo) (tree := F0_t) fnat_F9 (by kernel_rfl) (by kernel_rfl) (by kernel_rfl) (loopsOK_of (ls := []) (by kernel_rfl) trivial) (fun v => by kernel_rfl)
def F21_sh : FSh := ⟨[(.one (.sl (.pair (.int .i64) (.int .i64)) false false)), (.one (.si .i64)), (.one (.pf 0 0 0)), (.one (.pf 1 0 0)), (.one (.pf 3 0 0)), (.one (.pf 5 0 0))], [(.rcd 0 [(.si .i64)]), (.rcd 0 [(.rw 2 0)]), (.row 0 (.list true (.pair (.int .i64) (.int .i64)))), (.rcd 0 [(.rw 4 0)]), (.row 0 (.pair (.int .i64) (.int .i64))), (.rcd 0 [(.clo n_F21 [(0, 0, 0), (1, 0, 0), (3, 0, 0), (5, 0, 0)])])]⟩
def F21_fo : List FO := [⟨[], [(.rcd 0 [(.si .i64)]), (.rcd 0 [(.rw 2 1)]), (.row 1 (.list true (.pair (.int .i64) (.int .i64)))), (.rcd 0 [(.rw 4 0)]), (.row 0 (.pair (.int .i64) (.int .i64))), (.rcd 0 [(.clo n_F21 [(0, 0, 0), (1, 0, 0), (3, 0, 0), (5, 0, 0)])])]⟩]
def F21_L3_sh : LSh := ⟨(fun ex => match ex with | .norm => [(0, none), (4, none), (5, none), (8, none)] | .exit i => if i = 0 then [] else [] | .ret => []), [(0, (.one (.sl (.pair (.int .i64) (.int .i64)) false false))), (4, (.one (.pf 3 0 0))), (5, (.one (.pf 5 0 0))), (8, (.one (.pf 6 0 0)))], [(.rcd 0 [(.si .i64)]), (.rcd 0 [(.rw 2 1)]), (.row 1 (.list true (.pair (.int .i64) (.int .i64)))), (.rcd 0 [(.rw 4 0)]), (.row 0 (.pair (.int .i64) (.int .i64))), (.rcd 0 [(.clo n_F21 [(0, 0, 0), (1, 0, 0), (3, 0, 0), (5, 0, 0)])]), (.rcd 0 [(.si .i64)])], [⟨(.exit 0), [], [(.rcd 0 [(.si .i64)]), (.rcd 0 [(.rw 2 1)]), (.row 1 (.list true (.pair (.int .i64) (.int .i64)))), (.rcd 0 [(.rw 4 0)]), (.row 0 (.pair (.int .i64) (.int .i64))), (.rcd 0 [(.clo n_F21 [(0, 0, 0), (1, 0, 0), (3, 0, 0), (5, 0, 0)])])]⟩], [], [2]⟩
noncomputable def F21_L3_step (recv : ((List ((Int × Int)) × Int × Unit × Unit × Unit × Unit) × (Int × Unit × List (List ((Int × Int))) × Unit × List ((Int × Int)) × Unit)) → Option (Unit × (Int × Unit × List (List ((Int × Int))) × Unit × List ((Int × Int)) × Unit))) : ((List ((Int × Int)) × Unit × Unit × Unit) × (Int × Unit × List (List ((Int × Int))) × Unit × List ((Int × Int)) × Unit × Int)) → T (((List ((Int × Int)) × Unit × Unit × Unit) × (Int × Unit × List (List ((Int × Int))) × Unit × List ((Int × Int)) × Unit × Int)) ⊕ (Unit × (Int × Unit × List (List ((Int × Int))) × Unit × List ((Int × Int)) × Unit))) := fun ((begin, (), (), ()), (r0_0, (), r1_r, (), t4_r, (), i_0)) =>
 (.test (decide (i_0 < (t4_r.length : Int)))
 (.test (decide ((0 = 0) ∧ (t4_r.length = t4_r.length)))
 (.sub (F0 ((begin, ((), ())), ((), (t4_r, i_0)))) fun z0 =>
 (.test (! z0.1)
 (.test (decide (0 ≤ (begin.length : Int)))
 (.test (decide (0 ≤ (begin.length : Int)))
 (.test (decide ((0 ≤ (Int.toNat (begin.length : Int))) ∧ (((Int.toNat (begin.length : Int)) = (Int.toNat (begin.length : Int))) ∧ ((Int.toNat (begin.length : Int)) ≤ begin.length))))
 (.test (decide ((0 ≤ z0.2.2.2) ∧ (z0.2.2.2 < (z0.2.2.1.length : Int))))
 (.sub (z0.2.2.1[(0 + (Int.toNat z0.2.2.2))]?) fun z1 =>
 (.test (decide (1 ≤ (List.length (List.set (List.replicate 1 ((0 : Int), (0 : Int))) 0 (z1.1, z1.2)))))
 (.test (decide (¬ (((List.length (win (List.set (List.replicate 1 ((0 : Int), (0 : Int))) 0 (z1.1, z1.2)) 0 1)) = 0) ∧ ((List.length (win begin 0 ((Int.toNat (begin.length : Int)) - 0))) ≠ 0))))
 (.test (decide ((2 * (((List.length (win begin 0 ((Int.toNat (begin.length : Int)) - 0))) + (List.length (win (List.set (List.replicate 1 ((0 : Int), (0 : Int))) 0 (z1.1, z1.2)) 0 1))) * (16 + 1))) ≤ 140737488355328))
 (.test (decide ((0 + ((List.length (win begin 0 ((Int.toNat (begin.length : Int)) - 0))) + (List.length (win (List.set (List.replicate 1 ((0 : Int), (0 : Int))) 0 (z1.1, z1.2)) 0 1)))) ≤ (List.length ((win begin 0 ((Int.toNat (begin.length : Int)) - 0)) ++ (win (List.set (List.replicate 1 ((0 : Int), (0 : Int))) 0 (z1.1, z1.2)) 0 1)))))
 (.test (decide ((0 = 0) ∧ (r1_r.length = r1_r.length)))
 (.test (decide ((0 = 0) ∧ (z0.2.2.1.length = z0.2.2.1.length)))
 (.sub (recv (((win ((win begin 0 ((Int.toNat (begin.length : Int)) - 0)) ++ (win (List.set (List.replicate 1 ((0 : Int), (0 : Int))) 0 (z1.1, z1.2)) 0 1)) 0 ((List.length (win begin 0 ((Int.toNat (begin.length : Int)) - 0))) + (List.length (win (List.set (List.replicate 1 ((0 : Int), (0 : Int))) 0 (z1.1, z1.2)) 0 1)))), ((w64 (z0.2.2.2 + 1)), ((), ((), ((), ()))))), (r0_0, ((), (r1_r, ((), (z0.2.2.1, ()))))))) fun z2 =>
 (.test (decide ((0 = 0) ∧ (z2.2.2.2.1.length = z2.2.2.2.1.length)))
 (.test (decide ((0 = 0) ∧ (z2.2.2.2.2.2.1.length = z2.2.2.2.2.2.1.length)))
 (.ret (Sum.inl ((begin, ((), ((), ()))), (z2.2.1, ((), (z2.2.2.2.1, ((), (z2.2.2.2.2.2.1, ((), (w64 (z0.2.2.2 + 1)))))))))))
 .fail)
 .fail))
 .fail)
 .fail)
 .fail)
 .fail)
 .fail)
 .fail))
 .fail)
 .fail)
 .fail)
 .fail)
 (.test (decide ((0 = 0) ∧ (r1_r.length = r1_r.length)))
 (.test (decide ((0 = 0) ∧ (z0.2.2.1.length = z0.2.2.1.length)))
 (.ret (Sum.inl ((begin, ((), ((), ()))), (r0_0, ((), (r1_r, ((), (z0.2.2.1, ((), (w64 (z0.2.2.2 + 1)))))))))))
 .fail)
 .fail)))
 .fail)
 (.test (decide ((0 = 0) ∧ (r1_r.length = r1_r.length)))
 (.test (decide ((0 = 0) ∧ (t4_r.length = t4_r.length)))
 (.ret (Sum.inr ((), (r0_0, ((), (r1_r, ((), (t4_r, ()))))))))
 .fail)
 .fail))
noncomputable def F21_L3 (recv : ((List ((Int × Int)) × Int × Unit × Unit × Unit × Unit) × (Int × Unit × List (List ((Int × Int))) × Unit × List ((Int × Int)) × Unit)) → Option (Unit × (Int × Unit × List (List ((Int × Int))) × Unit × List ((Int × Int)) × Unit))) (v : ((List ((Int × Int)) × Unit × Unit × Unit) × (Int × Unit × List (List ((Int × Int))) × Unit × List ((Int × Int)) × Unit × Int))) : Option (Unit × (Int × Unit × List (List ((Int × Int))) × Unit × List ((Int × Int)) × Unit)) := loopO (fun v => (F21_L3_step recv v).run) v
noncomputable def F21_t (recv : ((List ((Int × Int)) × Int × Unit × Unit × Unit × Unit) × (Int × Unit × List (List ((Int × Int))) × Unit × List ((Int × Int)) × Unit)) → Option (Unit × (Int × Unit × List (List ((Int × Int))) × Unit × List ((Int × Int)) × Unit))) : ((List ((Int × Int)) × Int × Unit × Unit × Unit × Unit) × (Int × Unit × List (List ((Int × Int))) × Unit × List ((Int × Int)) × Unit)) → T (Unit × (Int × Unit × List (List ((Int × Int))) × Unit × List ((Int × Int)) × Unit)) := fun ((begin, from', (), (), (), ()), (t2_0, (), t3_r, (), t4_r, ())) =>
 (.test ((begin.length : Int) == (w64 (t2_0 - 3)))
 (.sub (F20 begin) fun z0 =>
 (.test (decide ((0 + z0.2.length) ≤ z0.2.length))
 (.test (decide (1 ≤ (List.length (List.set (List.replicate 1 ([] : List (Int × Int))) 0 (win z0.2 0 z0.2.length)))))
 (.test (decide ((0 + t3_r.length) ≤ t3_r.length))
 (.test (decide ((2 * ((t3_r.length + (List.length (win (List.set (List.replicate 1 ([] : List (Int × Int))) 0 (win z0.2 0 z0.2.length)) 0 1))) * (24 + 1))) ≤ 140737488355328))
 (.test (decide ((0 = 0) ∧ ((t3_r.length + (List.length (win (List.set (List.replicate 1 ([] : List (Int × Int))) 0 (win z0.2 0 z0.2.length)) 0 1))) = (List.length ((win t3_r 0 t3_r.length) ++ (win (List.set (List.replicate 1 ([] : List (Int × Int))) 0 (win z0.2 0 z0.2.length)) 0 1))))))
 (.test (decide ((0 = 0) ∧ (t4_r.length = t4_r.length)))
 (.ret ((), (t2_0, ((), (((win t3_r 0 t3_r.length) ++ (win (List.set (List.replicate 1 ([] : List (Int × Int))) 0 (win z0.2 0 z0.2.length)) 0 1)), ((), (t4_r, ())))))))
 .fail)
 .fail)
 .fail)
 .fail)
 .fail)
 .fail))
 (.test (decide ((0 = 0) ∧ (t3_r.length = t3_r.length)))
 (.test (decide ((0 = 0) ∧ (t4_r.length = t4_r.length)))
 (.sub (F21_L3 recv ((begin, ((), ((), ()))), (t2_0, ((), (t3_r, ((), (t4_r, ((), from')))))))) fun z1 =>
 (.test (decide ((0 = 0) ∧ (z1.2.2.2.1.length = z1.2.2.2.1.length)))
 (.test (decide ((0 = 0) ∧ (z1.2.2.2.2.2.1.length = z1.2.2.2.2.2.1.length)))
 (.ret ((), (z1.2.1, ((), (z1.2.2.2.1, ((), (z1.2.2.2.2.2.1, ())))))))
 .fail)
 .fail))
 .fail)
 .fail))
noncomputable def F21_f (recv : ((List ((Int × Int)) × Int × Unit × Unit × Unit × Unit) × (Int × Unit × List (List ((Int × Int))) × Unit × List ((Int × Int)) × Unit)) → Option (Unit × (Int × Unit × List (List ((Int × Int))) × Unit × List ((Int × Int)) × Unit))) (v : ((List ((Int × Int)) × Int × Unit × Unit × Unit × Unit) × (Int × Unit × List (List ((Int × Int))) × Unit × List ((Int × Int)) × Unit))) : Option (Unit × (Int × Unit × List (List ((Int × Int))) × Unit × List ((Int × Int)) × Unit)) := (F21_t recv v).run
noncomputable def F21 : ((List ((Int × Int)) × Int × Unit × Unit × Unit × Unit) × (Int × Unit × List (List ((Int × Int))) × Unit × List ((Int × Int)) × Unit)) → Option (Unit × (Int × Unit × List (List ((Int × Int))) × Unit × List ((Int × Int)) × Unit)) := recF F21_f
noncomputable def F21_E (recv : ((List ((Int × Int)) × Int × Unit × Unit × Unit × Unit) × (Int × Unit × List (List ((Int × Int))) × Unit × List ((Int × Int)) × Unit)) → Option (Unit × (Int × Unit × List (List ((Int × Int))) × Unit × List ((Int × Int)) × Unit))) : TEnv := (((E0.add1 n_F20 F20_sh F20_fo F20).add1 n_F9 F0_sh F0_fo F0).add1 n_F21 F21_sh F21_fo recv)
theorem F21_Eok (recv : ((List ((Int × Int)) × Int × Unit × Unit × Unit × Unit) × (Int × Unit × List (List ((Int × Int))) × Unit × List ((Int × Int)) × Unit)) → Option (Unit × (Int × Unit × List (List ((Int × Int))) × Unit × List ((Int × Int)) × Unit))) (hrec : FOK Tryz.prog n_F21 F21_sh F21_fo recv) : (F21_E recv).OK := (((E0ok.add1 F20_ok).add1 F0_ok).add1 hrec)
noncomputable def F21_told (recv : ((List ((Int × Int)) × Int × Unit × Unit × Unit × Unit) × (Int × Unit × List (List ((Int × Int))) × Unit × List ((Int × Int)) × Unit)) → Option (Unit × (Int × Unit × List (List ((Int × Int))) × Unit × List ((Int × Int)) × Unit))) : Nat → Option SealT := fun id => if id = 3 then some (LSh.told F21_L3_sh 6 (F21_L3_step recv)) else none
theorem F21_L3_ok (recv : ((List ((Int × Int)) × Int × Unit × Unit × Unit × Unit) × (Int × Unit × List (List ((Int × Int))) × Unit × List ((Int × Int)) × Unit)) → Option (Unit × (Int × Unit × List (List ((Int × Int))) × Unit × List ((Int × Int)) × Unit))) (hrec : FOK Tryz.prog n_F21 F21_sh F21_fo recv) : ToldOK Tryz.prog 6 (loopAt (bodyOf fn_F21) [0]) (LSh.told F21_L3_sh 6 (F21_L3_step recv)) :=
 loop_ok (E := F21_E recv) (F21_Eok recv hrec) (told := F21_told recv) (l := F21_L3_sh) (step := F21_L3_step recv) (loopsOK_of (ls := []) (by kernel_rfl) trivial) (by kernel_rfl) (fun v => by kernel_rfl)
theorem F21_okr (recv : ((List ((Int × Int)) × Int × Unit × Unit × Unit × Unit) × (Int × Unit × List (List ((Int × Int))) × Unit × List ((Int × Int)) × Unit)) → Option (Unit × (Int × Unit × List (List ((Int × Int))) × Unit × List ((Int × Int)) × Unit))) (hrec : FOK Tryz.prog n_F21 F21_sh F21_fo recv) : FOK Tryz.prog n_F21 F21_sh F21_fo (F21_f recv) :=
 fn_ok (E := F21_E recv) (F21_Eok recv hrec) (told := F21_told recv) (fl := []) (c := bodyOf fn_F21) (s := F21_sh) (l := F21_fo) (tree := F21_t recv) fnat_F21 (by kernel_rfl) (by kernel_rfl) (by kernel_rfl) (loopsOK_of (ls := [loopAt (bodyOf fn_F21) [0]]) (by kernel_rfl) ⟨.inr ⟨_, by kernel_rfl, F21_L3_ok recv hrec⟩, trivial⟩) (fun v => by kernel_rfl)
theorem F21_ok : FOK Tryz.prog n_F21 F21_sh F21_fo F21 := FOK.rec (fun F h => F21_okr F h) recLim
theorem contains_look (t : List Dg) (i : Nat) (b : List Dg) (hi : i < t.length) (hb : b.length < 1000000) :
  F0 ((b, ((), ())), ((), (t, (i : Int)))) = some (b.any (crossD (gD t i)), ((), (t, (i : Int)))) := by
 have hc : ∀ e : Dg, F16 ((e, ((), ())), ((), (t, (i : Int)))) = some (crossD (gD t i) e, ((), (t, (i : Int)))) := by
  intro e
  obtain ⟨e0, e1⟩ := e
  have c0 : (0 : Int) ≤ (i : Int) ∧ (i : Int) < (t.length : Int) := by omega
  simp only [F16, F16_t, T.run, c0, and_self, decide_true, if_true, Int.toNat_natCast, Nat.zero_add, gD_some hi, Option.bind_some, F81_eq]
 have h := loop_find (step := fun v => (F2_L2_step v).run) (xs := b) (crossD (gD t i)) (fun k => ((b, (((), ()), ((b.length : Int), (k : Int)))), ((), (t, (i : Int))))) (fun k => .inl ((k : Int), ((), (t, (i : Int))))) (.inr ((), ((), (t, (i : Int)))))
  (fun k x hx => by
   have hlt := getElem?_lt hx
   have h1 : (k : Int) < (b.length : Int) := by omega
   have h2 : (0 : Int) ≤ k ∧ (k : Int) < (b.length : Int) := by omega
   simp only [F2_L2_step, T.run, Int.toNat_natCast, hx, Option.bind_some, h1, h2, decide_true, if_true, and_self, true_and, hc]
   rw [w64_id (z := (k : Int) + 1) (by omega) (by omega)]
   cases hv : crossD (gD t i) x <;> simp)
  (by simp [F2_L2_step, T.run])
 rw [show ((0 : Nat) : Int) = 0 from rfl] at h
 have hi' : F2 ((b, ((), ())), ((), (t, (i : Int)))) = some (idxI (crossD (gD t i)) b, ((), (t, (i : Int)))) := by
  simp only [F2, F2_t, T.run, F2_L2, true_and, decide_true, if_true]
  rw [h]
  simp only [idxI]
  cases hf : b.findIdx? (crossD (gD t i)) <;> simp [Sum.isLeft]
 simp only [F0, F0_t, T.run, true_and, decide_true, if_true, hi', Option.bind_some, idxI_ge]
theorem i_look_loop (n : Nat) (t b : List Dg) (recv : _ → Option _) (hn : 3 ≤ n ∧ n ≤ 9) (ht : t.length ≤ 27) (hb : b.length < 1000) :
  ∀ (m i : Nat) (out : List (List Dg)), i + m = t.length → out.length + 2 ^ m ≤ 1000000000 →
  (∀ (j : Nat) (out : List (List Dg)), i ≤ j → j < t.length → out.length + 2 ^ (t.length - (j + 1)) ≤ 1000000000 →
   recv ((b ++ [gD t j], (((j + 1 : Nat) : Int), ((), ((), ((), ()))))), ((n : Int), ((), (out, ((), (t, ()))))) ) = some ((), ((n : Int), ((), (out ++ lookL (n - 3) (t.drop (j + 1)) (b ++ [gD t j]), ((), (t, ()))))))) →
  F21_L3 recv ((b, ((), ((), ()))), ((n : Int), ((), (out, ((), (t, ((), (i : Int)))))))) = some ((), ((n : Int), ((), (out ++ goL (n - 3) (t.drop i) b, ((), (t, ()))))))
 | 0, i, out, hi, ho, hr => by
  have : i = t.length := by omega
  subst this
  rw [List.drop_length]
  simp only [F21_L3, goL, List.append_nil]
  exact loopO_done (by simp [F21_L3_step, T.run])
 | m + 1, i, out, hi, ho, hr => by
  have hlt : i < t.length := by omega
  have c0 : (i : Int) < (t.length : Int) := by omega
  have w1 : w64 ((i : Int) + 1) = ((i + 1 : Nat) : Int) := by rw [w64_id (by omega) (by omega)]; omega
  have hp : 2 ^ (m + 1) = 2 ^ m + 2 ^ m := by rw [Nat.pow_succ]; omega
  have hp0 : 1 ≤ 2 ^ m := Nat.one_le_two_pow
  have hm : m = t.length - (i + 1) := by omega
  rw [drop_gD hlt, goL_cons]
  have hcont := contains_look t i b hlt (by omega)
  cases hf : b.any (crossD (gD t i)) with
  | true =>
   have ih := i_look_loop n t b recv hn ht hb m (i + 1) out (by omega) (by omega) (fun j o h1 h2 h3 => hr j o (by omega) h2 h3)
   have hfr : freeD (gD t i) b = false := by unfold freeD; rw [hf]; rfl
   rw [hfr]
   simp only [Bool.false_eq_true, if_false, List.nil_append]
   simp only [F21_L3] at ih ⊢
   rw [← ih]
   rw [hf] at hcont
   refine loopO_next ?_
   simp only [F21_L3_step, T.run, c0, decide_true, if_true, true_and, hcont, Option.bind_some, Bool.not_true, Bool.false_eq_true, if_false, w1]
  | false =>
   have hfr : freeD (gD t i) b = true := by unfold freeD; rw [hf]; rfl
   have hrec := hr i out (Nat.le_refl _) hlt (by rw [← hm]; omega)
   have hll : (lookL (n - 3) (t.drop (i + 1)) (b ++ [gD t i])).length ≤ 2 ^ m := by
    unfold lookL
    split
    ·simp only [List.length_cons, List.length_nil]; exact Nat.one_le_two_pow
    ·have := goL_len (n - 3) (t.drop (i + 1)) (b ++ [gD t i])
     rwa [List.length_drop, ← hm] at this
   have ih := i_look_loop n t b recv hn ht hb m (i + 1) (out ++ lookL (n - 3) (t.drop (i + 1)) (b ++ [gD t i])) (by omega) (by rw [List.length_append]; omega) (fun j o h1 h2 h3 => hr j o (by omega) h2 h3)
   rw [hfr]
   simp only [if_true]
   rw [← List.append_assoc]
   simp only [F21_L3] at ih ⊢
   rw [← ih]
   rw [hf] at hcont
   refine loopO_next ?_
   have c1 : (0 : Int) ≤ (b.length : Int) := by omega
   have c2 : (0 : Int) ≤ (i : Int) ∧ (i : Int) < (t.length : Int) := by omega
   have c3 : 2 * ((b.length + 1) * (16 + 1)) ≤ 140737488355328 := by omega
   have hl1 : (b ++ [gD t i]).length = b.length + 1 := by simp
   have hw : win (b ++ [gD t i]) 0 (b.length + 1) = b ++ [gD t i] := by rw [← hl1]; exact win_all _
   simp only [F21_L3_step, T.run, c0, c1, c2, decide_true, if_true, true_and, and_self, hcont, Option.bind_some, Bool.not_false, Int.toNat_natCast, Nat.zero_le, Nat.le_refl, Nat.zero_add, gD_some hlt, Nat.sub_zero, win_all, win_one, List.length_cons, List.length_nil, c3, hl1, hw, w1, hrec]
   simp
theorem i_look_eq (n : Nat) (t : List Dg) (hn : 3 ≤ n ∧ n ≤ 9) (ht : t.length ≤ 27) : ∀ (k i : Nat) (b : List Dg) (out : List (List Dg)), i ≤ t.length → t.length - i < k → b.length + (t.length - i) < 100 → out.length + 2 ^ (t.length - i) ≤ 1000000000 →
  recN F21_f k ((b, ((i : Int), ((), ((), ((), ()))))), ((n : Int), ((), (out, ((), (t, ()))))) ) = some ((), ((n : Int), ((), (out ++ lookL (n - 3) (t.drop i) b, ((), (t, ()))))))
 | 0, i, b, out, hi, hk, hb, ho => absurd hk (Nat.not_lt_zero _)
 | k + 1, i, b, out, hi, hk, hb, ho => by
  show F21_f (recN F21_f k) _ = _
  have hp : 1 ≤ 2 ^ (t.length - i) := Nat.one_le_two_pow
  have w0 : w64 ((n : Int) - 3) = ((n - 3 : Nat) : Int) := by rw [w64_id (by omega) (by omega)]; omega
  simp only [F21_f, F21_t, T.run, w0]
  by_cases hl : b.length = n - 3
  ·have hc : F20 b = some ((), b) := by
    unfold F20
    rw [if_pos]
    exact ⟨by unfold maxLen; omega, by omega⟩
   have e : ((b.length : Int) == ((n - 3 : Nat) : Int)) = true := by simp; omega
   have c1 : 2 * ((out.length + 1) * (24 + 1)) ≤ 140737488355328 := by omega
   have hone : win (List.set (List.replicate 1 ([] : List Dg)) 0 b) 0 1 = [b] := rfl
   unfold lookL
   rw [if_pos hl]
   simp only [e, if_true, hc, Option.bind_some, Nat.zero_add, Nat.le_refl, decide_true, win_all, hone, List.length_cons, List.length_nil, c1, List.length_set, List.length_replicate, List.length_append, true_and]
  ·have e : ((b.length : Int) == ((n - 3 : Nat) : Int)) = false := by simp; omega
   unfold lookL
   rw [if_neg hl]
   have h3 := i_look_loop n t b (recN F21_f k) hn ht (by omega) (t.length - i) i out (by omega) ho (fun j o h1 h2 h3 => by
    exact i_look_eq n t hn ht k (j + 1) (b ++ [gD t j]) o (by omega) (by omega) (by simp; omega) h3)
   simp only [e, Bool.false_eq_true, if_false, true_and, decide_true, if_true, h3, Option.bind_some]
def F29_sh : FSh := ⟨[(.one (.si .i64))], []⟩
def F29_fo : List FO := [⟨[(.one (.rw 0 0))], [(.row 0 (.list true (.pair (.int .i64) (.int .i64))))]⟩]
noncomputable def F29_t : Int → T (Unit × List (List ((Int × Int)))) := fun n =>
 (.sub (F51 n) fun z0 =>
 (.test (decide ((0 = 0) ∧ (0 = (List.length (List.replicate 0 ([] : List (Int × Int)))))))
 (.test (decide ((0 = 0) ∧ (z0.2.length = z0.2.length)))
 (.sub (F21 ((([] : List (Int × Int)), ((0 : Int), ((), ((), ((), ()))))), (n, ((), ((List.replicate 0 ([] : List (Int × Int))), ((), (z0.2, ()))))))) fun z1 =>
 (.test (decide ((0 = 0) ∧ (z1.2.2.2.1.length = z1.2.2.2.1.length)))
 (.ret ((), z1.2.2.2.1))
 .fail))
 .fail)
 .fail))
noncomputable def F29 (v) := (F29_t v).run
noncomputable def F29_E : TEnv := ((E0.add1 n_F51 F51_sh F51_fo F51).add1 n_F21 F21_sh F21_fo F21)
theorem F29_Eok : (F29_E).OK := ((E0ok.add1 F51_ok).add1 F21_ok)
noncomputable def F29_told : Nat → Option SealT := fun id => none
theorem F29_ok : FOK Tryz.prog n_F29 F29_sh F29_fo F29 :=
 fn_ok (E := F29_E) (F29_Eok) (told := F29_told) (fl := []) (c := bodyOf fn_F29) (s := F29_sh) (l := F29_fo) (tree := F29_t) fnat_F29 (by kernel_rfl) (by kernel_rfl) (by kernel_rfl) (loopsOK_of (ls := []) (by kernel_rfl) trivial) (fun v => by kernel_rfl)
theorem F29_eq (n : Nat) (hn : 3 ≤ n ∧ n ≤ 9) : F29 (n : Int) = some ((), allT n) := by
 have hd := dgL_len n hn.2
 have hp : 2 ^ ((dgL n).length - 0) ≤ 2 ^ 27 := Nat.pow_le_pow_right (by omega) (by omega)
 have h27 : (2 : Nat) ^ 27 = 134217728 := by decide
 have h := i_look_eq n (dgL n) hn hd recLim 0 [] [] (by omega) (by unfold recLim; omega) (by simp; omega) (by simp only [List.length_nil]; omega)
 rw [List.drop_zero, List.nil_append, Int.natCast_zero] at h
 simp only [F29, F29_t, T.run, F51_eq n (by omega), Option.bind_some, List.replicate_zero, List.length_nil, true_and, decide_true, if_true]
 have h' : F21 ((([] : List (Int × Int)), ((0 : Int), ((), ((), ((), ()))))), ((n : Int), ((), (([] : List (List (Int × Int))), ((), (dgL n, ())))))) = some ((), ((n : Int), ((), (lookL (n - 3) (dgL n) [], ((), (dgL n, ())))))) := h
 rw [h']
 rfl
def F57_sh : FSh := ⟨[.one (.si .u64), .one (.si .u64)], []⟩
def F57_fo : List FO := [⟨[.one (.si .u64), .one (.si .u64)], []⟩]
def F57 (v : Int × Int) : Option (Int × Int) := if 0 ≤ v.1 ∧ v.1 < 18446744073709551616 ∧ 0 ≤ v.2 ∧ v.2 < 18446744073709551616 then some (((v.1.toNat * v.2.toNat / 18446744073709551616 : Nat) : Int), ((v.1.toNat * v.2.toNat % 18446744073709551616 : Nat) : Int)) else none
def F57_ren : Shelf.Ren := ⟨fun k => if k = 212 then n_F57 else if k = 263 then 242 else 243, fun t => if t = 46 then 151 else if t = 51 then 166 else if t = 146 then 168 else if t = 148 then 170 else 104, fun x => x⟩
theorem F57_lay : Lays.n212 Tryz.prog F57_ren :=
 { mixed := by kernel_rfl, f212 := by kernel_rfl, f263 := by kernel_rfl, f264 := by kernel_rfl, t46 := by kernel_rfl, a46 := fun w => by kernel_rfl, z46 := fun w => by kernel_rfl, v46 := fun w => by kernel_rfl, t51 := by kernel_rfl, a51 := fun w => by kernel_rfl, z51 := fun w => by kernel_rfl, v51 := fun w => by kernel_rfl, t53 := by kernel_rfl, a53 := fun w => by kernel_rfl, z53 := fun w => by kernel_rfl, v53 := fun w => by kernel_rfl, t146 := by kernel_rfl, a146 := fun w => by kernel_rfl, z146 := fun w => by kernel_rfl, v146 := fun w => by kernel_rfl, t148 := by kernel_rfl, a148 := fun w => by kernel_rfl, z148 := fun w => by kernel_rfl, v148 := fun w => by kernel_rfl }
theorem F57_ok : FOK Tryz.prog n_F57 F57_sh F57_fo F57 :=
 bitsMul_ok ⟨_, fnat_F57, by kernel_rfl, by kernel_rfl⟩ (ρr := F57_ren) rfl F57_lay
def F36_sh : FSh := ⟨[(.one (.sl (.int .i64) false false)), (.one (.si .i64))], []⟩
def F36_L8_sh : LSh := ⟨(fun ex => match ex with | .norm => [(7, none), (8, none)] | .exit i => if i = 0 then [(7, none)] else [] | .ret => [(4, none)]), [(7, (.one (.rw 0 0))), (8, (.one (.si .i64)))], [(.row 0 (.int .i64))], [⟨(.exit 0), [(7, (.one (.rw 0 0)))], [(.row 0 (.int .i64))]⟩], [], []⟩
noncomputable def F36_L8_step : ((Unit × Int) × List (Int)) → T (((Unit × Int) × List (Int)) ⊕ (Unit × List (Int))) := fun (((), n), newslice) =>
 (.test (decide (n < (newslice.length : Int)))
 (.test (decide (0 ≤ n))
 (.test (decide (((Int.toNat n) ≤ newslice.length) ∧ (newslice.length ≤ newslice.length)))
 (.test (decide (0 ≤ n))
 (.test (decide ((0 ≤ (Int.toNat n)) ∧ ((Int.toNat n) ≤ newslice.length)))
 (.test (decide ((0 + ((Int.toNat n) - 0)) ≤ newslice.length))
 (.test (decide ((0 < (min (List.length (win newslice 0 ((Int.toNat n) - 0))) (newslice.length - (Int.toNat n)))) ∧ (((0 + (Int.toNat n)) + (newslice.length - (Int.toNat n))) ≤ newslice.length)))
 (.test (decide ((0 = 0) ∧ (newslice.length = (List.length (spliceT newslice (0 + (Int.toNat n)) (List.take (min (List.length (win newslice 0 ((Int.toNat n) - 0))) (newslice.length - (Int.toNat n))) (win newslice 0 ((Int.toNat n) - 0))))))))
 (.ret (Sum.inl (((), (w64 (n + (((min (List.length (win newslice 0 ((Int.toNat n) - 0))) (newslice.length - (Int.toNat n))) : Nat) : Int)))), (spliceT newslice (0 + (Int.toNat n)) (List.take (min (List.length (win newslice 0 ((Int.toNat n) - 0))) (newslice.length - (Int.toNat n))) (win newslice 0 ((Int.toNat n) - 0)))))))
 .fail)
 .fail)
 .fail)
 .fail)
 .fail)
 .fail)
 .fail)
 (.test (decide ((0 = 0) ∧ (newslice.length = newslice.length)))
 (.ret (Sum.inr ((), newslice)))
 .fail))
noncomputable def F36_L8 (v) := loopO (fun v => (F36_L8_step v).run) v
def F36_fo : List FO := [⟨[(.one (.rw 0 0))], [(.row 0 (.int .i64))]⟩]
noncomputable def F36_t : (List (Int) × Int) → T (Unit × List (Int)) := fun (x, count) =>
 (.test (decide (count < 0))
 .fail
 (.sub (F57 ((wu64 (x.length : Int)), (wu64 count))) fun z0 =>
 (.test (decide (z0.1 > 0))
 .fail
 (.test (decide (z0.2 > 9223372036854775807))
 .fail
 (.test (decide ((0 ≤ (w64 z0.2)) ∧ (((w64 z0.2) ≤ (w64 z0.2)) ∧ (((Int.toNat (w64 z0.2)) * 9) ≤ 140737488355328))))
 (.test (decide ((0 < (min x.length (Int.toNat (w64 z0.2)))) ∧ ((0 + (Int.toNat (w64 z0.2))) ≤ (List.length (List.replicate (Int.toNat (w64 z0.2)) (0 : Int))))))
 (.test (decide ((0 = 0) ∧ ((Int.toNat (w64 z0.2)) = (List.length (spliceT (List.replicate (Int.toNat (w64 z0.2)) (0 : Int)) 0 (List.take (min x.length (Int.toNat (w64 z0.2))) x))))))
 (.sub (F36_L8 (((), (((min x.length (Int.toNat (w64 z0.2))) : Nat) : Int)), (spliceT (List.replicate (Int.toNat (w64 z0.2)) (0 : Int)) 0 (List.take (min x.length (Int.toNat (w64 z0.2))) x)))) fun z1 =>
 (.test (decide ((0 = 0) ∧ (z1.2.length = z1.2.length)))
 (.ret ((), z1.2))
 .fail))
 .fail)
 .fail)
 .fail)))))
noncomputable def F36 (v) := (F36_t v).run
noncomputable def F36_E : TEnv := (E0.add1 n_F57 F57_sh F57_fo F57)
theorem F36_Eok : (F36_E).OK := (E0ok.add1 F57_ok)
noncomputable def F36_told : Nat → Option SealT := fun id => if id = 8 then some (LSh.told F36_L8_sh 0 (F36_L8_step)) else none
theorem F36_L8_ok : ToldOK Tryz.prog 0 (loopAt (bodyOf fn_F36) [0]) (LSh.told F36_L8_sh 0 (F36_L8_step)) :=
 loop_ok (E := F36_E) (F36_Eok) (told := F36_told) (l := F36_L8_sh) (step := F36_L8_step) (loopsOK_of (ls := []) (by kernel_rfl) trivial) (by kernel_rfl) (fun v => by kernel_rfl)
theorem F36_ok : FOK Tryz.prog n_F36 F36_sh F36_fo F36 :=
 fn_ok (E := F36_E) (F36_Eok) (told := F36_told) (fl := []) (c := bodyOf fn_F36) (s := F36_sh) (l := F36_fo) (tree := F36_t) fnat_F36 (by kernel_rfl) (by kernel_rfl) (by kernel_rfl) (loopsOK_of (ls := [loopAt (bodyOf fn_F36) [0]]) (by kernel_rfl) ⟨.inr ⟨_, by kernel_rfl, F36_L8_ok⟩, trivial⟩) (fun v => by kernel_rfl)
theorem F36_one (n : Nat) (h1 : 1 ≤ n) (h2 : n ≤ 1000000) : F36 ([1], (n : Int)) = some ((), List.replicate n 1) := by
 have hm : F57 (wu64 (([1] : List Int).length : Int), wu64 (n : Int)) = some (0, (n : Int)) := by
  have e1 : wu64 (([1] : List Int).length : Int) = 1 := IntWalk.u64_in _ ⟨by simp, by simp⟩
  have e2 : wu64 (n : Int) = (n : Int) := IntWalk.u64_in _ ⟨by omega, by omega⟩
  rw [e1, e2]
  unfold F57
  simp only []
  rw [if_pos ⟨by omega, by omega, by omega, by omega⟩]
  have t1 : (1 : Int).toNat = 1 := rfl
  rw [t1, Int.toNat_natCast, Nat.one_mul, Nat.div_eq_of_lt (by omega), Nat.mod_eq_of_lt (by omega)]
  rfl
 have hl : ∀ m k, k + m = n → 1 ≤ k → F36_L8 (((), (k : Int)), List.replicate k 1 ++ List.replicate (n - k) 0) = some ((), List.replicate n 1) := by
  intro m
  induction m using Nat.strongRecOn with
  | ind m ih =>
   intro k hk hk1
   have hlen : (List.replicate k (1 : Int) ++ List.replicate (n - k) 0).length = n := by simp; omega
   by_cases hm : m = 0
   ·have : k = n := by omega
    subst this
    rw [Nat.sub_self, List.replicate_zero, List.append_nil]
    simp only [F36_L8]
    exact loopO_done (by simp [F36_L8_step, T.run])
   ·have ih := ih (m - min k (n - k)) (by omega) (k + min k (n - k)) (by omega) (by omega)
    simp only [F36_L8] at ih ⊢
    rw [← ih]
    refine loopO_next ?_
    have c0 : (k : Int) < (n : Int) := by omega
    have c1 : (0 : Int) ≤ (k : Int) := by omega
    have c2 : k ≤ n ∧ n ≤ n := by omega
    have c3 : 0 ≤ k ∧ k ≤ n := by omega
    have tw : win (List.replicate k (1 : Int) ++ List.replicate (n - k) 0) 0 (k - 0) = List.replicate k 1 := by
     rw [win_take, Nat.sub_zero, List.take_left' (by simp)]
    have c4 : 0 + (k - 0) ≤ n := by omega
    have c5 : 0 < min k (n - k) ∧ 0 + k + (n - k) ≤ n := by omega
    have w1 : w64 ((k : Int) + ((min k (n - k) : Nat) : Int)) = ((k + min k (n - k) : Nat) : Int) := by rw [w64_id (by omega) (by omega)]; omega
    have sp : spliceT (List.replicate k (1 : Int) ++ List.replicate (n - k) 0) (0 + k) (List.take (min k (n - k)) (List.replicate k 1)) = List.replicate (k + min k (n - k)) 1 ++ List.replicate (n - (k + min k (n - k))) 0 := by
     unfold spliceT
     rw [Nat.zero_add, List.take_left' (by simp), List.take_replicate, List.length_replicate, List.drop_append, List.drop_replicate, List.drop_replicate, List.length_replicate]
     rw [show k - (k + min (min k (n - k)) k) = 0 by omega, show min (min k (n - k)) k = min k (n - k) by omega, show n - k - (k + min k (n - k) - k) = n - (k + min k (n - k)) by omega, List.replicate_zero, List.nil_append, ← List.append_assoc, List.replicate_append_replicate]
    have lsp : n = (List.replicate (k + min k (n - k)) (1 : Int) ++ List.replicate (n - (k + min k (n - k))) 0).length := by simp; omega
    simp only [F36_L8_step, T.run, hlen, c0, c1, c2, c3, c4, c5, decide_true, if_true, and_self, Int.toNat_natCast, tw, List.length_replicate, sp, w1]
    rw [← lsp]
    simp
 simp only [F36, F36_t, T.run, hm, Option.bind_some]
 have w1 : w64 (n : Int) = (n : Int) := w64_id (by omega) (by omega)
 have c0 : ¬ ((n : Int) < 0) := by omega
 have c1 : ¬ ((n : Int) > 9223372036854775807) := by omega
 have c2 : 0 ≤ (n : Int) ∧ (n : Int) ≤ (n : Int) ∧ n * 9 ≤ 140737488355328 := by omega
 have m1 : min ([1] : List Int).length n = 1 := by simp; omega
 have sp : spliceT (List.replicate n (0 : Int)) 0 (List.take 1 [1]) = List.replicate 1 1 ++ List.replicate (n - 1) 0 := by
  unfold spliceT
  simp
 have lsp : n = (List.replicate 1 (1 : Int) ++ List.replicate (n - 1) 0).length := by simp; omega
 simp only [c0, c1, w1, decide_false, Bool.false_eq_true, if_false, Int.toNat_natCast, c2, and_self, decide_true, if_true, m1, sp, hl (n - 1) 1 (by omega) (Nat.le_refl 1), Option.bind_some]
 simp only [List.length_replicate, Nat.zero_add]
 rw [← lsp]
 simp
def F76_sh : FSh := ⟨[(.one (.si .i64)), (.one (.sl (.pair (.int .i64) (.int .i64)) false false))], []⟩
def F76_L3_sh : LSh := ⟨(fun ex => match ex with | .norm => [(5, none), (11, none), (12, none), (13, none)] | .exit i => if i = 0 then [(5, none)] else [] | .ret => [(4, none)]), [(5, (.one (.rw 0 0))), (11, (.one (.sl (.pair (.int .i64) (.int .i64)) false false))), (12, (.one (.si .i64))), (13, (.one (.si .i64)))], [(.row 0 (.int .i64))], [⟨(.exit 0), [(5, (.one (.rw 0 0)))], [(.row 0 (.int .i64))]⟩], [], []⟩
noncomputable def F76_L3_step : ((Unit × List ((Int × Int)) × Int × Int) × List (Int)) → T (((Unit × List ((Int × Int)) × Int × Int) × List (Int)) ⊕ (Unit × List (Int))) := fun (((), t11, t12, t13), out) =>
 (.test (decide (t13 < t12))
 (.test (decide ((0 ≤ t13) ∧ (t13 < (t11.length : Int))))
 (.sub (t11[(Int.toNat t13)]?) fun z0 =>
 (.test (decide ((0 ≤ z0.1) ∧ (z0.1 < (out.length : Int))))
 (.sub (out[(0 + (Int.toNat z0.1))]?) fun z1 =>
 (.test (decide ((0 ≤ z0.1) ∧ (z0.1 < (out.length : Int))))
 (.sub (out[(0 + (Int.toNat z0.1))]?) fun z2 =>
 (.test (decide ((0 ≤ z0.2) ∧ (z0.2 < (out.length : Int))))
 (.sub ((List.set out (0 + (Int.toNat z0.1)) (w64 (z1 + 1)))[(0 + (Int.toNat z0.2))]?) fun z3 =>
 (.test (decide ((0 ≤ z0.2) ∧ (z0.2 < (out.length : Int))))
 (.sub ((List.set out (0 + (Int.toNat z0.1)) (w64 (z1 + 1)))[(0 + (Int.toNat z0.2))]?) fun z4 =>
 (.test (decide ((0 = 0) ∧ (out.length = (List.length (List.set (List.set out (0 + (Int.toNat z0.1)) (w64 (z1 + 1))) (0 + (Int.toNat z0.2)) (w64 (z3 + 1)))))))
 (.ret (Sum.inl (((), (t11, (t12, (w64 (t13 + 1))))), (List.set (List.set out (0 + (Int.toNat z0.1)) (w64 (z1 + 1))) (0 + (Int.toNat z0.2)) (w64 (z3 + 1))))))
 .fail))
 .fail))
 .fail))
 .fail))
 .fail))
 .fail)
 (.test (decide ((0 = 0) ∧ (out.length = out.length)))
 (.ret (Sum.inr ((), out)))
 .fail))
noncomputable def F76_L3 (v) := loopO (fun v => (F76_L3_step v).run) v
def F76_fo : List FO := [⟨[(.one (.rw 0 0))], [(.row 0 (.int .i64))]⟩]
noncomputable def F76_t : (Int × List ((Int × Int))) → T (Unit × List (Int)) := fun (n, ds) =>
 (.test true
 (.sub (F36 ((win (List.set (List.replicate 1 (0 : Int)) 0 (1 : Int)) 0 1), n)) fun z0 =>
 (.test (decide ((0 = 0) ∧ (z0.2.length = z0.2.length)))
 (.sub (F76_L3 (((), (ds, ((ds.length : Int), (0 : Int)))), z0.2)) fun z1 =>
 (.test (decide ((0 = 0) ∧ (z1.2.length = z1.2.length)))
 (.ret ((), z1.2))
 .fail))
 .fail))
 .fail)
noncomputable def F76 (v) := (F76_t v).run
noncomputable def F76_E : TEnv := (E0.add1 n_F36 F36_sh F36_fo F36)
theorem F76_Eok : (F76_E).OK := (E0ok.add1 F36_ok)
noncomputable def F76_told : Nat → Option SealT := fun id => if id = 3 then some (LSh.told F76_L3_sh 0 (F76_L3_step)) else none
theorem F76_L3_ok : ToldOK Tryz.prog 0 (loopAt (bodyOf fn_F76) [0]) (LSh.told F76_L3_sh 0 (F76_L3_step)) :=
 loop_ok (E := F76_E) (F76_Eok) (told := F76_told) (l := F76_L3_sh) (step := F76_L3_step) (loopsOK_of (ls := []) (by kernel_rfl) trivial) (by kernel_rfl) (fun v => by kernel_rfl)
theorem F76_ok : FOK Tryz.prog n_F76 F76_sh F76_fo F76 :=
 fn_ok (E := F76_E) (F76_Eok) (told := F76_told) (fl := []) (c := bodyOf fn_F76) (s := F76_sh) (l := F76_fo) (tree := F76_t) fnat_F76 (by kernel_rfl) (by kernel_rfl) (by kernel_rfl) (loopsOK_of (ls := [loopAt (bodyOf fn_F76) [0]]) (by kernel_rfl) ⟨.inr ⟨_, by kernel_rfl, F76_L3_ok⟩, trivial⟩) (fun v => by kernel_rfl)
theorem F76_eq (n : Nat) (ds : List Dg) (hn : 1 ≤ n ∧ n ≤ 1000000) (hl : ds.length < 1000000) (h : ∀ d ∈ ds, 0 ≤ d.1 ∧ d.1 < d.2 ∧ d.2 < (n : Int)) : F76 ((n : Int), ds) = some ((), quid n ds) := by
 have hl' := loop_fold (step := fun v => (F76_L3_step v).run) (xs := ds) (fun k (s : List Int) => s.length = n ∧ ∀ p, p < n → 0 ≤ s.getD p 0 ∧ s.getD p 0 ≤ k + 1) (fun k s => (((), (ds, ((ds.length : Int), (k : Int)))), s)) bumpD (fun s => ((), s))
  (fun k s d hP hd => by
   obtain ⟨hs, hb⟩ := hP
   have hlt := getElem?_lt hd
   obtain ⟨q1, q2, q3⟩ := h d (List.mem_of_getElem? hd)
   refine ⟨?_, by rw [bumpD_length, hs], fun p hp => ?_⟩
   ·have c0 : (k : Int) < (ds.length : Int) := by omega
    have c1 : (0 : Int) ≤ (k : Int) ∧ (k : Int) < (ds.length : Int) := by omega
    have w1 : w64 ((k : Int) + 1) = ((k + 1 : Nat) : Int) := by rw [w64_id (by omega) (by omega)]; omega
    have c2 : 0 ≤ d.1 ∧ d.1 < (s.length : Int) := by omega
    have c3 : 0 ≤ d.2 ∧ d.2 < (s.length : Int) := by omega
    have b1 := hb d.1.toNat (by omega)
    have b2 := hb d.2.toNat (by omega)
    have g1 : s[d.1.toNat]? = some (s.getD d.1.toNat 0) := by rw [List.getD_eq_getElem?_getD, List.getElem?_eq_getElem (by omega)]; rfl
    have g2 : s[d.2.toNat]? = some (s.getD d.2.toNat 0) := by rw [List.getD_eq_getElem?_getD, List.getElem?_eq_getElem (by omega)]; rfl
    have w2 : w64 (s.getD d.1.toNat 0 + 1) = s.getD d.1.toNat 0 + 1 := w64_id (by omega) (by omega)
    have w3 : w64 (s.getD d.2.toNat 0 + 1) = s.getD d.2.toNat 0 + 1 := w64_id (by omega) (by omega)
    have g3 : (s.set d.1.toNat (s.getD d.1.toNat 0 + 1))[d.2.toNat]? = some (s.getD d.2.toNat 0) := by rw [List.getElem?_set_ne (by omega)]; exact g2
    simp only [F76_L3_step, T.run, c0, c1, c2, c3, decide_true, if_true, and_self, Int.toNat_natCast, hd, Option.bind_some, Nat.zero_add, g1, w2, g3, w3, w1]
    simp [bumpD]
   ·rw [bumpD_get q1 q2 (by omega) (by omega)]
    have := hb p hp
    have : 0 ≤ cntD d p ∧ cntD d p ≤ 1 := by unfold cntD; split <;> split <;> omega
    omega)
  (fun s hs => by simp [F76_L3_step, T.run])
  (List.replicate n 1) ⟨by simp, fun p hp => by rw [List.getD_eq_getElem?_getD, List.getElem?_replicate, if_pos hp]; simp⟩
 have hq : ds.foldl bumpD (List.replicate n 1) = quid n ds := by
  obtain ⟨f1, f2⟩ := bump_fold n ds (List.replicate n 1) (by simp) h
  refine List.ext_getElem (by rw [f1]; simp [quid]) fun p hp _ => ?_
  have := f2 p (by omega)
  rw [List.getD_eq_getElem?_getD, List.getElem?_eq_getElem hp, List.getD_eq_getElem?_getD, List.getElem?_replicate, if_pos (by omega)] at this
  simp only [Option.getD_some] at this
  rw [this]
  simp [quid]
 simp only [Int.natCast_zero] at hl'
 have hw : win (List.set (List.replicate 1 (0 : Int)) 0 (1 : Int)) 0 1 = [1] := rfl
 simp only [F76, F76_t, T.run, hw, F36_one n hn.1 hn.2, Option.bind_some, F76_L3]
 rw [hl'.1, hq]
 simp
def F47_sh : FSh := ⟨[(.one (.si .i64))], []⟩
def F47_L3_sh : LSh := ⟨(fun ex => match ex with | .norm => [(0, none), (3, none), (8, none), (9, none), (10, none)] | .exit i => if i = 0 then [(3, none)] else [] | .ret => [(2, none)]), [(0, (.one (.si .i64))), (3, (.one (.rw 0 0))), (8, (.one (.rw 1 0))), (9, (.one (.si .i64))), (10, (.one (.si .i64)))], [(.row 0 (.list true (.int .i64))), (.row 0 (.list true (.pair (.int .i64) (.int .i64))))], [⟨(.exit 0), [(3, (.one (.rw 0 0)))], [(.row 0 (.list true (.int .i64)))]⟩], [], []⟩
noncomputable def F47_L3_step : ((Int × Unit × Unit × Int × Int) × (List (List (Int)) × List (List ((Int × Int))))) → T (((Int × Unit × Unit × Int × Int) × (List (List (Int)) × List (List ((Int × Int))))) ⊕ (Unit × List (List (Int)))) := fun ((n, (), (), t9, t10), (out, t8)) =>
 (.test (decide (t10 < t9))
 (.test (decide ((0 ≤ t10) ∧ (t10 < (t8.length : Int))))
 (.sub (t8[(0 + (Int.toNat t10))]?) fun z0 =>
 (.sub (F76 (n, z0)) fun z1 =>
 (.test (decide ((0 + z1.2.length) ≤ z1.2.length))
 (.test (decide (1 ≤ (List.length (List.set (List.replicate 1 ([] : List (Int))) 0 (win z1.2 0 z1.2.length)))))
 (.test (decide ((0 + out.length) ≤ out.length))
 (.test (decide ((2 * ((out.length + (List.length (win (List.set (List.replicate 1 ([] : List (Int))) 0 (win z1.2 0 z1.2.length)) 0 1))) * 25)) ≤ 140737488355328))
 (.test (decide ((0 = 0) ∧ ((out.length + (List.length (win (List.set (List.replicate 1 ([] : List (Int))) 0 (win z1.2 0 z1.2.length)) 0 1))) = (List.length ((win out 0 out.length) ++ (win (List.set (List.replicate 1 ([] : List (Int))) 0 (win z1.2 0 z1.2.length)) 0 1))))))
 (.test (decide ((0 = 0) ∧ (t8.length = t8.length)))
 (.ret (Sum.inl ((n, ((), ((), (t9, (w64 (t10 + 1)))))), (((win out 0 out.length) ++ (win (List.set (List.replicate 1 ([] : List (Int))) 0 (win z1.2 0 z1.2.length)) 0 1)), t8))))
 .fail)
 .fail)
 .fail)
 .fail)
 .fail)
 .fail)))
 .fail)
 (.test (decide ((0 = 0) ∧ (out.length = out.length)))
 (.ret (Sum.inr ((), out)))
 .fail))
noncomputable def F47_L3 (v) := loopO (fun v => (F47_L3_step v).run) v
def F47_fo : List FO := [⟨[(.one (.rw 0 0))], [(.row 0 (.list true (.int .i64)))]⟩]
noncomputable def F47_t : Int → T (Unit × List (List (Int))) := fun n =>
 (.sub (F29 n) fun z0 =>
 (.test (decide ((0 = 0) ∧ (0 = (List.length (List.replicate 0 ([] : List (Int)))))))
 (.test (decide ((0 = 0) ∧ (z0.2.length = z0.2.length)))
 (.sub (F47_L3 ((n, ((), ((), ((z0.2.length : Int), (0 : Int))))), ((List.replicate 0 ([] : List (Int))), z0.2))) fun z1 =>
 (.test (decide ((0 = 0) ∧ (z1.2.length = z1.2.length)))
 (.sub (F6 (((), ()), z1.2)) fun z2 =>
 (.test (decide ((0 = 0) ∧ (z1.2.length = z2.2.length)))
 (.ret ((), z2.2))
 .fail))
 .fail))
 .fail)
 .fail))
noncomputable def F47 (v) := (F47_t v).run
noncomputable def F47_E : TEnv := (((E0.add1 n_F29 F29_sh F29_fo F29).add1 n_F76 F76_sh F76_fo F76).add1 n_F28 F6_sh F6_fo F6)
theorem F47_Eok : (F47_E).OK := (((E0ok.add1 F29_ok).add1 F76_ok).add1 F6_ok)
noncomputable def F47_told : Nat → Option SealT := fun id => if id = 3 then some (LSh.told F47_L3_sh 0 (F47_L3_step)) else none
theorem F47_L3_ok : ToldOK Tryz.prog 0 (loopAt (bodyOf fn_F47) [0]) (LSh.told F47_L3_sh 0 (F47_L3_step)) :=
 loop_ok (E := F47_E) (F47_Eok) (told := F47_told) (l := F47_L3_sh) (step := F47_L3_step) (loopsOK_of (ls := []) (by kernel_rfl) trivial) (by kernel_rfl) (fun v => by kernel_rfl)
theorem F47_ok : FOK Tryz.prog n_F47 F47_sh F47_fo F47 :=
 fn_ok (E := F47_E) (F47_Eok) (told := F47_told) (fl := []) (c := bodyOf fn_F47) (s := F47_sh) (l := F47_fo) (tree := F47_t) fnat_F47 (by kernel_rfl) (by kernel_rfl) (by kernel_rfl) (loopsOK_of (ls := [loopAt (bodyOf fn_F47) [0]]) (by kernel_rfl) ⟨.inr ⟨_, by kernel_rfl, F47_L3_ok⟩, trivial⟩) (fun v => by kernel_rfl)
theorem F47_rows' (n : Nat) (hn : 3 ≤ n ∧ n ≤ 9) (t : List (List Dg)) (hlen : t.length ≤ 134217728) (ht : ∀ ds ∈ t, ds.length = n - 3 ∧ ∀ d ∈ ds, 0 ≤ d.1 ∧ d.1 < d.2 ∧ d.2 < (n : Int)) :
  F47_L3 (((n : Int), ((), ((), ((t.length : Int), (0 : Int))))), ([], t)) = some ((), t.map (quid n)) := by
 have key : ∀ m k (s : List (List Int)), k + m = t.length → s.length = k → F47_L3 (((n : Int), ((), ((), ((t.length : Int), (k : Int))))), (s, t)) = some ((), s ++ (t.drop k).map (quid n)) := by
  intro m
  induction m with
  | zero =>
   intro k s hk hs
   have : k = t.length := by omega
   subst this
   rw [List.drop_length, List.map_nil, List.append_nil]
   simp only [F47_L3]
   exact loopO_done (by simp [F47_L3_step, T.run])
  | succ m ih =>
   intro k s hk hs
   have hlt : k < t.length := by omega
   have hds := List.getElem?_eq_getElem hlt
   obtain ⟨q1, q2⟩ := ht t[k] (List.getElem_mem hlt)
   have hq := F76_eq n t[k] ⟨by omega, by omega⟩ (by omega) q2
   have ih := ih (k + 1) (s ++ [quid n t[k]]) (by omega) (by simp [hs])
   rw [List.drop_eq_getElem_cons hlt, List.map_cons]
   have e : s ++ quid n t[k] :: (t.drop (k + 1)).map (quid n) = s ++ [quid n t[k]] ++ (t.drop (k + 1)).map (quid n) := by simp
   rw [e]
   simp only [F47_L3] at ih ⊢
   rw [← ih]
   refine loopO_next ?_
   have c0 : (k : Int) < (t.length : Int) := by omega
   have c1 : (0 : Int) ≤ (k : Int) ∧ (k : Int) < (t.length : Int) := by omega
   have w1 : w64 ((k : Int) + 1) = ((k + 1 : Nat) : Int) := by rw [w64_id (by omega) (by omega)]; omega
   have c2 : 2 * ((s.length + 1) * 25) ≤ 140737488355328 := by omega
   generalize quid n t[k] = q at hq
   generalize t[k] = ds at hds hq
   clear ih e ht q1 q2 hlen
   have hone : win (List.set (List.replicate 1 ([] : List Int)) 0 q) 0 1 = [q] := rfl
   have hidx : t[0 + (k : Int).toNat]? = some ds := by rw [Int.toNat_natCast, Nat.zero_add]; exact hds
   simp only [F47_L3_step, T.run_test, T.run_sub, T.run_ret, T.run_fail]
   rw [if_pos (decide_eq_true c0), if_pos (decide_eq_true c1), hidx, Option.bind_some, hq, Option.bind_some]
   simp only [Nat.zero_add, Nat.le_refl, win_all, hone, List.length_cons, List.length_nil, List.length_set, List.length_replicate, c2, w1, List.length_append, decide_true, if_true, and_self]
 have h := key t.length 0 [] (by omega) rfl
 rw [List.drop_zero, List.nil_append, Int.natCast_zero] at h
 exact h
theorem F47_rows (n : Nat) (hn : 3 ≤ n ∧ n ≤ 9) : F47_L3 (((n : Int), ((), ((), (((allT n).length : Int), (0 : Int))))), ([], allT n)) = some ((), (allT n).map (quid n)) :=
 F47_rows' n hn (allT n) (allT_len n hn.2) fun _ h => allT_in hn h
theorem F47_eq (n : Nat) (hn : 3 ≤ n ∧ n ≤ 9) : F47 (n : Int) = some ((), allQ n) := by
 have hlen := allT_len n hn.2
 have hs := F6_eq ((allT n).map (quid n)) (by rw [List.length_map]; omega) (fun l hl => by
  obtain ⟨d, _, rfl⟩ := List.mem_map.1 hl
  rw [quid_length]; omega)
 have hl : ((allT n).map (quid n)).length = (sortL ((allT n).map (quid n))).length := (sortL_perm _).length_eq.symm
 rw [F47, F47_t, T.run_sub, F29_eq n hn, Option.bind_some, T.run_test, if_pos (by rfl), T.run_test, if_pos (by simp), T.run_sub]
 rw [List.replicate_zero, F47_rows n hn, Option.bind_some, T.run_test, if_pos (by simp), T.run_sub, hs, Option.bind_some, T.run_test, if_pos (by simp [hl]), T.run_ret]
 rfl
def F48_sh : FSh := ⟨[(.one (.si .i64))], []⟩
def F48_fo : List FO := [⟨[(.one (.rw 0 0)), (.one .sb)], [(.row 0 (.list true (.int .i64)))]⟩]
noncomputable def F48_t : Int → T ((Unit × Bool) × List (List (Int))) := fun n =>
 (.sub (F35 n) fun z0 =>
 (.test (! z0)
 (.test true
 (.ret (((), false), ([] : List (List Int))))
 .fail)
 (.sub (F47 n) fun z1 =>
 (.test (decide ((0 = 0) ∧ (z1.2.length = z1.2.length)))
 (.ret (((), true), z1.2))
 .fail))))
noncomputable def F48 (v) := (F48_t v).run
noncomputable def F48_E : TEnv := ((E0.add1 n_F35 F35_sh F35_fo F35).add1 n_F47 F47_sh F47_fo F47)
theorem F48_Eok : (F48_E).OK := ((E0ok.add1 F35_ok).add1 F47_ok)
noncomputable def F48_told : Nat → Option SealT := fun id => none
theorem F48_ok : FOK Tryz.prog n_F48 F48_sh F48_fo F48 :=
 fn_ok (E := F48_E) (F48_Eok) (told := F48_told) (fl := []) (c := bodyOf fn_F48) (s := F48_sh) (l := F48_fo) (tree := F48_t) fnat_F48 (by kernel_rfl) (by kernel_rfl) (by kernel_rfl) (loopsOK_of (ls := []) (by kernel_rfl) trivial) (fun v => by kernel_rfl)
theorem F48_eq (n : Nat) (h3 : 3 ≤ n) (h8 : n ≤ 8) : F48 (n : Int) = some (((), true), allQ n) := by
 rw [F48, F48_t, T.run_sub, F35, F35_t, T.run_sub, F90_eq, Option.bind_some, T.run_ret, Option.bind_some, T.run_test, if_neg (by rw [inB_iff.2 (by omega)]; simp), T.run_sub, F47_eq n (by omega), Option.bind_some, T.run_test, if_pos (by simp), T.run_ret]
end Go.Proofs.W
