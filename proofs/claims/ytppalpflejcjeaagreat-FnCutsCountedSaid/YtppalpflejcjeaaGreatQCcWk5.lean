import Derived.Test.YtppalpflejcjeaaGreatQCcWk4
set_option linter.unusedVariables false
set_option linter.unusedSimpArgs false
set_option maxRecDepth 100000
set_option maxHeartbeats 4000000
namespace Go.Proofs.W
open Go Go.Gm Go.Proofs
open Go.RowKit Go.Shelf
def F4_sh : FSh := ⟨[(.one (.sl (.pair (.int .i64) (.int .i64)) false false)), (.one (.sl (.pair (.int .i64) (.int .i64)) false false)), (.one (.si .i64)), (.one (.si .i64)), (.clo n_F20 [(.one (.pf 0 0 0)), (.one (.pf 1 0 0)), (.one (.pf 2 0 0)), (.one (.pf 3 0 0))])], [(.rcd 0 [.sb]), (.rcd 0 [(.si .i64)]), (.rcd 0 [(.si .i64)]), (.rcd 0 [(.rw 4 0)]), (.row 0 (.pair (.int .i64) (.int .i64)))]⟩
def F4_fo : List FO := [⟨[], [(.rcd 0 [.sb]), (.rcd 0 [(.si .i64)]), (.rcd 0 [(.si .i64)]), (.rcd 0 [(.rw 4 1)]), (.row 1 (.pair (.int .i64) (.int .i64)))]⟩]
def F4_L3_sh : LSh := ⟨(fun ex => match ex with | .norm => [(0, none), (1, none), (3, none), (4, none), (10, none)] | .exit i => if i = 0 then [] else [] | .ret => []), [(0, (.one (.sl (.pair (.int .i64) (.int .i64)) false false))), (1, (.one (.sl (.pair (.int .i64) (.int .i64)) false false))), (3, (.one (.si .i64))), (4, (.clo n_F20 [(.one (.pf 0 0 0)), (.one (.pf 1 0 0)), (.one (.pf 2 0 0)), (.one (.pf 3 0 0))])), (10, (.one (.si .i64)))], [(.rcd 0 [.sb]), (.rcd 0 [(.si .i64)]), (.rcd 0 [(.si .i64)]), (.rcd 0 [(.rw 4 1)]), (.row 1 (.pair (.int .i64) (.int .i64)))], [⟨(.exit 0), [], [(.rcd 0 [.sb]), (.rcd 0 [(.si .i64)]), (.rcd 0 [(.si .i64)]), (.rcd 0 [(.rw 4 1)]), (.row 1 (.pair (.int .i64) (.int .i64)))]⟩], [], [4]⟩
noncomputable def F4_L3_step (recv : ((List ((Int × Int)) × List ((Int × Int)) × Int × Int × (Unit × Unit × Unit × Unit)) × (Bool × Int × Int × Unit × List ((Int × Int)))) → Option (Unit × (Bool × Int × Int × Unit × List ((Int × Int))))) : ((List ((Int × Int)) × List ((Int × Int)) × Int × (Unit × Unit × Unit × Unit) × Int) × (Bool × Int × Int × Unit × List ((Int × Int)))) → T (((List ((Int × Int)) × List ((Int × Int)) × Int × (Unit × Unit × Unit × Unit) × Int) × (Bool × Int × Int × Unit × List ((Int × Int)))) ⊕ (Unit × (Bool × Int × Int × Unit × List ((Int × Int))))) := fun ((all, begin, more, ((), (), (), ()), i), (r0_0, r1_0, r2_0, (), r3_r)) =>
 (.test (decide (i < (all.length : Int)))
 (.test (decide ((0 ≤ i) ∧ (i < (all.length : Int))))
 (.sub (all[(Int.toNat i)]?) fun z0 =>
 (.sub (F69 (begin, z0)) fun z1 =>
 (.test (! z1)
 (.test (decide (0 ≤ (begin.length : Int)))
 (.test (decide (0 ≤ (begin.length : Int)))
 (.test (decide ((0 ≤ (Int.toNat (begin.length : Int))) ∧ (((Int.toNat (begin.length : Int)) = (Int.toNat (begin.length : Int))) ∧ ((Int.toNat (begin.length : Int)) ≤ begin.length))))
 (.test (decide ((0 ≤ i) ∧ (i < (all.length : Int))))
 (.sub (all[(Int.toNat i)]?) fun z2 =>
 (.test (decide (1 ≤ 1))
 (.test (decide (¬ ((1 = 0) ∧ ((List.length (win begin 0 ((Int.toNat (begin.length : Int)) - 0))) ≠ 0))))
 (.test (decide ((2 * (((List.length (win begin 0 ((Int.toNat (begin.length : Int)) - 0))) + 1) * (16 + 1))) ≤ 140737488355328))
 (.test (decide ((0 + ((List.length (win begin 0 ((Int.toNat (begin.length : Int)) - 0))) + 1)) ≤ (List.length ((win begin 0 ((Int.toNat (begin.length : Int)) - 0)) ++ [z2]))))
 (.test (decide ((0 = 0) ∧ (r3_r.length = r3_r.length)))
 (.sub (recv ((all, ((win ((win begin 0 ((Int.toNat (begin.length : Int)) - 0)) ++ [z2]) 0 ((List.length (win begin 0 ((Int.toNat (begin.length : Int)) - 0))) + 1)), ((w64 (i + 1)), ((w64 (more - 1)), ((), ((), ((), ()))))))), (r0_0, (r1_0, (r2_0, ((), r3_r)))))) fun z3 =>
 (.test (decide ((0 = 0) ∧ (z3.2.2.2.2.2.length = z3.2.2.2.2.2.length)))
 (.ret (Sum.inl ((all, (begin, (more, (((), ((), ((), ()))), (w64 (i + 1)))))), (z3.2.1, (z3.2.2.1, (z3.2.2.2.1, ((), z3.2.2.2.2.2)))))))
 .fail))
 .fail)
 .fail)
 .fail)
 .fail)
 .fail))
 .fail)
 .fail)
 .fail)
 .fail)
 (.test (decide ((0 = 0) ∧ (r3_r.length = r3_r.length)))
 (.ret (Sum.inl ((all, (begin, (more, (((), ((), ((), ()))), (w64 (i + 1)))))), (r0_0, (r1_0, (r2_0, ((), r3_r)))))))
 .fail))))
 .fail)
 (.test (decide ((0 = 0) ∧ (r3_r.length = r3_r.length)))
 (.ret (Sum.inr ((), (r0_0, (r1_0, (r2_0, ((), r3_r)))))))
 .fail))
noncomputable def F4_L3 (recv : ((List ((Int × Int)) × List ((Int × Int)) × Int × Int × (Unit × Unit × Unit × Unit)) × (Bool × Int × Int × Unit × List ((Int × Int)))) → Option (Unit × (Bool × Int × Int × Unit × List ((Int × Int))))) (v : ((List ((Int × Int)) × List ((Int × Int)) × Int × (Unit × Unit × Unit × Unit) × Int) × (Bool × Int × Int × Unit × List ((Int × Int))))) : Option (Unit × (Bool × Int × Int × Unit × List ((Int × Int)))) := loopO (fun v => (F4_L3_step recv v).run) v
noncomputable def F4_t (recv : ((List ((Int × Int)) × List ((Int × Int)) × Int × Int × (Unit × Unit × Unit × Unit)) × (Bool × Int × Int × Unit × List ((Int × Int)))) → Option (Unit × (Bool × Int × Int × Unit × List ((Int × Int))))) : ((List ((Int × Int)) × List ((Int × Int)) × Int × Int × (Unit × Unit × Unit × Unit)) × (Bool × Int × Int × Unit × List ((Int × Int)))) → T (Unit × (Bool × Int × Int × Unit × List ((Int × Int)))) := fun ((all, begin, from', more, ((), (), (), ())), (r0_0, r1_0, r2_0, (), r3_r)) =>
 (.test (more == 0)
 (.test (decide ((0 = 0) ∧ (r3_r.length = r3_r.length)))
 (.sub (F11 ((begin, ((), ((), ((), ())))), (r0_0, (r1_0, (r2_0, ((), r3_r)))))) fun z0 =>
 (.test (decide ((0 = 0) ∧ (z0.2.2.2.2.2.length = z0.2.2.2.2.2.length)))
 (.ret ((), (z0.2.1, (z0.2.2.1, (z0.2.2.2.1, ((), z0.2.2.2.2.2))))))
 .fail))
 .fail)
 (.test (decide ((0 = 0) ∧ (r3_r.length = r3_r.length)))
 (.sub (F4_L3 recv ((all, (begin, (more, (((), ((), ((), ()))), from')))), (r0_0, (r1_0, (r2_0, ((), r3_r)))))) fun z1 =>
 (.test (decide ((0 = 0) ∧ (z1.2.2.2.2.2.length = z1.2.2.2.2.2.length)))
 (.ret ((), (z1.2.1, (z1.2.2.1, (z1.2.2.2.1, ((), z1.2.2.2.2.2))))))
 .fail))
 .fail))
noncomputable def F4_f (recv : ((List ((Int × Int)) × List ((Int × Int)) × Int × Int × (Unit × Unit × Unit × Unit)) × (Bool × Int × Int × Unit × List ((Int × Int)))) → Option (Unit × (Bool × Int × Int × Unit × List ((Int × Int))))) (v : ((List ((Int × Int)) × List ((Int × Int)) × Int × Int × (Unit × Unit × Unit × Unit)) × (Bool × Int × Int × Unit × List ((Int × Int))))) : Option (Unit × (Bool × Int × Int × Unit × List ((Int × Int)))) := (F4_t recv v).run
noncomputable def F4 : ((List ((Int × Int)) × List ((Int × Int)) × Int × Int × (Unit × Unit × Unit × Unit)) × (Bool × Int × Int × Unit × List ((Int × Int)))) → Option (Unit × (Bool × Int × Int × Unit × List ((Int × Int)))) := recF F4_f
noncomputable def F4_E (recv : ((List ((Int × Int)) × List ((Int × Int)) × Int × Int × (Unit × Unit × Unit × Unit)) × (Bool × Int × Int × Unit × List ((Int × Int)))) → Option (Unit × (Bool × Int × Int × Unit × List ((Int × Int))))) : TEnv := (((E0.add1 n_F20 F11_sh F11_fo F11).add1 n_F69 F69_sh F69_fo F69).add1 n_F116 F4_sh F4_fo recv)
theorem F4_Eok (recv : ((List ((Int × Int)) × List ((Int × Int)) × Int × Int × (Unit × Unit × Unit × Unit)) × (Bool × Int × Int × Unit × List ((Int × Int)))) → Option (Unit × (Bool × Int × Int × Unit × List ((Int × Int))))) (hrec : FOK Tryz.prog n_F116 F4_sh F4_fo recv) : (F4_E recv).OK := (((E0ok.add1 F11_ok).add1 F69_ok).add1 hrec)
noncomputable def F4_told (recv : ((List ((Int × Int)) × List ((Int × Int)) × Int × Int × (Unit × Unit × Unit × Unit)) × (Bool × Int × Int × Unit × List ((Int × Int)))) → Option (Unit × (Bool × Int × Int × Unit × List ((Int × Int))))) : Nat → Option SealT := fun id => if id = 3 then some (LSh.told F4_L3_sh 5 (F4_L3_step recv)) else none
theorem F4_L3_ok (recv : ((List ((Int × Int)) × List ((Int × Int)) × Int × Int × (Unit × Unit × Unit × Unit)) × (Bool × Int × Int × Unit × List ((Int × Int)))) → Option (Unit × (Bool × Int × Int × Unit × List ((Int × Int))))) (hrec : FOK Tryz.prog n_F116 F4_sh F4_fo recv) : ToldOK Tryz.prog 5 (loopAt (bodyOf fn_F116) [0]) (LSh.told F4_L3_sh 5 (F4_L3_step recv)) :=
 loop_ok (E := F4_E recv) (F4_Eok recv hrec) (told := F4_told recv) (l := F4_L3_sh) (step := F4_L3_step recv) (loopsOK_of (ls := []) (by kernel_rfl) trivial) (by kernel_rfl) (fun v => by kernel_rfl)
theorem F4_okr (recv : ((List ((Int × Int)) × List ((Int × Int)) × Int × Int × (Unit × Unit × Unit × Unit)) × (Bool × Int × Int × Unit × List ((Int × Int)))) → Option (Unit × (Bool × Int × Int × Unit × List ((Int × Int))))) (hrec : FOK Tryz.prog n_F116 F4_sh F4_fo recv) : FOK Tryz.prog n_F116 F4_sh F4_fo (F4_f recv) :=
 fn_ok (E := F4_E recv) (F4_Eok recv hrec) (told := F4_told recv) (fl := []) (c := bodyOf fn_F116) (s := F4_sh) (l := F4_fo) (tree := F4_t recv) fnat_F116 (by kernel_rfl) (by kernel_rfl) (by kernel_rfl) (loopsOK_of (ls := [loopAt (bodyOf fn_F116) [0]]) (by kernel_rfl) ⟨.inr ⟨_, by kernel_rfl, F4_L3_ok recv hrec⟩, trivial⟩) (fun v => by kernel_rfl)
theorem F4_ok : FOK Tryz.prog n_F116 F4_sh F4_fo F4 := FOK.rec (fun F h => F4_okr F h) recLim
theorem F4_loop (N : Nat) (size : Int) (K : Nat) (t b : List Dg) (recv : _ → Option _) (hn : b.length < K ∧ K ≤ 1000) (ht : t.length ≤ 27) (hb : b.length < 1000) :
  ∀ (m i : Nat) (fd : Bool) (r : List Dg), i + m = t.length → (∀ ds ∈ goL K (t.drop i) b, isCut N ds = true) →
  (∀ (j : Nat) (fd : Bool) (r : List Dg), i ≤ j → j < t.length → (∀ ds ∈ lookL K (t.drop (j + 1)) (b ++ [gD t j]), isCut N ds = true) →
   recv ((t, (b ++ [gD t j], (((j + 1 : Nat) : Int), (((K - (b.length + 1) : Nat) : Int), ((), ((), ((), ()))))))), (fd, ((N : Int), (size, ((), r))))) = some ((), visO N size ((lookL K (t.drop (j + 1)) (b ++ [gD t j])).foldl (vis N size) (fd, r)))) →
  F4_L3 recv ((t, (b, (((K - b.length : Nat) : Int), (((), ((), ((), ()))), (i : Int))))), (fd, ((N : Int), (size, ((), r))))) = some ((), visO N size ((goL K (t.drop i) b).foldl (vis N size) (fd, r)))
 | 0, i, fd, r, hi, hcut, hr => by
  have : i = t.length := by omega
  subst this
  rw [List.drop_length]
  refine loopO_done ?_
  rw [F4_L3_step, T.run_test, if_neg (by rw [decide_eq_true_eq]; omega), T.run_test, if_pos (by simp), T.run_ret]
  rfl
 | m + 1, i, fd, r, hi, hcut, hr => by
  have hlt : i < t.length := by omega
  have w1 : w64 ((i : Int) + 1) = ((i + 1 : Nat) : Int) := by rw [w64_id (by omega) (by omega)]; omega
  have wl : w64 (((K - b.length : Nat) : Int) - 1) = ((K - (b.length + 1) : Nat) : Int) := by rw [w64_id (by omega) (by omega)]; omega
  have hcr := F69_eq b (gD t i) (by omega)
  have eg : goL K (t.drop i) b = (if freeD (gD t i) b then lookL K (t.drop (i + 1)) (b ++ [gD t i]) else []) ++ goL K (t.drop (i + 1)) b := by rw [drop_gD hlt, goL_cons]
  rw [eg] at hcut ⊢
  have hcut2 : ∀ ds ∈ goL K (t.drop (i + 1)) b, isCut N ds = true := fun ds hds => hcut ds (List.mem_append_right _ hds)
  rw [List.foldl_append]
  cases hf : b.any (crossD (gD t i)) with
  | true =>
   have hfr : freeD (gD t i) b = false := by unfold freeD; rw [hf]; rfl
   have ih := F4_loop N size K t b recv hn ht hb m (i + 1) fd r (by omega) hcut2 (fun j fd r h1 h2 h3 => hr j fd r (by omega) h2 h3)
   rw [hfr]
   simp only [Bool.false_eq_true, if_false, List.foldl_nil]
   rw [← ih]
   rw [hf] at hcr
   refine loopO_next ?_
   rw [F4_L3_step, T.run_test, if_pos (decide_eq_true (by omega)), T.run_test, if_pos (decide_eq_true (by omega)), T.run_sub, Int.toNat_natCast, gD_some hlt, Option.bind_some, T.run_sub, hcr, Option.bind_some, T.run_test, if_neg (by simp), T.run_test, if_pos (by simp), T.run_ret, w1]
  | false =>
   have hfr : freeD (gD t i) b = true := by unfold freeD; rw [hf]; rfl
   rw [hfr] at hcut
   rw [hfr]
   simp only [if_true] at hcut ⊢
   have hrec := hr i fd r (Nat.le_refl _) hlt (fun ds hds => hcut ds (List.mem_append_left _ hds))
   generalize hs : (lookL K (t.drop (i + 1)) (b ++ [gD t i])).foldl (vis N size) (fd, r) = s at hrec ⊢
   obtain ⟨fd2, r2⟩ := s
   have ih := F4_loop N size K t b recv hn ht hb m (i + 1) fd2 r2 (by omega) hcut2 (fun j fd r h1 h2 h3 => hr j fd r (by omega) h2 h3)
   rw [← ih]
   rw [hf] at hcr
   refine loopO_next ?_
   have hw : win (b ++ [gD t i]) 0 (b.length + 1) = b ++ [gD t i] := by
    have := win_all (b ++ [gD t i])
    rwa [List.length_append, List.length_singleton] at this
   rw [F4_L3_step, T.run_test, if_pos (decide_eq_true (by omega)), T.run_test, if_pos (decide_eq_true (by omega)), T.run_sub, Int.toNat_natCast, gD_some hlt, Option.bind_some, T.run_sub, hcr, Option.bind_some, T.run_test, if_pos (by rfl), T.run_test, if_pos (decide_eq_true (by omega)), T.run_test, if_pos (decide_eq_true (by omega)), T.run_test, if_pos (decide_eq_true (by omega)), T.run_test, if_pos (decide_eq_true (by omega)), T.run_sub]
   rw [Int.toNat_natCast, Nat.sub_zero, win_all, Option.bind_some, T.run_test, if_pos (by rfl), T.run_test, if_pos (by simp), T.run_test, if_pos (decide_eq_true (by omega)), T.run_test, if_pos (by simp), T.run_test, if_pos (by simp), T.run_sub, hw, w1, wl, hrec, Option.bind_some, T.run_test, if_pos (by simp), T.run_ret]
   rfl
theorem cuts_fe2 (N : Nat) (size : Int) (K : Nat) (hK : K ≤ 1000) (t : List Dg) (ht : t.length ≤ 27) : ∀ (k i : Nat) (b : List Dg) (fd : Bool) (r : List Dg), i ≤ t.length → t.length - i < k → b.length + (t.length - i) < 100 → b.length ≤ K → (∀ ds ∈ lookL K (t.drop i) b, isCut N ds = true) →
  recN F4_f k ((t, (b, ((i : Int), (((K - b.length : Nat) : Int), ((), ((), ((), ()))))))), (fd, ((N : Int), (size, ((), r))))) = some ((), visO N size ((lookL K (t.drop i) b).foldl (vis N size) (fd, r)))
 | 0, i, b, fd, r, hi, hk, hb, hbK, hcut => absurd hk (Nat.not_lt_zero _)
 | k + 1, i, b, fd, r, hi, hk, hb, hbK, hcut => by
  show F4_f (recN F4_f k) _ = _
  rw [F4_f, F4_t, T.run_test]
  by_cases hl : b.length = K
  ·have e : lookL K (t.drop i) b = [b] := by unfold lookL; rw [if_pos hl]
   rw [e] at hcut ⊢
   rw [if_pos (by simp; omega), T.run_test, if_pos (by simp), T.run_sub, F11_eq size (hcut b (by simp)), Option.bind_some, T.run_test, if_pos (by simp), T.run_ret]
   rfl
  ·have e : lookL K (t.drop i) b = goL K (t.drop i) b := by unfold lookL; rw [if_neg hl]
   rw [e] at hcut ⊢
   have h3 := F4_loop N size K t b (recN F4_f k) ⟨by omega, hK⟩ ht (by omega) (t.length - i) i fd r (by omega) hcut (fun j fd r h1 h2 h3 => by
    have := cuts_fe2 N size K hK t ht k (j + 1) (b ++ [gD t j]) fd r (by omega) (by omega) (by rw [List.length_append, List.length_singleton]; omega) (by rw [List.length_append, List.length_singleton]; omega) h3
    rwa [List.length_append, List.length_singleton] at this)
   rw [if_neg (by simp; omega), T.run_test, if_pos (by simp), T.run_sub, h3, Option.bind_some, T.run_test, if_pos (by simp), T.run_ret]
def F7_sh : FSh := ⟨[(.one (.sl (.pair (.int .i64) (.int .i64)) false false)), (.one (.sl (.pair (.int .i64) (.int .i64)) false false)), (.one (.si .i64)), (.one (.si .i64)), (.clo n_F20 [(.one (.pf 0 0 0)), (.one (.pf 1 0 0)), (.one (.pf 2 0 0)), (.one (.pf 3 0 0))])], [(.rcd 0 [.sb]), (.rcd 0 [(.si .i64)]), (.rcd 0 [(.si .i64)]), (.rcd 0 [(.nl true true)])]⟩
def F7_L3_sh : LSh := ⟨(fun ex => match ex with | .norm => [(0, none), (1, none), (3, none), (4, none), (10, none)] | .exit i => if i = 0 then [] else [] | .ret => []), [(0, (.one (.sl (.pair (.int .i64) (.int .i64)) false false))), (1, (.one (.sl (.pair (.int .i64) (.int .i64)) false false))), (3, (.one (.si .i64))), (4, (.clo n_F20 [(.one (.pf 0 0 0)), (.one (.pf 1 0 0)), (.one (.pf 2 0 0)), (.one (.pf 3 0 0))])), (10, (.one (.si .i64)))], [(.rcd 0 [.sb]), (.rcd 0 [(.si .i64)]), (.rcd 0 [(.si .i64)]), (.rcd 0 [(.rw 4 0)]), (.row 0 (.pair (.int .i64) (.int .i64)))], [⟨(.exit 0), [], [(.rcd 0 [.sb]), (.rcd 0 [(.si .i64)]), (.rcd 0 [(.si .i64)]), (.rcd 0 [(.rw 4 0)]), (.row 0 (.pair (.int .i64) (.int .i64)))]⟩], [(3, 0, (.pair (.int .i64) (.int .i64)))], []⟩
noncomputable def F7_L3_step : ((List ((Int × Int)) × List ((Int × Int)) × Int × (Unit × Unit × Unit × Unit) × Int) × (Bool × Int × Int × Unit × List ((Int × Int)))) → T (((List ((Int × Int)) × List ((Int × Int)) × Int × (Unit × Unit × Unit × Unit) × Int) × (Bool × Int × Int × Unit × List ((Int × Int)))) ⊕ (Unit × (Bool × Int × Int × Unit × List ((Int × Int))))) := fun ((all, begin, more, ((), (), (), ()), i), (r0_0, r1_0, r2_0, (), r3_r)) =>
 (.test (decide (i < (all.length : Int)))
 (.test (decide ((0 ≤ i) ∧ (i < (all.length : Int))))
 (.sub (all[(Int.toNat i)]?) fun z0 =>
 (.sub (F69 (begin, z0)) fun z1 =>
 (.test (! z1)
 (.test (decide (0 ≤ (begin.length : Int)))
 (.test (decide (0 ≤ (begin.length : Int)))
 (.test (decide ((0 ≤ (Int.toNat (begin.length : Int))) ∧ (((Int.toNat (begin.length : Int)) = (Int.toNat (begin.length : Int))) ∧ ((Int.toNat (begin.length : Int)) ≤ begin.length))))
 (.test (decide ((0 ≤ i) ∧ (i < (all.length : Int))))
 (.sub (all[(Int.toNat i)]?) fun z2 =>
 (.test (decide (1 ≤ 1))
 (.test (decide (¬ ((1 = 0) ∧ ((List.length (win begin 0 ((Int.toNat (begin.length : Int)) - 0))) ≠ 0))))
 (.test (decide ((2 * (((List.length (win begin 0 ((Int.toNat (begin.length : Int)) - 0))) + 1) * 17)) ≤ 140737488355328))
 (.test (decide ((0 + ((List.length (win begin 0 ((Int.toNat (begin.length : Int)) - 0))) + 1)) ≤ (List.length ((win begin 0 ((Int.toNat (begin.length : Int)) - 0)) ++ [z2]))))
 (.test (decide ((0 = 0) ∧ (r3_r.length = r3_r.length)))
 (.sub (F4 ((all, ((win ((win begin 0 ((Int.toNat (begin.length : Int)) - 0)) ++ [z2]) 0 ((List.length (win begin 0 ((Int.toNat (begin.length : Int)) - 0))) + 1)), ((w64 (i + 1)), ((w64 (more - 1)), ((), ((), ((), ()))))))), (r0_0, (r1_0, (r2_0, ((), r3_r)))))) fun z3 =>
 (.test (decide ((0 = 0) ∧ (z3.2.2.2.2.2.length = z3.2.2.2.2.2.length)))
 (.ret (Sum.inl ((all, (begin, (more, (((), ((), ((), ()))), (w64 (i + 1)))))), (z3.2.1, (z3.2.2.1, (z3.2.2.2.1, ((), z3.2.2.2.2.2)))))))
 .fail))
 .fail)
 .fail)
 .fail)
 .fail)
 .fail))
 .fail)
 .fail)
 .fail)
 .fail)
 (.test (decide ((0 = 0) ∧ (r3_r.length = r3_r.length)))
 (.ret (Sum.inl ((all, (begin, (more, (((), ((), ((), ()))), (w64 (i + 1)))))), (r0_0, (r1_0, (r2_0, ((), r3_r)))))))
 .fail))))
 .fail)
 (.test (decide ((0 = 0) ∧ (r3_r.length = r3_r.length)))
 (.ret (Sum.inr ((), (r0_0, (r1_0, (r2_0, ((), r3_r)))))))
 .fail))
noncomputable def F7_L3 (v) := loopO (fun v => (F7_L3_step v).run) v
def F7_fo : List FO := [⟨[], [(.rcd 0 [.sb]), (.rcd 0 [(.si .i64)]), (.rcd 0 [(.si .i64)]), (.rcd 0 [(.rw 4 0)]), (.row 0 (.pair (.int .i64) (.int .i64)))]⟩, ⟨[], [(.rcd 0 [.sb]), (.rcd 0 [(.si .i64)]), (.rcd 0 [(.si .i64)]), (.rcd 0 [(.nl true true)])]⟩]
noncomputable def F7_t : ((List ((Int × Int)) × List ((Int × Int)) × Int × Int × (Unit × Unit × Unit × Unit)) × (Bool × Int × Int × Unit)) → T ((Unit × (Bool × Int × Int × Unit × List ((Int × Int)))) ⊕ (Unit × (Bool × Int × Int × Unit))) := fun ((all, begin, from', more, ((), (), (), ())), (r0_0, r1_0, r2_0, ())) =>
 (.test (more == 0)
 (.sub (F20 ((begin, ((), ((), ((), ())))), (r0_0, (r1_0, (r2_0, ()))))) fun z0 =>
 (.test (Sum.isLeft z0)
 (.sub (Sum.getLeft? z0) fun z1 =>
 (.test (decide ((0 = 0) ∧ (z1.2.2.2.2.2.length = z1.2.2.2.2.2.length)))
 (.ret (Sum.inl ((), (z1.2.1, (z1.2.2.1, (z1.2.2.2.1, ((), z1.2.2.2.2.2)))))))
 .fail))
 (.sub (Sum.getRight? z0) fun z2 =>
 (.ret (Sum.inr ((), (z2.2.1, (z2.2.2.1, (z2.2.2.2.1, ())))))))))
 (.test (decide ((0 = 0) ∧ (0 = (List.length ([] : List (Int × Int))))))
 (.sub (F7_L3 ((all, (begin, (more, (((), ((), ((), ()))), from')))), (r0_0, (r1_0, (r2_0, ((), ([] : List (Int × Int)))))))) fun z3 =>
 (.test (decide ((0 = 0) ∧ (z3.2.2.2.2.2.length = z3.2.2.2.2.2.length)))
 (.ret (Sum.inl ((), (z3.2.1, (z3.2.2.1, (z3.2.2.2.1, ((), z3.2.2.2.2.2)))))))
 .fail))
 .fail))
noncomputable def F7 (v) := (F7_t v).run
noncomputable def F7_E : TEnv := (((E0.add1 n_F20 F20_sh F20_fo F20).add1 n_F69 F69_sh F69_fo F69).add1 n_F116 F4_sh F4_fo F4)
theorem F7_Eok : (F7_E).OK := (((E0ok.add1 F20_ok).add1 F69_ok).add1 F4_ok)
noncomputable def F7_told : Nat → Option SealT := fun id => if id = 3 then some (LSh.told F7_L3_sh 4 (F7_L3_step)) else none
theorem F7_L3_ok : ToldOK Tryz.prog 4 (loopAt (bodyOf fn_F116) [0]) (LSh.told F7_L3_sh 4 (F7_L3_step)) :=
 loop_ok (E := F7_E) (F7_Eok) (told := F7_told) (l := F7_L3_sh) (step := F7_L3_step) (loopsOK_of (ls := []) (by kernel_rfl) trivial) (by kernel_rfl) (fun v => by kernel_rfl)
theorem F7_ok : FOK Tryz.prog n_F116 F7_sh F7_fo F7 :=
 fn_ok (E := F7_E) (F7_Eok) (told := F7_told) (fl := []) (c := bodyOf fn_F116) (s := F7_sh) (l := F7_fo) (tree := F7_t) fnat_F116 (by kernel_rfl) (by kernel_rfl) (by kernel_rfl) (loopsOK_of (ls := [loopAt (bodyOf fn_F116) [0]]) (by kernel_rfl) ⟨.inr ⟨_, by kernel_rfl, F7_L3_ok⟩, trivial⟩) (fun v => by kernel_rfl)
theorem F7_loop (N : Nat) (size : Int) (K : Nat) (t b : List Dg) (hn : b.length < K ∧ K ≤ 1000) (ht : t.length ≤ 27) (hb : b.length < 1000) :
  ∀ (m i : Nat) (fd : Bool) (r : List Dg), i + m = t.length → (∀ ds ∈ goL K (t.drop i) b, isCut N ds = true) →
  (∀ (j : Nat) (fd : Bool) (r : List Dg), i ≤ j → j < t.length → (∀ ds ∈ lookL K (t.drop (j + 1)) (b ++ [gD t j]), isCut N ds = true) →
   F4 ((t, (b ++ [gD t j], (((j + 1 : Nat) : Int), (((K - (b.length + 1) : Nat) : Int), ((), ((), ((), ()))))))), (fd, ((N : Int), (size, ((), r))))) = some ((), visO N size ((lookL K (t.drop (j + 1)) (b ++ [gD t j])).foldl (vis N size) (fd, r)))) →
  F7_L3 ((t, (b, (((K - b.length : Nat) : Int), (((), ((), ((), ()))), (i : Int))))), (fd, ((N : Int), (size, ((), r))))) = some ((), visO N size ((goL K (t.drop i) b).foldl (vis N size) (fd, r)))
 | 0, i, fd, r, hi, hcut, hr => by
  have : i = t.length := by omega
  subst this
  rw [List.drop_length]
  refine loopO_done ?_
  rw [F7_L3_step, T.run_test, if_neg (by rw [decide_eq_true_eq]; omega), T.run_test, if_pos (by simp), T.run_ret]
  rfl
 | m + 1, i, fd, r, hi, hcut, hr => by
  have hlt : i < t.length := by omega
  have w1 : w64 ((i : Int) + 1) = ((i + 1 : Nat) : Int) := by rw [w64_id (by omega) (by omega)]; omega
  have wl : w64 (((K - b.length : Nat) : Int) - 1) = ((K - (b.length + 1) : Nat) : Int) := by rw [w64_id (by omega) (by omega)]; omega
  have hcr := F69_eq b (gD t i) (by omega)
  have eg : goL K (t.drop i) b = (if freeD (gD t i) b then lookL K (t.drop (i + 1)) (b ++ [gD t i]) else []) ++ goL K (t.drop (i + 1)) b := by rw [drop_gD hlt, goL_cons]
  rw [eg] at hcut ⊢
  have hcut2 : ∀ ds ∈ goL K (t.drop (i + 1)) b, isCut N ds = true := fun ds hds => hcut ds (List.mem_append_right _ hds)
  rw [List.foldl_append]
  cases hf : b.any (crossD (gD t i)) with
  | true =>
   have hfr : freeD (gD t i) b = false := by unfold freeD; rw [hf]; rfl
   have ih := F7_loop N size K t b hn ht hb m (i + 1) fd r (by omega) hcut2 (fun j fd r h1 h2 h3 => hr j fd r (by omega) h2 h3)
   rw [hfr]
   simp only [Bool.false_eq_true, if_false, List.foldl_nil]
   rw [← ih]
   rw [hf] at hcr
   refine loopO_next ?_
   rw [F7_L3_step, T.run_test, if_pos (decide_eq_true (by omega)), T.run_test, if_pos (decide_eq_true (by omega)), T.run_sub, Int.toNat_natCast, gD_some hlt, Option.bind_some, T.run_sub, hcr, Option.bind_some, T.run_test, if_neg (by simp), T.run_test, if_pos (by simp), T.run_ret, w1]
  | false =>
   have hfr : freeD (gD t i) b = true := by unfold freeD; rw [hf]; rfl
   rw [hfr] at hcut
   rw [hfr]
   simp only [if_true] at hcut ⊢
   have hrec := hr i fd r (Nat.le_refl _) hlt (fun ds hds => hcut ds (List.mem_append_left _ hds))
   generalize hs : (lookL K (t.drop (i + 1)) (b ++ [gD t i])).foldl (vis N size) (fd, r) = s at hrec ⊢
   obtain ⟨fd2, r2⟩ := s
   have ih := F7_loop N size K t b hn ht hb m (i + 1) fd2 r2 (by omega) hcut2 (fun j fd r h1 h2 h3 => hr j fd r (by omega) h2 h3)
   rw [← ih]
   rw [hf] at hcr
   refine loopO_next ?_
   have hw : win (b ++ [gD t i]) 0 (b.length + 1) = b ++ [gD t i] := by
    have := win_all (b ++ [gD t i])
    rwa [List.length_append, List.length_singleton] at this
   rw [F7_L3_step, T.run_test, if_pos (decide_eq_true (by omega)), T.run_test, if_pos (decide_eq_true (by omega)), T.run_sub, Int.toNat_natCast, gD_some hlt, Option.bind_some, T.run_sub, hcr, Option.bind_some, T.run_test, if_pos (by rfl), T.run_test, if_pos (decide_eq_true (by omega)), T.run_test, if_pos (decide_eq_true (by omega)), T.run_test, if_pos (decide_eq_true (by omega)), T.run_test, if_pos (decide_eq_true (by omega)), T.run_sub]
   rw [Int.toNat_natCast, Nat.sub_zero, win_all, Option.bind_some, T.run_test, if_pos (by rfl), T.run_test, if_pos (by simp), T.run_test, if_pos (decide_eq_true (by omega)), T.run_test, if_pos (by simp), T.run_test, if_pos (by simp), T.run_sub, hw, w1, wl, hrec, Option.bind_some, T.run_test, if_pos (by simp), T.run_ret]
   rfl
theorem cuts_fe1 (N : Nat) (size : Int) (K : Nat) (hK : K ≤ 40) (t : List Dg) (ht : t.length ≤ 27) (hcut : ∀ ds ∈ lookL K t [], isCut N ds = true) : ∃ z, F7 ((t, ([], ((0 : Int), ((K : Int), ((), ((), ((), ()))))))), (false, ((N : Int), (size, ())))) = some z ∧
  match z with
  | .inl (_, (fd, (_, (_, (_, r))))) => (fd, r) = (lookL K t []).foldl (vis N size) (false, [])
  | .inr (_, (fd, _)) => (fd, []) = (lookL K t []).foldl (vis N size) (false, []) := by
 rw [F7, F7_t, T.run_test]
 by_cases hl : K = 0
 ·subst hl
  have e : lookL 0 t [] = [[]] := rfl
  rw [e] at hcut ⊢
  rw [if_pos (by rfl), T.run_sub, F20_eq size (hcut [] (by simp)), Option.bind_some, T.run_test]
  have ev : ([[]] : List (List Dg)).foldl (vis N size) (false, []) = if ((szL N []).all fun x => x == size) = true then (true, []) else (false, []) := by
   show vis N size (false, []) [] = _
   unfold vis
   simp
  rw [ev]
  cases (szL N []).all fun x => x == size with
  | true => exact ⟨_, rfl, rfl⟩
  | false => exact ⟨_, rfl, rfl⟩
 ·have e : lookL K t [] = goL K t [] := by unfold lookL; rw [if_neg (by simp; omega)]
  rw [e] at hcut ⊢
  have h3 := F7_loop N size K t [] ⟨by simp; omega, by omega⟩ ht (by simp) t.length 0 false [] (by omega) (by rw [List.drop_zero]; exact hcut) (fun j fd r h1 h2 h3 => by
   have := cuts_fe2 N size K (by omega) t ht recLim (j + 1) ([] ++ [gD t j]) fd r (by omega) (by unfold recLim; omega) (by simp; omega) (by simp; omega) h3
   rwa [List.length_append, List.length_singleton] at this)
  rw [List.drop_zero, List.length_nil, Nat.sub_zero] at h3
  have h3' : F7_L3 ((t, ([], ((K : Int), (((), ((), ((), ()))), (0 : Int))))), (false, ((N : Int), (size, ((), ([] : List Dg)))))) = _ := h3
  rw [if_neg (by simp; omega), T.run_test, if_pos (by simp), T.run_sub, h3', Option.bind_some, T.run_test, if_pos (by simp), T.run_ret]
  exact ⟨_, rfl, rfl⟩
def F31_sh : FSh := ⟨[(.one (.si .i64)), (.one (.si .i64))], []⟩
def F31_w_fo : List FO := [⟨[(.one (.rw 0 0)), (.one .sb)], [(.row 0 (.pair (.int .i64) (.int .i64)))]⟩, ⟨[(.one (.nl true true)), (.one .sb)], []⟩]
noncomputable def F31_t : (Int × Int) → T (((Unit × Bool) × List ((Int × Int))) ⊕ (Unit × Bool)) := fun (n, size) =>
 (.sub (F39 n) fun z0 =>
 (.test (! z0)
 (.test true
 (.ret (Sum.inl (((), false), ([] : List (Int × Int)))))
 .fail)
 (.test (decide (size < 3))
 (.test true
 (.ret (Sum.inl (((), false), ([] : List (Int × Int)))))
 .fail)
 (.test (decide ((w64 (size - 2)) ≠ 0))
 (.test ((Int.tmod (w64 (n - 2)) (w64 (size - 2))) != 0)
 (.test true
 (.ret (Sum.inl (((), false), ([] : List (Int × Int)))))
 .fail)
 (.sub (F34 n) fun z1 =>
 (.test (decide ((w64 (size - 2)) ≠ 0))
 (.test (decide ((0 + z1.2.length) ≤ z1.2.length))
 (.sub (F7 (((win z1.2 0 z1.2.length), (([] : List (Int × Int)), ((0 : Int), ((w64 ((w64 (Int.tdiv (w64 (n - 2)) (w64 (size - 2)))) - 1)), ((), ((), ((), ()))))))), (false, (n, (size, ()))))) fun z2 =>
 (.test (Sum.isLeft z2)
 (.sub (Sum.getLeft? z2) fun z3 =>
 (.test (decide ((0 = 0) ∧ (z3.2.2.2.2.2.length = z3.2.2.2.2.2.length)))
 (.ret (Sum.inl (((), z3.2.1), z3.2.2.2.2.2)))
 .fail))
 (.sub (Sum.getRight? z2) fun z4 =>
 (.ret (Sum.inr ((), z4.2.1))))))
 .fail)
 .fail)))
 .fail))))
noncomputable def F31_w (v) := (F31_t v).run
noncomputable def F31_E : TEnv := (((E0.add1 n_F39 F39_sh F39_fo F39).add1 n_F34 F34_sh F34_fo F34).add1 n_F116 F7_sh F7_fo F7)
theorem F31_Eok : (F31_E).OK := (((E0ok.add1 F39_ok).add1 F34_ok).add1 F7_ok)
noncomputable def F31_told : Nat → Option SealT := fun id => none
theorem F31_w_ok : FOK Tryz.prog n_F31 F31_sh F31_w_fo F31_w :=
 fn_ok (E := F31_E) (F31_Eok) (told := F31_told) (fl := []) (c := bodyOf fn_F31) (s := F31_sh) (l := F31_w_fo) (tree := F31_t) fnat_F31 (by kernel_rfl) (by kernel_rfl) (by kernel_rfl) (loopsOK_of (ls := []) (by kernel_rfl) trivial) (fun v => by kernel_rfl)
def F31_fo : List FO := [⟨[(.one (.rw 0 0)), (.one .sb)], [(.row 0 (.pair (.int .i64) (.int .i64)))]⟩]
def F31_m : (((Unit × Bool) × List ((Int × Int))) ⊕ (Unit × Bool)) → ((Unit × Bool) × List ((Int × Int))) := fun o => match o with | (.inl x) => x | (.inr a) => (a, [])
noncomputable def F31 (v : (Int × Int)) : Option ((Unit × Bool) × List ((Int × Int))) := (F31_w v).map F31_m
theorem F31_ok : FOK Tryz.prog n_F31 F31_sh F31_fo F31 :=
 FOK.own (l' := F31_fo) F31_w_ok F31_m [(.pair (.int .i64) (.int .i64))] (by decide) (fun o => match o with | (.inl x) => .inl (by kernel_rfl) | (.inr a) => .inr (by kernel_rfl))
theorem vis_find (N : Nat) (size : Int) : ∀ (L : List (List Dg)), L.foldl (vis N size) (false, []) = match L.find? (fun ds => (szL N ds).all fun x => x == size) with | some ds => (true, ds) | none => (false, [])
 | [] => rfl
 | a :: t => by
  have stay : ∀ (L : List (List Dg)) (r : List Dg), L.foldl (vis N size) (true, r) = (true, r) := by
   intro L
   induction L with
   | nil => intro r; rfl
   | cons a t ih => intro r; rw [List.foldl_cons]; exact ih r
  rw [List.foldl_cons, List.find?_cons]
  unfold vis
  cases h : (szL N a).all fun x => x == size with
  | true => simp only [Bool.not_false, Bool.and_self, if_true]; exact stay t a
  | false => simp only [Bool.and_false, Bool.false_eq_true, if_false]; exact vis_find N size t
def feK (n size : Int) : Nat := ((n - 2) / (size - 2) - 1).toNat
def feC (n size : Int) : Bool := inB 3 8 n && (decide (3 ≤ size) && decide ((n - 2) % (size - 2) = 0))
def feR (n size : Int) : Option (List Dg) := if feC n size = true then (cutsK n.toNat (feK n size)).find? (fun ds => (szL n.toNat ds).all fun x => x == size) else none
theorem fe_facts {n size : Int} (h : feC n size = true) : ∃ N : Nat, n = (N : Int) ∧ 3 ≤ N ∧ N ≤ 8 ∧ 3 ≤ size ∧ size ≤ n ∧ feK n size + 3 ≤ N ∧ feK n size ≤ 5 ∧ w64 (size - 2) = size - 2 ∧ w64 (n - 2) = n - 2 ∧ Int.tmod (n - 2) (size - 2) = 0 ∧ w64 (w64 (Int.tdiv (n - 2) (size - 2)) - 1) = (feK n size : Int) := by
 unfold feC at h
 rw [Bool.and_eq_true, Bool.and_eq_true, inB_iff, decide_eq_true_eq, decide_eq_true_eq] at h
 obtain ⟨h1, h2, h3⟩ := h
 have hle : size ≤ n := by
  rcases Int.lt_or_le n size with c | c
  ·rw [Int.emod_eq_of_lt (by omega) (by omega)] at h3; omega
  ·exact c
 have hd : Int.tdiv (n - 2) (size - 2) = (n - 2) / (size - 2) := Int.tdiv_eq_ediv_of_nonneg (by omega)
 have hm : Int.tmod (n - 2) (size - 2) = (n - 2) % (size - 2) := Int.tmod_eq_emod_of_nonneg (by omega)
 have hdm := Int.mul_ediv_add_emod (n - 2) (size - 2)
 have hq1 : 1 ≤ (n - 2) / (size - 2) := by
  rcases Int.lt_or_le ((n - 2) / (size - 2)) 1 with c | c
  ·have := Int.ediv_nonneg (show 0 ≤ n - 2 by omega) (show 0 ≤ size - 2 by omega)
   have e : (n - 2) / (size - 2) = 0 := by omega
   rw [e, h3] at hdm
   omega
  ·exact c
 have hq2 : (n - 2) / (size - 2) ≤ n - 2 := Int.ediv_le_self _ (by omega)
 refine ⟨n.toNat, by omega, by omega, by omega, h2, hle, by unfold feK; omega, by unfold feK; omega, w64_id (by omega) (by omega), w64_id (by omega) (by omega), by rw [hm, h3], ?_⟩
 rw [hd, w64_id (z := (n - 2) / (size - 2)) (by omega) (by omega), w64_id (by omega) (by omega)]
 unfold feK
 omega
theorem cutsK_cut {N K : Nat} (h3 : 3 ≤ N) (h8 : N ≤ 8) (hK : K + 3 ≤ N) : ∀ ds ∈ lookL K (dgL N) [], isCut N ds = true := fun ds hds => by
 have := List.all_eq_true.1 (cutsK_ok N h8 K (by omega) h3 hK).1 ds hds
 rw [Bool.and_eq_true] at this
 exact this.1
theorem F31_eq (n size : Int) (hs : size ≤ 9223372036854775807) : F31 (n, size) = some (match feR n size with | some ds => (((), true), ds) | none => (((), false), [])) := by
 rw [F31, F31_w, F31_t, T.run_sub, F39, F39_t, T.run_sub, F77_eq, Option.bind_some, T.run_ret, Option.bind_some, T.run_test]
 cases hn : inB 3 8 n with
 | false =>
  have : feR n size = none := by unfold feR feC; rw [hn]; rfl
  rw [this, if_pos (by rfl), T.run_test, if_pos (by rfl), T.run_ret]
  rfl
 | true =>
  have hn' := inB_iff.1 hn
  rw [if_neg (by simp), T.run_test]
  by_cases h3 : size < 3
  ·have : feR n size = none := by unfold feR feC; rw [decide_eq_false (by omega : ¬ 3 ≤ size), Bool.false_and, Bool.and_false]; rfl
   rw [this, if_pos (decide_eq_true h3), T.run_test, if_pos (by rfl), T.run_ret]
   rfl
  ·have w1 : w64 (size - 2) = size - 2 := w64_id (by omega) (by omega)
   have w2 : w64 (n - 2) = n - 2 := w64_id (by omega) (by omega)
   rw [if_neg (by rw [decide_eq_true_eq]; exact h3), w1, w2, T.run_test, if_pos (decide_eq_true (by omega)), T.run_test]
   by_cases hm : (n - 2) % (size - 2) = 0
   ·have hC : feC n size = true := by unfold feC; rw [hn, decide_eq_true (by omega : 3 ≤ size), decide_eq_true hm]; rfl
    obtain ⟨N, rfl, f3, f8, f4, f5, f6, f7, f9, f10, f11, f12⟩ := fe_facts hC
    obtain ⟨z, hz, hp⟩ := cuts_fe1 N size (feK N size) (by omega) (dgL N) (dgL_len N (by omega)) (cutsK_cut f3 f8 f6)
    rw [f11, if_neg (by simp), T.run_sub, F34_eq N (by omega), Option.bind_some, T.run_test, if_pos (decide_eq_true (by omega)), T.run_test, if_pos (by simp), T.run_sub]
    dsimp only
    rw [win_all, f12, hz, Option.bind_some, T.run_test]
    have hR : feR (N : Int) size = (lookL (feK N size) (dgL N) []).find? (fun ds => (szL N ds).all fun x => x == size) := by
     unfold feR; rw [if_pos hC, Int.toNat_natCast]; rfl
    rw [hR]
    rw [vis_find] at hp
    cases hfi : (lookL (feK N size) (dgL N) []).find? (fun ds => (szL N ds).all fun x => x == size) with
    | none =>
     rw [hfi] at hp
     rcases z with ⟨u, fd, a1, a2, u2, r⟩ | ⟨u, fd, a1⟩
     ·obtain ⟨rfl, rfl⟩ := Prod.mk.inj hp
      rfl
     ·obtain ⟨rfl, _⟩ := Prod.mk.inj hp
      rfl
    | some ds =>
     rw [hfi] at hp
     rcases z with ⟨u, fd, a1, a2, u2, r⟩ | ⟨u, fd, a1⟩
     ·obtain ⟨rfl, rfl⟩ := Prod.mk.inj hp
      rw [if_pos (by rfl), T.run_sub]
      simp only [Sum.getLeft?, Option.bind_some]
      rw [T.run_test, if_pos (by simp), T.run_ret]
      rfl
     ·obtain ⟨rfl, rfl⟩ := Prod.mk.inj hp
      rfl
   ·have : feR n size = none := by unfold feR feC; rw [decide_eq_false hm, Bool.and_false, Bool.and_false]; rfl
    have hm' : Int.tmod (n - 2) (size - 2) ≠ 0 := by rw [Int.tmod_eq_emod_of_nonneg (by omega)]; exact hm
    rw [this, if_pos (by simp [hm']), T.run_test, if_pos (by rfl), T.run_ret]
    rfl
theorem feR_short {n size : Int} {ds : List Dg} (h : feR n size = some ds) : ds.length ≤ 1000 := by
 unfold feR at h
 split at h
 ·rename_i hC
  obtain ⟨N, rfl, f3, f8, f4, f5, f6, _⟩ := fe_facts hC
  rw [Int.toNat_natCast] at h
  exact cut_short (cutsK_cut f3 f8 f6 ds (List.mem_of_find?_eq_some h))
 ·cases h
def F75_sh : FSh := ⟨[(.one (.si .i64)), (.one (.sl (.pair (.int .i64) (.int .i64)) false false)), (.one (.si .i64))], []⟩
def F75_L2_sh : LSh := ⟨(fun ex => match ex with | .norm => [(2, none), (11, none), (12, none), (13, none)] | .exit i => if i = 0 then [] else [] | .ret => [(6, none)]), [(2, (.one (.si .i64))), (11, (.one (.rw 0 0))), (12, (.one (.si .i64))), (13, (.one (.si .i64)))], [(.row 0 (.list true (.int .i64)))], [⟨.ret, [(6, (.one .sb))], []⟩, ⟨(.exit 0), [], []⟩], [], []⟩
noncomputable def F75_L2_step : ((Int × Unit × Int × Int) × List (List (Int))) → T (((Int × Unit × Int × Int) × List (List (Int))) ⊕ (Bool ⊕ Unit)) := fun ((size, (), t12, t13), t11) =>
 (.test (decide (t13 < t12))
 (.test (decide ((0 ≤ t13) ∧ (t13 < (t11.length : Int))))
 (.sub (t11[(0 + (Int.toNat t13))]?) fun z0 =>
 (.test ((z0.length : Int) != size)
 (.ret (Sum.inr (Sum.inl false)))
 (.test (decide ((0 = 0) ∧ (t11.length = t11.length)))
 (.ret (Sum.inl ((size, ((), (t12, (w64 (t13 + 1))))), t11)))
 .fail)))
 .fail)
 (.ret (Sum.inr (Sum.inr ()))))
noncomputable def F75_L2 (v) := loopO (fun v => (F75_L2_step v).run) v
def F75_fo : List FO := [⟨[(.one .sb)], []⟩]
noncomputable def F75_t : (Int × List ((Int × Int)) × Int) → T Bool := fun (n, ds, size) =>
 (.sub (F63 (n, ds)) fun z0 =>
 (.test (decide ((0 = 0) ∧ (z0.2.length = z0.2.length)))
 (.sub (F75_L2 ((size, ((), ((z0.2.length : Int), (0 : Int)))), z0.2)) fun z1 =>
 (.test (Sum.isLeft z1)
 (.sub (Sum.getLeft? z1) fun z2 =>
 (.ret z2))
 (.sub (Sum.getRight? z1) fun z3 =>
 (.ret true))))
 .fail))
noncomputable def F75 (v) := (F75_t v).run
noncomputable def F75_E : TEnv := (E0.add1 n_F63 F63_sh F63_fo F63)
theorem F75_Eok : (F75_E).OK := (E0ok.add1 F63_ok)
noncomputable def F75_told : Nat → Option SealT := fun id => if id = 2 then some (LSh.told F75_L2_sh 0 (F75_L2_step)) else none
theorem F75_L2_ok : ToldOK Tryz.prog 0 (loopAt (bodyOf fn_F75) [0]) (LSh.told F75_L2_sh 0 (F75_L2_step)) :=
 loop_ok (E := F75_E) (F75_Eok) (told := F75_told) (l := F75_L2_sh) (step := F75_L2_step) (loopsOK_of (ls := []) (by kernel_rfl) trivial) (by kernel_rfl) (fun v => by kernel_rfl)
theorem F75_ok : FOK Tryz.prog n_F75 F75_sh F75_fo F75 :=
 fn_ok (E := F75_E) (F75_Eok) (told := F75_told) (fl := []) (c := bodyOf fn_F75) (s := F75_sh) (l := F75_fo) (tree := F75_t) fnat_F75 (by kernel_rfl) (by kernel_rfl) (by kernel_rfl) (loopsOK_of (ls := [loopAt (bodyOf fn_F75) [0]]) (by kernel_rfl) ⟨.inr ⟨_, by kernel_rfl, F75_L2_ok⟩, trivial⟩) (fun v => by kernel_rfl)
theorem F75_L2_eq (t11 : List (List Int)) (size : Int) (hl : t11.length ≤ 100) : F75_L2 ((size, ((), ((t11.length : Int), (0 : Int)))), t11) = some (if t11.any fun p => ((p.length : Int) != size) then .inl false else .inr ()) := by
 have h := loop_any (step := fun v => (F75_L2_step v).run) (xs := t11) (fun p => ((p.length : Int) != size)) (fun k => ((size, ((), ((t11.length : Int), (k : Int)))), t11)) (.inl false) (.inr ())
  (fun k x hx => by
   have hlt := getElem?_lt hx
   have w1 : w64 ((k : Int) + 1) = ((k + 1 : Nat) : Int) := by rw [w64_id (by omega) (by omega)]; omega
   rw [F75_L2_step, T.run_test, if_pos (decide_eq_true (by omega)), T.run_test, if_pos (decide_eq_true (by omega)), T.run_sub, Nat.zero_add, Int.toNat_natCast, hx, Option.bind_some, T.run_test, ← w1]
   cases hc : ((x.length : Int) != size) with
   | true => rfl
   | false => rw [if_neg (by simp), if_neg (by simp), T.run_test, if_pos (by simp), T.run_ret])
  (by rw [F75_L2_step, T.run_test, if_neg (by simp), T.run_ret])
 simp only [Int.natCast_zero] at h
 exact h
theorem F75_eq {N : Nat} {ds : List Dg} (size : Int) (h3 : 3 ≤ N) (hN : N ≤ 12) (hl : ds.length + 3 ≤ N) (hc : CutD N ds) : F75 ((N : Int), (ds, size)) = some ((szL N ds).all fun s => s == size) := by
 have e : ((sortL (specP N ds)).any fun p => ((p.length : Int) != size)) = !((szL N ds).all fun s => s == size) := by
  unfold szL
  rw [List.all_map, List.not_all_eq_any_not]
  rfl
 rw [F75, F75_t, T.run_sub, F63_eq h3 hN (by omega) hc, Option.bind_some, T.run_test, if_pos (by simp), T.run_sub, F75_L2_eq _ _ (by rw [sortP_len hc h3]; omega), e, Option.bind_some, T.run_test]
 cases (szL N ds).all fun s => s == size <;> rfl
def F32_sh : FSh := ⟨[(.one (.si .i64)), (.one (.si .i64))], []⟩
def F32_L4_sh : LSh := ⟨(fun ex => match ex with | .norm => [(0, none), (1, none), (35, none), (36, none), (37, none)] | .exit i => if i = 0 then [] else [] | .ret => [(4, none), (5, none)]), [(0, (.one (.si .i64))), (1, (.one (.si .i64))), (35, (.one (.rw 0 0))), (36, (.one (.si .i64))), (37, (.one (.si .i64)))], [(.row 0 (.list true (.pair (.int .i64) (.int .i64))))], [⟨.ret, [(4, (.one (.sl (.pair (.int .i64) (.int .i64)) false true))), (5, (.one .sb))], []⟩, ⟨(.exit 0), [], []⟩], [], []⟩
noncomputable def F32_L4_step : ((Int × Int × Unit × Int × Int) × List (List ((Int × Int)))) → T (((Int × Int × Unit × Int × Int) × List (List ((Int × Int)))) ⊕ ((List ((Int × Int)) × Bool) ⊕ Unit)) := fun ((n, size, (), t36, t37), t35) =>
 (.test (decide (t37 < t36))
 (.test (decide ((0 ≤ t37) ∧ (t37 < (t35.length : Int))))
 (.sub (t35[(0 + (Int.toNat t37))]?) fun z0 =>
 (.sub (F75 (n, (z0, size))) fun z1 =>
 (.test z1
 (.ret (Sum.inr (Sum.inl (z0, true))))
 (.test (decide ((0 = 0) ∧ (t35.length = t35.length)))
 (.ret (Sum.inl ((n, (size, ((), (t36, (w64 (t37 + 1)))))), t35)))
 .fail))))
 .fail)
 (.ret (Sum.inr (Sum.inr ()))))
noncomputable def F32_L4 (v) := loopO (fun v => (F32_L4_step v).run) v
def F32_fo : List FO := [⟨[(.one (.sl (.pair (.int .i64) (.int .i64)) false true)), (.one .sb)], []⟩]
noncomputable def F32_t : (Int × Int) → T (List ((Int × Int)) × Bool) := fun (n, size) =>
 (.sub (F112 (n, ((3 : Int), (8 : Int)))) fun z0 =>
 (.test (! z0)
 (.test true
 (.ret ((win ([] : List (Int × Int)) 0 0), false))
 .fail)
 (.test (decide (size < 3))
 (.test true
 (.ret ((win ([] : List (Int × Int)) 0 0), false))
 .fail)
 (.test (decide (size > n))
 (.test true
 (.ret ((win ([] : List (Int × Int)) 0 0), false))
 .fail)
 (.test (decide ((w64 (size - 2)) ≠ 0))
 (.test ((Int.tmod (w64 (n - 2)) (w64 (size - 2))) != 0)
 (.test true
 (.ret ((win ([] : List (Int × Int)) 0 0), false))
 .fail)
 (.test (decide ((w64 (size - 2)) ≠ 0))
 (.sub (F95 (n, (w64 ((w64 (Int.tdiv (w64 (n - 2)) (w64 (size - 2)))) - 1)))) fun z1 =>
 (.test (decide ((0 = 0) ∧ (z1.2.length = z1.2.length)))
 (.sub (F32_L4 ((n, (size, ((), ((z1.2.length : Int), (0 : Int))))), z1.2)) fun z2 =>
 (.test (Sum.isLeft z2)
 (.sub (Sum.getLeft? z2) fun z3 =>
 (.ret (z3.1, z3.2)))
 (.sub (Sum.getRight? z2) fun z4 =>
 (.test true
 (.ret ((win ([] : List (Int × Int)) 0 0), false))
 .fail))))
 .fail))
 .fail))
 .fail)))))
noncomputable def F32 (v) := (F32_t v).run
noncomputable def F32_E : TEnv := (((E0.add1 n_F112 F112_sh F112_fo F112).add1 n_F95 F95_sh F95_fo F95).add1 n_F75 F75_sh F75_fo F75)
theorem F32_Eok : (F32_E).OK := (((E0ok.add1 F112_ok).add1 F95_ok).add1 F75_ok)
noncomputable def F32_told : Nat → Option SealT := fun id => if id = 4 then some (LSh.told F32_L4_sh 0 (F32_L4_step)) else none
theorem F32_L4_ok : ToldOK Tryz.prog 0 (loopAt (bodyOf fn_F32) [0]) (LSh.told F32_L4_sh 0 (F32_L4_step)) :=
 loop_ok (E := F32_E) (F32_Eok) (told := F32_told) (l := F32_L4_sh) (step := F32_L4_step) (loopsOK_of (ls := []) (by kernel_rfl) trivial) (by kernel_rfl) (fun v => by kernel_rfl)
theorem F32_ok : FOK Tryz.prog n_F32 F32_sh F32_fo F32 :=
 fn_ok (E := F32_E) (F32_Eok) (told := F32_told) (fl := [some (.pair (.int .i64) (.int .i64)), none]) (c := bodyOf fn_F32) (s := F32_sh) (l := F32_fo) (tree := F32_t) fnat_F32 (by kernel_rfl) (by kernel_rfl) (by kernel_rfl) (loopsOK_of (ls := [loopAt (bodyOf fn_F32) [0]]) (by kernel_rfl) ⟨.inr ⟨_, by kernel_rfl, F32_L4_ok⟩, trivial⟩) (fun v => by kernel_rfl)
theorem cuEqual_ofCut {N : Nat} {ds : List Dg} (size : Int) (h : isCut N ds = true) : F75 ((N : Int), (ds, size)) = some ((szL N ds).all fun s => s == size) := by
 obtain ⟨k, e, h3, h12, hl, hc⟩ := isCut_cut h
 obtain rfl : k = N := by omega
 exact F75_eq size h3 h12 hl hc
theorem F32_loop {N : Nat} (size : Int) (L : List (List Dg)) (hl : L.length < 4611686018427387904) (hL : ∀ ds ∈ L, isCut N ds = true) :
  F32_L4 (((N : Int), (size, ((), ((L.length : Int), (0 : Int))))), L) = some (match L.find? (fun ds => (szL N ds).all fun x => x == size) with | some ds => .inl (ds, true) | none => .inr ()) := by
 have key : ∀ (m k : Nat), k + m = L.length → F32_L4 (((N : Int), (size, ((), ((L.length : Int), (k : Int))))), L) = some (match (L.drop k).find? (fun ds => (szL N ds).all fun x => x == size) with | some ds => .inl (ds, true) | none => .inr ()) := by
  intro m
  induction m with
  | zero =>
   intro k hk
   rw [List.drop_of_length_le (by omega)]
   refine loopO_done ?_
   rw [F32_L4_step, T.run_test, if_neg (by rw [decide_eq_true_eq]; omega), T.run_ret]
   rfl
  | succ m ih =>
   intro k hk
   have hlt : k < L.length := by omega
   have w1 : w64 ((k : Int) + 1) = ((k + 1 : Nat) : Int) := by rw [w64_id (by omega) (by omega)]; omega
   rw [List.drop_eq_getElem_cons hlt, List.find?_cons]
   have st : (F32_L4_step (((N : Int), (size, ((), ((L.length : Int), (k : Int))))), L)).run = some (if ((szL N L[k]).all fun x => x == size) = true then .inr (.inl (L[k], true)) else .inl (((N : Int), (size, ((), ((L.length : Int), ((k + 1 : Nat) : Int))))), L)) := by
    rw [F32_L4_step, T.run_test, if_pos (decide_eq_true (by omega)), T.run_test, if_pos (decide_eq_true (by omega)), T.run_sub, Int.toNat_natCast, Nat.zero_add, List.getElem?_eq_getElem hlt, Option.bind_some, T.run_sub, cuEqual_ofCut size (hL _ (List.getElem_mem hlt)), Option.bind_some, T.run_test]
    cases (szL N L[k]).all fun x => x == size with
    | true => rw [if_pos rfl, T.run_ret]; rfl
    | false => rw [if_neg (by simp), T.run_test, if_pos (by simp), T.run_ret, w1]; rfl
   cases h : (szL N L[k]).all fun x => x == size with
   | true => rw [h] at st; exact loopO_done st
   | false => rw [h] at st; exact (loopO_next st).trans (ih (k + 1) (by omega))
 have := key L.length 0 (by omega)
 rwa [List.drop_zero] at this
theorem F32_eq (n size : Int) (hs : size ≤ 9223372036854775807) : F32 (n, size) = some (match feR n size with | some ds => (ds, true) | none => ([], false)) := by
 rw [F32, F32_t, T.run_sub, F112_eq, Option.bind_some, T.run_test]
 cases hn : inB 3 8 n with
 | false =>
  have : feR n size = none := by unfold feR feC; rw [hn]; rfl
  rw [this, if_pos (by rfl), T.run_test, if_pos (by rfl), T.run_ret]
  rfl
 | true =>
  have hn' := inB_iff.1 hn
  rw [if_neg (by simp), T.run_test]
  by_cases h3 : size < 3
  ·have : feR n size = none := by unfold feR feC; rw [decide_eq_false (by omega : ¬ 3 ≤ size), Bool.false_and, Bool.and_false]; rfl
   rw [this, if_pos (decide_eq_true h3), T.run_test, if_pos (by rfl), T.run_ret]
   rfl
  ·rw [if_neg (by rw [decide_eq_true_eq]; exact h3), T.run_test]
   by_cases hgt : size > n
   ·have : feR n size = none := by
     unfold feR
     rw [if_neg]
     intro hC
     obtain ⟨N, rfl, f3, f8, f4, f5, _⟩ := fe_facts hC
     omega
    rw [this, if_pos (decide_eq_true hgt), T.run_test, if_pos (by rfl), T.run_ret]
    rfl
   ·have w1 : w64 (size - 2) = size - 2 := w64_id (by omega) (by omega)
    have w2 : w64 (n - 2) = n - 2 := w64_id (by omega) (by omega)
    rw [if_neg (by rw [decide_eq_true_eq]; exact hgt), w1, w2, T.run_test, if_pos (decide_eq_true (by omega)), T.run_test]
    by_cases hm : (n - 2) % (size - 2) = 0
    ·have hC : feC n size = true := by unfold feC; rw [hn, decide_eq_true (by omega : 3 ≤ size), decide_eq_true hm]; rfl
     obtain ⟨N, rfl, f3, f8, f4, f5, f6, f7, f9, f10, f11, f12⟩ := fe_facts hC
     have hlen : (lookL (feK N size) (dgL N) []).length < 4611686018427387904 := by
      have h1 : (lookL (feK N size) (dgL N) []).length ≤ 2 ^ (dgL N).length := by
       unfold lookL
       split
       ·exact Nat.one_le_two_pow
       ·exact goL_len _ _ _
      have h2 : 2 ^ (dgL N).length ≤ 2 ^ 27 := Nat.pow_le_pow_right (by omega) (dgL_len N (by omega))
      have h27 : (2 : Nat) ^ 27 = 134217728 := by decide
      omega
     rw [f11, if_neg (by simp), T.run_test, if_pos (decide_eq_true (by omega)), T.run_sub, f12, F95_eq N (feK N size) (by omega) (by omega), Option.bind_some, T.run_test, if_pos (by simp), T.run_sub, F32_loop size _ hlen (cutsK_cut f3 f8 f6), Option.bind_some, T.run_test]
     have hR : feR (N : Int) size = (lookL (feK N size) (dgL N) []).find? (fun ds => (szL N ds).all fun x => x == size) := by
      unfold feR; rw [if_pos hC, Int.toNat_natCast]; rfl
     rw [hR]
     cases (lookL (feK N size) (dgL N) []).find? (fun ds => (szL N ds).all fun x => x == size) <;> rfl
    ·have : feR n size = none := by unfold feR feC; rw [decide_eq_false hm, Bool.and_false, Bool.and_false]; rfl
     have hm' : Int.tmod (n - 2) (size - 2) ≠ 0 := by rw [Int.tmod_eq_emod_of_nonneg (by omega)]; exact hm
     rw [this, if_pos (by simp [hm']), T.run_test, if_pos (by rfl), T.run_ret]
     rfl
def F100_sh : FSh := ⟨[(.one (.sl (.int .i64) false false))], []⟩
def F100_fo : List FO := [⟨[(.one (.rw 0 0))], [(.row 0 (.int .i64))]⟩]
noncomputable def F100_t : List (Int) → T (Unit × List (Int)) := fun l =>
 (.test true
 (.test (decide ((2 * ((0 + l.length) * 9)) ≤ 140737488355328))
 (.test (decide ((0 = 0) ∧ ((0 + l.length) = (List.length ((win (List.replicate 0 (0 : Int)) 0 0) ++ l)))))
 (.ret ((), ((win (List.replicate 0 (0 : Int)) 0 0) ++ l)))
 .fail)
 .fail)
 .fail)
noncomputable def F100 (v) := (F100_t v).run
noncomputable def F100_E : TEnv := E0
theorem F100_Eok : (F100_E).OK := E0ok
noncomputable def F100_told : Nat → Option SealT := fun id => none
theorem F100_ok : FOK Tryz.prog n_F100 F100_sh F100_fo F100 :=
 fn_ok (E := F100_E) (F100_Eok) (told := F100_told) (fl := []) (c := bodyOf fn_F100) (s := F100_sh) (l := F100_fo) (tree := F100_t) fnat_F100 (by kernel_rfl) (by kernel_rfl) (by kernel_rfl) (loopsOK_of (ls := []) (by kernel_rfl) trivial) (fun v => by kernel_rfl)
theorem F100_eq (l : List Int) (hl : l.length < 1000000000000) : F100 l = some ((), l) := by
 have h : 2 * (l.length * 9) ≤ 140737488355328 := by omega
 have hw : win ([] : List Int) 0 0 = [] := rfl
 simp [F100, F100_t, T.run, hw, h]
def F12_sh : FSh := ⟨[(.one (.pf 0 0 0)), (.one (.si .i64))], [(.rcd 0 [(.sl (.int .u8) false true), (.si .i64), (.si .u64)])]⟩
def F12_L2_sh : LSh := ⟨(fun ex => match ex with | .norm => [(0, none), (1, none), (5, none)] | .exit i => if i = 0 then [(5, none)] else [] | .ret => [(4, none)]), [(0, (.one (.pf 0 0 0))), (1, (.one (.si .i64))), (5, (.one (.rw 1 0)))], [(.rcd 0 [(.sl (.int .u8) false true), (.si .i64), (.si .u64)]), (.row 0 (.int .i64))], [⟨(.exit 0), [(5, (.one (.rw 1 0)))], [(.rcd 0 [(.sl (.int .u8) false true), (.si .i64), (.si .u64)]), (.row 0 (.int .i64))]⟩], [], []⟩
noncomputable def F12_L2_step : ((Unit × Int × Unit) × ((List (Int) × Int × Int) × List (Int))) → T (((Unit × Int × Unit) × ((List (Int) × Int × Int) × List (Int))) ⊕ (Unit × ((List (Int) × Int × Int) × List (Int)))) := fun (((), n, ()), ((c_0, c_1, c_2), out)) =>
 (.test (decide ((out.length : Int) < n))
 (.sub (F43 (((), (out.length : Int)), (c_0, (c_1, c_2)))) fun z0 =>
 (.test (decide (0 ≤ (w64 (1 + z0.1))))
 (.test (decide ((0 ≤ (Int.toNat (w64 (1 + z0.1)))) ∧ ((Int.toNat (w64 (1 + z0.1))) ≤ out.length)))
 (.test (decide ((0 + ((Int.toNat (w64 (1 + z0.1))) - 0)) ≤ out.length))
 (.sub (F100 (win out 0 ((Int.toNat (w64 (1 + z0.1))) - 0))) fun z1 =>
 (.test true
 (.test (decide ((0 + z1.2.length) ≤ z1.2.length))
 (.test (decide ((2 * ((z1.2.length + 1) * 9)) ≤ 140737488355328))
 (.test (decide (0 ≤ (w64 (1 + z0.1))))
 (.test (decide (((Int.toNat (w64 (1 + z0.1))) ≤ out.length) ∧ (out.length ≤ out.length)))
 (.test (decide (((0 + (Int.toNat (w64 (1 + z0.1)))) + (out.length - (Int.toNat (w64 (1 + z0.1))))) ≤ out.length))
 (.test (decide ((0 + (z1.2.length + 1)) ≤ (List.length ((win z1.2 0 z1.2.length) ++ (win (List.set (List.replicate 1 (0 : Int)) 0 (1 : Int)) 0 1)))))
 (.test (decide ((2 * (((z1.2.length + 1) + (List.length (win out (0 + (Int.toNat (w64 (1 + z0.1)))) (out.length - (Int.toNat (w64 (1 + z0.1))))))) * 9)) ≤ 140737488355328))
 (.test (decide ((0 ≤ (w64 ((w64 (1 + z0.1)) - 1))) ∧ ((w64 ((w64 (1 + z0.1)) - 1)) < (((z1.2.length + 1) + (List.length (win out (0 + (Int.toNat (w64 (1 + z0.1)))) (out.length - (Int.toNat (w64 (1 + z0.1))))))) : Int))))
 (.sub (((win ((win z1.2 0 z1.2.length) ++ (win (List.set (List.replicate 1 (0 : Int)) 0 (1 : Int)) 0 1)) 0 (z1.2.length + 1)) ++ (win out (0 + (Int.toNat (w64 (1 + z0.1)))) (out.length - (Int.toNat (w64 (1 + z0.1))))))[(0 + (Int.toNat (w64 ((w64 (1 + z0.1)) - 1))))]?) fun z2 =>
 (.test (decide ((0 ≤ (w64 ((w64 (1 + z0.1)) - 1))) ∧ ((w64 ((w64 (1 + z0.1)) - 1)) < (((z1.2.length + 1) + (List.length (win out (0 + (Int.toNat (w64 (1 + z0.1)))) (out.length - (Int.toNat (w64 (1 + z0.1))))))) : Int))))
 (.sub (((win ((win z1.2 0 z1.2.length) ++ (win (List.set (List.replicate 1 (0 : Int)) 0 (1 : Int)) 0 1)) 0 (z1.2.length + 1)) ++ (win out (0 + (Int.toNat (w64 (1 + z0.1)))) (out.length - (Int.toNat (w64 (1 + z0.1))))))[(0 + (Int.toNat (w64 ((w64 (1 + z0.1)) - 1))))]?) fun z3 =>
 (.test (decide ((((z1.2.length + 1) + (List.length (win out (0 + (Int.toNat (w64 (1 + z0.1)))) (out.length - (Int.toNat (w64 (1 + z0.1))))))) : Int) ≠ 0))
 (.test (decide ((0 ≤ (Int.tmod (w64 ((w64 (1 + z0.1)) + 1)) (((z1.2.length + 1) + (List.length (win out (0 + (Int.toNat (w64 (1 + z0.1)))) (out.length - (Int.toNat (w64 (1 + z0.1))))))) : Int))) ∧ ((Int.tmod (w64 ((w64 (1 + z0.1)) + 1)) (((z1.2.length + 1) + (List.length (win out (0 + (Int.toNat (w64 (1 + z0.1)))) (out.length - (Int.toNat (w64 (1 + z0.1))))))) : Int)) < (((z1.2.length + 1) + (List.length (win out (0 + (Int.toNat (w64 (1 + z0.1)))) (out.length - (Int.toNat (w64 (1 + z0.1))))))) : Int))))
 (.sub ((List.set ((win ((win z1.2 0 z1.2.length) ++ (win (List.set (List.replicate 1 (0 : Int)) 0 (1 : Int)) 0 1)) 0 (z1.2.length + 1)) ++ (win out (0 + (Int.toNat (w64 (1 + z0.1)))) (out.length - (Int.toNat (w64 (1 + z0.1)))))) (0 + (Int.toNat (w64 ((w64 (1 + z0.1)) - 1)))) (w64 (z2 + 1)))[(0 + (Int.toNat (Int.tmod (w64 ((w64 (1 + z0.1)) + 1)) (((z1.2.length + 1) + (List.length (win out (0 + (Int.toNat (w64 (1 + z0.1)))) (out.length - (Int.toNat (w64 (1 + z0.1))))))) : Int))))]?) fun z4 =>
 (.test (decide ((0 ≤ (Int.tmod (w64 ((w64 (1 + z0.1)) + 1)) (((z1.2.length + 1) + (List.length (win out (0 + (Int.toNat (w64 (1 + z0.1)))) (out.length - (Int.toNat (w64 (1 + z0.1))))))) : Int))) ∧ ((Int.tmod (w64 ((w64 (1 + z0.1)) + 1)) (((z1.2.length + 1) + (List.length (win out (0 + (Int.toNat (w64 (1 + z0.1)))) (out.length - (Int.toNat (w64 (1 + z0.1))))))) : Int)) < (((z1.2.length + 1) + (List.length (win out (0 + (Int.toNat (w64 (1 + z0.1)))) (out.length - (Int.toNat (w64 (1 + z0.1))))))) : Int))))
 (.sub ((List.set ((win ((win z1.2 0 z1.2.length) ++ (win (List.set (List.replicate 1 (0 : Int)) 0 (1 : Int)) 0 1)) 0 (z1.2.length + 1)) ++ (win out (0 + (Int.toNat (w64 (1 + z0.1)))) (out.length - (Int.toNat (w64 (1 + z0.1)))))) (0 + (Int.toNat (w64 ((w64 (1 + z0.1)) - 1)))) (w64 (z2 + 1)))[(0 + (Int.toNat (Int.tmod (w64 ((w64 (1 + z0.1)) + 1)) (((z1.2.length + 1) + (List.length (win out (0 + (Int.toNat (w64 (1 + z0.1)))) (out.length - (Int.toNat (w64 (1 + z0.1))))))) : Int))))]?) fun z5 =>
 (.test (decide ((0 = 0) ∧ (((z1.2.length + 1) + (List.length (win out (0 + (Int.toNat (w64 (1 + z0.1)))) (out.length - (Int.toNat (w64 (1 + z0.1))))))) = (List.length (List.set (List.set ((win ((win z1.2 0 z1.2.length) ++ (win (List.set (List.replicate 1 (0 : Int)) 0 (1 : Int)) 0 1)) 0 (z1.2.length + 1)) ++ (win out (0 + (Int.toNat (w64 (1 + z0.1)))) (out.length - (Int.toNat (w64 (1 + z0.1)))))) (0 + (Int.toNat (w64 ((w64 (1 + z0.1)) - 1)))) (w64 (z2 + 1))) (0 + (Int.toNat (Int.tmod (w64 ((w64 (1 + z0.1)) + 1)) (((z1.2.length + 1) + (List.length (win out (0 + (Int.toNat (w64 (1 + z0.1)))) (out.length - (Int.toNat (w64 (1 + z0.1))))))) : Int)))) (w64 (z4 + 1)))))))
 (.ret (Sum.inl (((), (n, ())), ((z0.2.1, (z0.2.2.1, z0.2.2.2)), (List.set (List.set ((win ((win z1.2 0 z1.2.length) ++ (win (List.set (List.replicate 1 (0 : Int)) 0 (1 : Int)) 0 1)) 0 (z1.2.length + 1)) ++ (win out (0 + (Int.toNat (w64 (1 + z0.1)))) (out.length - (Int.toNat (w64 (1 + z0.1)))))) (0 + (Int.toNat (w64 ((w64 (1 + z0.1)) - 1)))) (w64 (z2 + 1))) (0 + (Int.toNat (Int.tmod (w64 ((w64 (1 + z0.1)) + 1)) (((z1.2.length + 1) + (List.length (win out (0 + (Int.toNat (w64 (1 + z0.1)))) (out.length - (Int.toNat (w64 (1 + z0.1))))))) : Int)))) (w64 (z4 + 1)))))))
 .fail))
 .fail))
 .fail)
 .fail))
 .fail))
 .fail)
 .fail)
 .fail)
 .fail)
 .fail)
 .fail)
 .fail)
 .fail)
 .fail))
 .fail)
 .fail)
 .fail))
 (.test (decide ((0 = 0) ∧ (out.length = out.length)))
 (.ret (Sum.inr ((), ((c_0, (c_1, c_2)), out))))
 .fail))
noncomputable def F12_L2 (v) := loopO (fun v => (F12_L2_step v).run) v
def F12_fo : List FO := [⟨[(.one (.rw 1 0))], [(.rcd 0 [(.sl (.int .u8) false true), (.si .i64), (.si .u64)]), (.row 0 (.int .i64))]⟩]
noncomputable def F12_t : ((Unit × Int) × (List (Int) × Int × Int)) → T (Unit × ((List (Int) × Int × Int) × List (Int))) := fun (((), n), (c_0, c_1, c_2)) =>
 (.test (decide ((0 = 0) ∧ (3 = (List.length (List.set (List.set (List.set (List.replicate 3 (0 : Int)) 0 (1 : Int)) 1 (1 : Int)) 2 (1 : Int))))))
 (.sub (F12_L2 (((), (n, ())), ((c_0, (c_1, c_2)), (List.set (List.set (List.set (List.replicate 3 (0 : Int)) 0 (1 : Int)) 1 (1 : Int)) 2 (1 : Int))))) fun z0 =>
 (.test (decide ((0 = 0) ∧ (z0.2.2.length = z0.2.2.length)))
 (.ret ((), ((z0.2.1.1, (z0.2.1.2.1, z0.2.1.2.2)), z0.2.2)))
 .fail))
 .fail)
noncomputable def F12 (v) := (F12_t v).run
noncomputable def F12_E : TEnv := ((E0.add1 n_F43 F43_sh F43_fo F43).add1 n_F100 F100_sh F100_fo F100)
theorem F12_Eok : (F12_E).OK := ((E0ok.add1 F43_ok).add1 F100_ok)
noncomputable def F12_told : Nat → Option SealT := fun id => if id = 2 then some (LSh.told F12_L2_sh 1 (F12_L2_step)) else none
theorem F12_L2_ok : ToldOK Tryz.prog 1 (loopAt (bodyOf fn_F12) [0]) (LSh.told F12_L2_sh 1 (F12_L2_step)) :=
 loop_ok (E := F12_E) (F12_Eok) (told := F12_told) (l := F12_L2_sh) (step := F12_L2_step) (loopsOK_of (ls := []) (by kernel_rfl) trivial) (by kernel_rfl) (fun v => by kernel_rfl)
theorem F12_ok : FOK Tryz.prog n_F12 F12_sh F12_fo F12 :=
 fn_ok (E := F12_E) (F12_Eok) (told := F12_told) (fl := []) (c := bodyOf fn_F12) (s := F12_sh) (l := F12_fo) (tree := F12_t) fnat_F12 (by kernel_rfl) (by kernel_rfl) (by kernel_rfl) (loopsOK_of (ls := [loopAt (bodyOf fn_F12) [0]]) (by kernel_rfl) ⟨.inr ⟨_, by kernel_rfl, F12_L2_ok⟩, trivial⟩) (fun v => by kernel_rfl)
def F101_sh : FSh := ⟨[(.one (.sl (.int .i64) false false)), (.one (.si .i64)), (.one (.si .i64))], []⟩
def F101_L2_sh : LSh := ⟨(fun ex => match ex with | .norm => [(1, none), (2, none), (9, none), (10, none), (11, none)] | .exit i => if i = 0 then [] else [] | .ret => [(6, none)]), [(1, (.one (.si .i64))), (2, (.one (.si .i64))), (9, (.one (.sl (.int .i64) false false))), (10, (.one (.si .i64))), (11, (.one (.si .i64)))], [], [⟨.ret, [(6, (.one .sb))], []⟩, ⟨(.exit 0), [], []⟩], [], []⟩
noncomputable def F101_L2_step : (Int × Int × List (Int) × Int × Int) → T ((Int × Int × List (Int) × Int × Int) ⊕ (Bool ⊕ Unit)) := fun (lo, hi, t9, t10, t11) =>
 (.test (decide (t11 < t10))
 (.test (decide ((0 ≤ t11) ∧ (t11 < (t9.length : Int))))
 (.sub (t9[(Int.toNat t11)]?) fun z0 =>
 (.sub (F112 (z0, (lo, hi))) fun z1 =>
 (.test (! z1)
 (.ret (Sum.inr (Sum.inl false)))
 (.ret (Sum.inl (lo, (hi, (t9, (t10, (w64 (t11 + 1)))))))))))
 .fail)
 (.ret (Sum.inr (Sum.inr ()))))
noncomputable def F101_L2 (v) := loopO (fun v => (F101_L2_step v).run) v
def F101_fo : List FO := [⟨[(.one .sb)], []⟩]
noncomputable def F101_t : (List (Int) × Int × Int) → T Bool := fun (l, lo, hi) =>
 (.sub (F101_L2 (lo, (hi, (l, ((l.length : Int), (0 : Int)))))) fun z0 =>
 (.test (Sum.isLeft z0)
 (.sub (Sum.getLeft? z0) fun z1 =>
 (.ret z1))
 (.sub (Sum.getRight? z0) fun z2 =>
 (.ret true))))
noncomputable def F101 (v) := (F101_t v).run
noncomputable def F101_E : TEnv := (E0.add1 n_F112 F112_sh F112_fo F112)
theorem F101_Eok : (F101_E).OK := (E0ok.add1 F112_ok)
noncomputable def F101_told : Nat → Option SealT := fun id => if id = 2 then some (LSh.told F101_L2_sh 0 (F101_L2_step)) else none
theorem F101_L2_ok : ToldOK Tryz.prog 0 (loopAt (bodyOf fn_F101) [0]) (LSh.told F101_L2_sh 0 (F101_L2_step)) :=
 loop_ok (E := F101_E) (F101_Eok) (told := F101_told) (l := F101_L2_sh) (step := F101_L2_step) (loopsOK_of (ls := []) (by kernel_rfl) trivial) (by kernel_rfl) (fun v => by kernel_rfl)
theorem F101_ok : FOK Tryz.prog n_F101 F101_sh F101_fo F101 :=
 fn_ok (E := F101_E) (F101_Eok) (told := F101_told) (fl := []) (c := bodyOf fn_F101) (s := F101_sh) (l := F101_fo) (tree := F101_t) fnat_F101 (by kernel_rfl) (by kernel_rfl) (by kernel_rfl) (loopsOK_of (ls := [loopAt (bodyOf fn_F101) [0]]) (by kernel_rfl) ⟨.inr ⟨_, by kernel_rfl, F101_L2_ok⟩, trivial⟩) (fun v => by kernel_rfl)
theorem F101_eq (l : List Int) (lo hi : Int) (hl : l.length < 4611686018427387904) : F101 (l, lo, hi) = some (l.all (inB lo hi)) := by
 have h := loop_any (step := fun v => (F101_L2_step v).run) (xs := l) (fun n => !inB lo hi n) (fun k => (lo, hi, l, (l.length : Int), (k : Int))) (.inl false) (.inr ())
  (fun k x hx => by
   have hk := getElem?_lt hx
   simp only [F101_L2_step, T.run, F112_eq, Option.bind_some, Int.toNat_natCast, hx]
   rw [w64_id (by omega) (by omega)]
   cases inB lo hi x <;> simp [hk])
  (by simp [F101_L2_step, T.run])
 simp only [F101, F101_t, T.run, F101_L2]
 simp only [Int.natCast_zero] at h
 rw [h, ← all_any]
 cases hb : l.any (fun n => !inB lo hi n) <;> simp
def F76_sh : FSh := ⟨[(.one (.si .i64)), (.one (.si .i64))], []⟩
def F76_fo : List FO := [⟨[(.one (.si .i64))], []⟩]
noncomputable def F76_t : (Int × Int) → T Int := fun (a, b) =>
 (.test (decide (a < b))
 (.ret a)
 (.ret b))
noncomputable def F76 (v) := (F76_t v).run
noncomputable def F76_E : TEnv := E0
theorem F76_Eok : (F76_E).OK := E0ok
noncomputable def F76_told : Nat → Option SealT := fun id => none
theorem F76_ok : FOK Tryz.prog n_F76 F76_sh F76_fo F76 :=
 fn_ok (E := F76_E) (F76_Eok) (told := F76_told) (fl := []) (c := bodyOf fn_F76) (s := F76_sh) (l := F76_fo) (tree := F76_t) fnat_F76 (by kernel_rfl) (by kernel_rfl) (by kernel_rfl) (loopsOK_of (ls := []) (by kernel_rfl) trivial) (fun v => by kernel_rfl)
def F84_sh : FSh := ⟨[(.one (.si .i64)), (.one (.si .i64))], []⟩
def F84_fo : List FO := [⟨[(.one (.si .i64))], []⟩]
noncomputable def F84_t : (Int × Int) → T Int := fun (a, b) =>
 (.test (decide (a > b))
 (.ret a)
 (.ret b))
noncomputable def F84 (v) := (F84_t v).run
noncomputable def F84_E : TEnv := E0
theorem F84_Eok : (F84_E).OK := E0ok
noncomputable def F84_told : Nat → Option SealT := fun id => none
theorem F84_ok : FOK Tryz.prog n_F84 F84_sh F84_fo F84 :=
 fn_ok (E := F84_E) (F84_Eok) (told := F84_told) (fl := []) (c := bodyOf fn_F84) (s := F84_sh) (l := F84_fo) (tree := F84_t) fnat_F84 (by kernel_rfl) (by kernel_rfl) (by kernel_rfl) (loopsOK_of (ls := []) (by kernel_rfl) trivial) (fun v => by kernel_rfl)
def F85_sh : FSh := ⟨[(.ag [(.si .i64), (.si .i64)]), (.ag [(.si .i64), (.si .i64)])], []⟩
def F85_fo : List FO := [⟨[(.one .sb)], []⟩]
noncomputable def F85_t : ((Int × Int) × (Int × Int)) → T Bool := fun ((d_0, d_1), (e_0, e_1)) =>
 (.test (decide (d_0 < e_0))
 (.ret true)
 (.test (d_0 == e_0)
 (.ret (decide (d_1 < e_1)))
 (.ret false)))
noncomputable def F85 (v) := (F85_t v).run
noncomputable def F85_E : TEnv := E0
theorem F85_Eok : (F85_E).OK := E0ok
noncomputable def F85_told : Nat → Option SealT := fun id => none
theorem F85_ok : FOK Tryz.prog n_F85 F85_sh F85_fo F85 :=
 fn_ok (E := F85_E) (F85_Eok) (told := F85_told) (fl := []) (c := bodyOf fn_F85) (s := F85_sh) (l := F85_fo) (tree := F85_t) fnat_F85 (by kernel_rfl) (by kernel_rfl) (by kernel_rfl) (loopsOK_of (ls := []) (by kernel_rfl) trivial) (fun v => by kernel_rfl)
theorem F85_eq (d e : Dg) : F85 (d, e) = some (ltD d e) := by
 obtain ⟨a, b⟩ := d
 obtain ⟨c, f⟩ := e
 simp only [F85, F85_t, T.run, ltD]
 by_cases h1 : a < c
 ·simp [h1]
 ·by_cases h2 : a = c
  ·subst h2; simp [h1]
  ·simp [h1, h2]
def F67_sh : FSh := ⟨[(.one (.sl (.pair (.int .i64) (.int .i64)) false false))], []⟩
def F67_L6_sh : LSh := ⟨(fun ex => match ex with | .norm => [(3, none), (5, none), (6, none), (8, none), (9, none), (10, none)] | .exit i => if i = 2 then [(3, none), (5, none), (6, none), (8, none), (9, none), (10, none)] else if i = 1 then [(3, none), (8, none), (9, none), (10, none)] else if i = 0 then [(3, none)] else [] | .ret => [(2, none)]), [(3, (.one (.rw 0 0))), (5, (.one (.pf 1 0 0))), (6, (.one (.si .i64))), (8, (.one (.sl (.pair (.int .i64) (.int .i64)) false false))), (9, (.one (.si .i64))), (10, (.one (.si .i64)))], [(.row 0 (.pair (.int .i64) (.int .i64))), (.rcd 0 [(.si .i64), (.si .i64)])], [⟨(.exit 2), [(3, (.one (.rw 0 0))), (5, (.one (.pf 1 0 0))), (6, (.one (.si .i64))), (8, (.one (.sl (.pair (.int .i64) (.int .i64)) false false))), (9, (.one (.si .i64))), (10, (.one (.si .i64)))], [(.row 0 (.pair (.int .i64) (.int .i64))), (.rcd 0 [(.si .i64), (.si .i64)])]⟩], [], []⟩
noncomputable def F67_L6_step : ((Unit × Unit × Int × List ((Int × Int)) × Int × Int) × (List ((Int × Int)) × (Int × Int))) → T (((Unit × Unit × Int × List ((Int × Int)) × Int × Int) × (List ((Int × Int)) × (Int × Int))) ⊕ ((Unit × Unit × Int × List ((Int × Int)) × Int × Int) × (List ((Int × Int)) × (Int × Int)))) := fun (((), (), k, t8, t9, t10), (out, (d_0, d_1))) =>
 (.test (decide (k < (out.length : Int)))
 (.test (decide ((0 ≤ k) ∧ (k < (out.length : Int))))
 (.sub (out[(0 + (Int.toNat k))]?) fun z0 =>
 (.sub (F85 ((z0.1, z0.2), (d_0, d_1))) fun z1 =>
 (.test z1
 (.test (decide ((0 = 0) ∧ (out.length = out.length)))
 (.ret (Sum.inl (((), ((), ((w64 (k + 1)), (t8, (t9, t10))))), (out, (d_0, d_1)))))
 .fail)
 (.test (decide ((0 = 0) ∧ (out.length = out.length)))
 (.ret (Sum.inr (((), ((), (k, (t8, (t9, t10))))), (out, (d_0, d_1)))))
 .fail))))
 .fail)
 (.test (decide ((0 = 0) ∧ (out.length = out.length)))
 (.ret (Sum.inr (((), ((), (k, (t8, (t9, t10))))), (out, (d_0, d_1)))))
 .fail))
noncomputable def F67_L6 (v) := loopO (fun v => (F67_L6_step v).run) v
def F67_L3_sh : LSh := ⟨(fun ex => match ex with | .norm => [(3, none), (8, none), (9, none), (10, none)] | .exit i => if i = 0 then [(3, none)] else [] | .ret => [(2, none)]), [(3, (.one (.rw 0 0))), (8, (.one (.sl (.pair (.int .i64) (.int .i64)) false false))), (9, (.one (.si .i64))), (10, (.one (.si .i64)))], [(.row 0 (.pair (.int .i64) (.int .i64)))], [⟨(.exit 0), [(3, (.one (.rw 0 0)))], [(.row 0 (.pair (.int .i64) (.int .i64)))]⟩], [], []⟩
noncomputable def F67_L3_step : ((Unit × List ((Int × Int)) × Int × Int) × List ((Int × Int))) → T (((Unit × List ((Int × Int)) × Int × Int) × List ((Int × Int))) ⊕ (Unit × List ((Int × Int)))) := fun (((), t8, t9, t10), out) =>
 (.test (decide (t10 < t9))
 (.test (decide ((0 ≤ t10) ∧ (t10 < (t8.length : Int))))
 (.sub (t8[(Int.toNat t10)]?) fun z0 =>
 (.test (decide ((0 = 0) ∧ (out.length = out.length)))
 (.sub (F67_L6 (((), ((), ((0 : Int), (t8, (t9, t10))))), (out, (z0.1, z0.2)))) fun z1 =>
 (.test (decide (0 ≤ z1.1.2.2.1))
 (.test (decide ((0 ≤ (Int.toNat z1.1.2.2.1)) ∧ ((Int.toNat z1.1.2.2.1) ≤ z1.2.1.length)))
 (.test (decide ((0 + ((Int.toNat z1.1.2.2.1) - 0)) ≤ z1.2.1.length))
 (.test true
 (.test (decide ((2 * ((0 + (List.length (win z1.2.1 0 ((Int.toNat z1.1.2.2.1) - 0)))) * 17)) ≤ 140737488355328))
 (.test (decide (1 ≤ (List.length (List.set (List.replicate 1 ((0 : Int), (0 : Int))) 0 (z1.2.2.1, z1.2.2.2)))))
 (.test (decide ((0 + (0 + (List.length (win z1.2.1 0 ((Int.toNat z1.1.2.2.1) - 0))))) ≤ (List.length ((win (List.replicate 0 ((0 : Int), (0 : Int))) 0 0) ++ (win z1.2.1 0 ((Int.toNat z1.1.2.2.1) - 0))))))
 (.test (decide ((2 * (((0 + (List.length (win z1.2.1 0 ((Int.toNat z1.1.2.2.1) - 0)))) + (List.length (win (List.set (List.replicate 1 ((0 : Int), (0 : Int))) 0 (z1.2.2.1, z1.2.2.2)) 0 1))) * 17)) ≤ 140737488355328))
 (.test (decide (0 ≤ z1.1.2.2.1))
 (.test (decide (((Int.toNat z1.1.2.2.1) ≤ z1.2.1.length) ∧ (z1.2.1.length ≤ z1.2.1.length)))
 (.test (decide (((0 + (Int.toNat z1.1.2.2.1)) + (z1.2.1.length - (Int.toNat z1.1.2.2.1))) ≤ z1.2.1.length))
 (.test (decide ((0 + ((0 + (List.length (win z1.2.1 0 ((Int.toNat z1.1.2.2.1) - 0)))) + (List.length (win (List.set (List.replicate 1 ((0 : Int), (0 : Int))) 0 (z1.2.2.1, z1.2.2.2)) 0 1)))) ≤ (List.length ((win ((win (List.replicate 0 ((0 : Int), (0 : Int))) 0 0) ++ (win z1.2.1 0 ((Int.toNat z1.1.2.2.1) - 0))) 0 (0 + (List.length (win z1.2.1 0 ((Int.toNat z1.1.2.2.1) - 0))))) ++ (win (List.set (List.replicate 1 ((0 : Int), (0 : Int))) 0 (z1.2.2.1, z1.2.2.2)) 0 1)))))
 (.test (decide ((2 * ((((0 + (List.length (win z1.2.1 0 ((Int.toNat z1.1.2.2.1) - 0)))) + (List.length (win (List.set (List.replicate 1 ((0 : Int), (0 : Int))) 0 (z1.2.2.1, z1.2.2.2)) 0 1))) + (List.length (win z1.2.1 (0 + (Int.toNat z1.1.2.2.1)) (z1.2.1.length - (Int.toNat z1.1.2.2.1))))) * 17)) ≤ 140737488355328))
 (.test (decide ((0 = 0) ∧ ((((0 + (List.length (win z1.2.1 0 ((Int.toNat z1.1.2.2.1) - 0)))) + (List.length (win (List.set (List.replicate 1 ((0 : Int), (0 : Int))) 0 (z1.2.2.1, z1.2.2.2)) 0 1))) + (List.length (win z1.2.1 (0 + (Int.toNat z1.1.2.2.1)) (z1.2.1.length - (Int.toNat z1.1.2.2.1))))) = (List.length ((win ((win ((win (List.replicate 0 ((0 : Int), (0 : Int))) 0 0) ++ (win z1.2.1 0 ((Int.toNat z1.1.2.2.1) - 0))) 0 (0 + (List.length (win z1.2.1 0 ((Int.toNat z1.1.2.2.1) - 0))))) ++ (win (List.set (List.replicate 1 ((0 : Int), (0 : Int))) 0 (z1.2.2.1, z1.2.2.2)) 0 1)) 0 ((0 + (List.length (win z1.2.1 0 ((Int.toNat z1.1.2.2.1) - 0)))) + (List.length (win (List.set (List.replicate 1 ((0 : Int), (0 : Int))) 0 (z1.2.2.1, z1.2.2.2)) 0 1)))) ++ (win z1.2.1 (0 + (Int.toNat z1.1.2.2.1)) (z1.2.1.length - (Int.toNat z1.1.2.2.1))))))))
 (.ret (Sum.inl (((), (z1.1.2.2.2.1, (z1.1.2.2.2.2.1, (w64 (z1.1.2.2.2.2.2 + 1))))), ((win ((win ((win (List.replicate 0 ((0 : Int), (0 : Int))) 0 0) ++ (win z1.2.1 0 ((Int.toNat z1.1.2.2.1) - 0))) 0 (0 + (List.length (win z1.2.1 0 ((Int.toNat z1.1.2.2.1) - 0))))) ++ (win (List.set (List.replicate 1 ((0 : Int), (0 : Int))) 0 (z1.2.2.1, z1.2.2.2)) 0 1)) 0 ((0 + (List.length (win z1.2.1 0 ((Int.toNat z1.1.2.2.1) - 0)))) + (List.length (win (List.set (List.replicate 1 ((0 : Int), (0 : Int))) 0 (z1.2.2.1, z1.2.2.2)) 0 1)))) ++ (win z1.2.1 (0 + (Int.toNat z1.1.2.2.1)) (z1.2.1.length - (Int.toNat z1.1.2.2.1)))))))
 .fail)
 .fail)
 .fail)
 .fail)
 .fail)
 .fail)
 .fail)
 .fail)
 .fail)
 .fail)
 .fail)
 .fail)
 .fail)
 .fail))
 .fail))
 .fail)
 (.test (decide ((0 = 0) ∧ (out.length = out.length)))
 (.ret (Sum.inr ((), out)))
 .fail))
noncomputable def F67_L3 (v) := loopO (fun v => (F67_L3_step v).run) v
def F67_fo : List FO := [⟨[(.one (.rw 0 0))], [(.row 0 (.pair (.int .i64) (.int .i64)))]⟩]
noncomputable def F67_t : List ((Int × Int)) → T (Unit × List ((Int × Int))) := fun ds =>
 (.test true
 (.sub (F67_L3 (((), (ds, ((ds.length : Int), (0 : Int)))), ([] : List (Int × Int)))) fun z0 =>
 (.test (decide ((0 = 0) ∧ (z0.2.length = z0.2.length)))
 (.ret ((), z0.2))
 .fail))
 .fail)
noncomputable def F67 (v) := (F67_t v).run
noncomputable def F67_E : TEnv := (E0.add1 n_F85 F85_sh F85_fo F85)
theorem F67_Eok : (F67_E).OK := (E0ok.add1 F85_ok)
noncomputable def F67_told : Nat → Option SealT := fun id => if id = 6 then some (LSh.told F67_L6_sh 0 (F67_L6_step)) else if id = 3 then some (LSh.told F67_L3_sh 0 (F67_L3_step)) else none
theorem F67_L6_ok : ToldOK Tryz.prog 0 (loopAt (bodyOf fn_F67) [0, 0]) (LSh.told F67_L6_sh 0 (F67_L6_step)) :=
 loop_ok (E := F67_E) (F67_Eok) (told := F67_told) (l := F67_L6_sh) (step := F67_L6_step) (loopsOK_of (ls := []) (by kernel_rfl) trivial) (by kernel_rfl) (fun v => by kernel_rfl)
theorem F67_L3_ok : ToldOK Tryz.prog 0 (loopAt (bodyOf fn_F67) [0]) (LSh.told F67_L3_sh 0 (F67_L3_step)) :=
 loop_ok (E := F67_E) (F67_Eok) (told := F67_told) (l := F67_L3_sh) (step := F67_L3_step) (loopsOK_of (ls := [loopAt (bodyOf fn_F67) [0, 0]]) (by kernel_rfl) ⟨.inr ⟨_, by kernel_rfl, F67_L6_ok⟩, trivial⟩) (by kernel_rfl) (fun v => by kernel_rfl)
theorem F67_ok : FOK Tryz.prog n_F67 F67_sh F67_fo F67 :=
 fn_ok (E := F67_E) (F67_Eok) (told := F67_told) (fl := []) (c := bodyOf fn_F67) (s := F67_sh) (l := F67_fo) (tree := F67_t) fnat_F67 (by kernel_rfl) (by kernel_rfl) (by kernel_rfl) (loopsOK_of (ls := [loopAt (bodyOf fn_F67) [0]]) (by kernel_rfl) ⟨.inr ⟨_, by kernel_rfl, F67_L3_ok⟩, trivial⟩) (fun v => by kernel_rfl)
theorem F67_place (d : Dg) (out : List Dg) (t8 : List Dg) (a b : Int) (hl : out.length < 1000000) :
  ∃ k : Nat, k ≤ out.length ∧ out.take k ++ d :: out.drop k = insD d out ∧ F67_L6 (((), ((), ((0 : Int), (t8, (a, b))))), (out, d)) = some (((), ((), ((k : Int), (t8, (a, b))))), (out, d)) := by
 obtain ⟨k, h1, h2, h3, h4, h5⟩ := take_while_idx d out
 refine ⟨k, h1, by unfold insD; rw [h2, h3], ?_⟩
 obtain ⟨d0, d1⟩ := d
 have key : ∀ n j, j + n = k → F67_L6 (((), ((), ((j : Int), (t8, (a, b))))), (out, (d0, d1))) = some (((), ((), ((k : Int), (t8, (a, b))))), (out, (d0, d1))) := by
  intro n
  induction n with
  | zero =>
   intro j hj
   have : j = k := by omega
   subst this
   simp only [F67_L6]
   refine loopO_done ?_
   by_cases hk : j < out.length
   ·have c0 : (j : Int) < (out.length : Int) := by omega
    have c1 : (0 : Int) ≤ (j : Int) ∧ (j : Int) < (out.length : Int) := by omega
    simp only [F67_L6_step, T.run, c0, c1, decide_true, if_true, Int.toNat_natCast, Nat.zero_add, gD_some hk, Option.bind_some, F85_eq, h5 hk, and_self]
    simp
   ·have c0 : ¬ ((j : Int) < (out.length : Int)) := by omega
    simp only [F67_L6_step, T.run, c0, decide_false]
    simp
  | succ n ih =>
   intro j hj
   have hk : j < out.length := by omega
   have ih := ih (j + 1) (by omega)
   simp only [F67_L6] at ih ⊢
   rw [← ih]
   refine loopO_next ?_
   have c0 : (j : Int) < (out.length : Int) := by omega
   have c1 : (0 : Int) ≤ (j : Int) ∧ (j : Int) < (out.length : Int) := by omega
   have w1 : w64 ((j : Int) + 1) = ((j + 1 : Nat) : Int) := by rw [w64_id (by omega) (by omega)]; omega
   simp only [F67_L6_step, T.run, c0, c1, decide_true, if_true, Int.toNat_natCast, Nat.zero_add, gD_some hk, Option.bind_some, F85_eq, h4 j (by omega), and_self, w1]
 simpa using key k 0 (by omega)
theorem insD_length (d : Dg) (l : List Dg) : (insD d l).length = l.length + 1 := by simpa using (insD_perm d l).length_eq
theorem F67_eq (l : List Dg) (hl : l.length < 100000) : F67 l = some ((), sortD l) := by
 have h := loop_fold (step := fun v => (F67_L3_step v).run) (xs := l) (fun k (s : List Dg) => s.length = k) (fun k s => (((), (l, ((l.length : Int), (k : Int)))), s)) (fun out d => insD d out) (fun s => ((), s))
  (fun k s d hk hd => by
   have hlt := getElem?_lt hd
   have c0 : (k : Int) < (l.length : Int) := by omega
   have c1 : (0 : Int) ≤ (k : Int) ∧ (k : Int) < (l.length : Int) := by omega
   have w1 : w64 ((k : Int) + 1) = ((k + 1 : Nat) : Int) := by rw [w64_id (by omega) (by omega)]; omega
   obtain ⟨m, m1, m2, m3⟩ := F67_place d s l (l.length : Int) (k : Int) (by omega)
   refine ⟨?_, by rw [insD_length, hk]⟩
   have t1 : win s 0 (m - 0) = s.take m := win_take _ _
   have t2 : win (s.take m) 0 m = s.take m := by rw [win_take, List.take_take, Nat.min_self]
   have t3 : win s m (s.length - m) = s.drop m := by unfold win; rw [List.take_of_length_le (by simp)]
   have l1 : (s.take m).length = m := by simp; omega
   have l2 : (s.drop m).length = s.length - m := by simp
   have t4 : win ([] : List Dg) 0 0 = [] := rfl
   have l3 : (s.take m ++ [d]).length = m + 1 := by simp; omega
   have t5 : win (s.take m ++ [d]) 0 (m + 1) = s.take m ++ [d] := by rw [← l3]; exact win_all _
   have e : s.take m ++ [d] ++ s.drop m = insD d s := by rw [← m2]; simp
   simp only [F67_L3_step, T.run, c0, c1, decide_true, if_true, Int.toNat_natCast, Option.bind_some, and_self, hd, m3, win_one, List.replicate_zero, t1, t4, List.nil_append, l1, Nat.zero_add, t2, t3, l2, List.length_cons, List.length_nil, t5, e]
   have n1 : (0 : Int) ≤ (m : Int) := by omega
   have n2 : m - 0 ≤ s.length := by omega
   have n3 : m ≤ s.length := m1
   have n4 : 2 * ((m + 1 + (s.length - m)) * 17) ≤ 140737488355328 := by omega
   have n5 : 2 * (m * 17) ≤ 140737488355328 := by omega
   have n6 : 2 * ((m + 1) * 17) ≤ 140737488355328 := by omega
   have n7 : m + (s.length - m) ≤ s.length := by omega
   have n8 : m + 1 + (s.length - m) = s.length + 1 := by omega
   simp [n1, n2, n3, n4, n5, n6, n7, n8, w1, insD_length, l1]
   omega)
  (fun s hs => by simp [F67_L3_step, T.run])
  [] rfl
 simp only [Int.natCast_zero] at h
 simp only [F67, F67_t, T.run, F67_L3, h.1, Option.bind_some]
 simp [sortD]
def F114_sh : FSh := ⟨[(.one (.sl (.int .i64) false false))], []⟩
def F114_L5_sh : LSh := ⟨(fun ex => match ex with | .norm => [(4, none), (5, none), (26, none), (27, none)] | .exit i => if i = 0 then [(4, none), (5, none)] else [] | .ret => [(2, none), (3, none)]), [(4, (.one (.rw 0 0))), (5, (.one (.rw 1 0))), (26, (.one (.si .i64))), (27, (.one (.si .i64)))], [(.row 0 (.int .i64)), (.row 0 (.int .i64))], [⟨(.exit 0), [(4, (.one (.rw 0 0))), (5, (.one (.rw 1 0)))], [(.row 0 (.int .i64)), (.row 0 (.int .i64))]⟩], [], []⟩
noncomputable def F114_L5_step : ((Unit × Unit × Int × Int) × (List (Int) × List (Int))) → T (((Unit × Unit × Int × Int) × (List (Int) × List (Int))) ⊕ ((Unit × Unit) × (List (Int) × List (Int)))) := fun (((), (), t26, t27), (left, corners)) =>
 (.test (decide (t27 < t26))
 (.test (decide (1 ≤ (List.length (List.set (List.replicate 1 (0 : Int)) 0 t27))))
 (.test (decide ((0 + corners.length) ≤ corners.length))
 (.test (decide ((2 * ((corners.length + (List.length (win (List.set (List.replicate 1 (0 : Int)) 0 t27) 0 1))) * 9)) ≤ 140737488355328))
 (.test (decide ((0 = 0) ∧ (left.length = left.length)))
 (.test (decide ((0 = 0) ∧ ((corners.length + (List.length (win (List.set (List.replicate 1 (0 : Int)) 0 t27) 0 1))) = (List.length ((win corners 0 corners.length) ++ (win (List.set (List.replicate 1 (0 : Int)) 0 t27) 0 1))))))
 (.ret (Sum.inl (((), ((), (t26, (w64 (t27 + 1))))), (left, ((win corners 0 corners.length) ++ (win (List.set (List.replicate 1 (0 : Int)) 0 t27) 0 1))))))
 .fail)
 .fail)
 .fail)
 .fail)
 .fail)
 (.test (decide ((0 = 0) ∧ (left.length = left.length)))
 (.test (decide ((0 = 0) ∧ (corners.length = corners.length)))
 (.ret (Sum.inr (((), ()), (left, corners))))
 .fail)
 .fail))
noncomputable def F114_L5 (v) := loopO (fun v => (F114_L5_step v).run) v
def F114_L13_sh : LSh := ⟨(fun ex => match ex with | .norm => [(4, none), (5, none), (7, none), (8, none), (38, none), (39, none), (40, none)] | .exit i => if i = 4 then [(4, none), (5, none), (7, none), (8, none)] else if i = 3 then [(4, none), (5, none), (7, none)] else if i = 2 then [(4, none), (7, none)] else [] | .ret => [(2, none), (3, none)]), [(4, (.one (.rw 0 0))), (5, (.one (.rw 1 0))), (7, (.one (.rw 2 0))), (8, (.one (.si .i64))), (38, (.one (.rw 0 0))), (39, (.one (.si .i64))), (40, (.one (.si .i64)))], [(.row 0 (.int .i64)), (.row 0 (.int .i64)), (.row 0 (.pair (.int .i64) (.int .i64)))], [⟨(.exit 4), [(4, (.one (.rw 0 0))), (5, (.one (.rw 1 0))), (7, (.one (.rw 2 0))), (8, (.one (.si .i64)))], [(.row 0 (.int .i64)), (.row 0 (.int .i64)), (.row 0 (.pair (.int .i64) (.int .i64)))]⟩], [], []⟩
noncomputable def F114_L13_step : ((Unit × Unit × Unit × Int × Unit × Int × Int) × (List (Int) × List (Int) × List ((Int × Int)))) → T (((Unit × Unit × Unit × Int × Unit × Int × Int) × (List (Int) × List (Int) × List ((Int × Int)))) ⊕ ((Unit × Unit × Unit × Int) × (List (Int) × List (Int) × List ((Int × Int))))) := fun (((), (), (), at', (), t39, t40), (left, corners, out)) =>
 (.test (decide (t40 < t39))
 (.test (decide ((0 ≤ t40) ∧ (t40 < (left.length : Int))))
 (.sub (left[(0 + (Int.toNat t40))]?) fun z0 =>
 (.test (z0 == 1)
 (.test (decide (at' < 0))
 (.test (decide ((0 = 0) ∧ (left.length = left.length)))
 (.test (decide ((0 = 0) ∧ (corners.length = corners.length)))
 (.test (decide ((0 = 0) ∧ (out.length = out.length)))
 (.test (decide ((0 = 0) ∧ (left.length = left.length)))
 (.ret (Sum.inl (((), ((), ((), (t40, ((), (t39, (w64 (t40 + 1)))))))), (left, (corners, out)))))
 .fail)
 .fail)
 .fail)
 .fail)
 (.test (decide ((0 = 0) ∧ (left.length = left.length)))
 (.test (decide ((0 = 0) ∧ (corners.length = corners.length)))
 (.test (decide ((0 = 0) ∧ (out.length = out.length)))
 (.test (decide ((0 = 0) ∧ (left.length = left.length)))
 (.ret (Sum.inl (((), ((), ((), (at', ((), (t39, (w64 (t40 + 1)))))))), (left, (corners, out)))))
 .fail)
 .fail)
 .fail)
 .fail))
 (.test (decide ((0 = 0) ∧ (left.length = left.length)))
 (.test (decide ((0 = 0) ∧ (corners.length = corners.length)))
 (.test (decide ((0 = 0) ∧ (out.length = out.length)))
 (.test (decide ((0 = 0) ∧ (left.length = left.length)))
 (.ret (Sum.inl (((), ((), ((), (at', ((), (t39, (w64 (t40 + 1)))))))), (left, (corners, out)))))
 .fail)
 .fail)
 .fail)
 .fail)))
 .fail)
 (.test (decide ((0 = 0) ∧ (left.length = left.length)))
 (.test (decide ((0 = 0) ∧ (corners.length = corners.length)))
 (.test (decide ((0 = 0) ∧ (out.length = out.length)))
 (.ret (Sum.inr (((), ((), ((), at'))), (left, (corners, out)))))
 .fail)
 .fail)
 .fail))
noncomputable def F114_L13 (v) := loopO (fun v => (F114_L13_step v).run) v
def F114_L10_sh : LSh := ⟨(fun ex => match ex with | .norm => [(4, none), (5, none), (7, none)] | .exit i => if i = 2 then [(4, none), (7, none)] else [] | .ret => [(2, none), (3, none)]), [(4, (.one (.rw 0 0))), (5, (.one (.rw 1 0))), (7, (.one (.rw 2 0)))], [(.row 0 (.int .i64)), (.row 0 (.int .i64)), (.row 0 (.pair (.int .i64) (.int .i64)))], [⟨.ret, [(2, (.one (.rw 0 0))), (3, (.one .sb))], [(.row 0 (.pair (.int .i64) (.int .i64)))]⟩, ⟨(.exit 2), [(4, (.one (.rw 0 0))), (7, (.one (.rw 1 0)))], [(.row 0 (.int .i64)), (.row 0 (.pair (.int .i64) (.int .i64)))]⟩], [], []⟩
noncomputable def F114_L10_step : ((Unit × Unit × Unit) × (List (Int) × List (Int) × List ((Int × Int)))) → T (((Unit × Unit × Unit) × (List (Int) × List (Int) × List ((Int × Int)))) ⊕ (((Unit × Bool) × List ((Int × Int))) ⊕ ((Unit × Unit) × (List (Int) × List ((Int × Int)))))) := fun (((), (), ()), (left, corners, out)) =>
 (.test (decide ((left.length : Int) > 3))
 (.test (decide ((0 = 0) ∧ (left.length = left.length)))
 (.test (decide ((0 = 0) ∧ (corners.length = corners.length)))
 (.test (decide ((0 = 0) ∧ (out.length = out.length)))
 (.test (decide ((0 = 0) ∧ (left.length = left.length)))
 (.sub (F114_L13 (((), ((), ((), ((-1), ((), ((left.length : Int), (0 : Int))))))), (left, (corners, out)))) fun z0 =>
 (.test (decide (z0.1.2.2.2 < 0))
 (.test true
 (.ret (Sum.inr (Sum.inl (((), false), ([] : List (Int × Int))))))
 .fail)
 (.test (decide ((z0.2.1.length : Int) ≠ 0))
 (.test (decide ((z0.2.1.length : Int) ≠ 0))
 (.test (decide ((0 ≤ (Int.tmod (w64 ((w64 (z0.1.2.2.2 + (z0.2.1.length : Int))) - 1)) (z0.2.1.length : Int))) ∧ ((Int.tmod (w64 ((w64 (z0.1.2.2.2 + (z0.2.1.length : Int))) - 1)) (z0.2.1.length : Int)) < (z0.2.1.length : Int))))
 (.sub (z0.2.1[(0 + (Int.toNat (Int.tmod (w64 ((w64 (z0.1.2.2.2 + (z0.2.1.length : Int))) - 1)) (z0.2.1.length : Int))))]?) fun z1 =>
 (.test (decide ((0 ≤ (Int.tmod (w64 ((w64 (z0.1.2.2.2 + (z0.2.1.length : Int))) - 1)) (z0.2.1.length : Int))) ∧ ((Int.tmod (w64 ((w64 (z0.1.2.2.2 + (z0.2.1.length : Int))) - 1)) (z0.2.1.length : Int)) < (z0.2.1.length : Int))))
 (.sub (z0.2.1[(0 + (Int.toNat (Int.tmod (w64 ((w64 (z0.1.2.2.2 + (z0.2.1.length : Int))) - 1)) (z0.2.1.length : Int))))]?) fun z2 =>
 (.test (decide ((0 ≤ (Int.tmod (w64 (z0.1.2.2.2 + 1)) (z0.2.1.length : Int))) ∧ ((Int.tmod (w64 (z0.1.2.2.2 + 1)) (z0.2.1.length : Int)) < (z0.2.1.length : Int))))
 (.sub ((List.set z0.2.1 (0 + (Int.toNat (Int.tmod (w64 ((w64 (z0.1.2.2.2 + (z0.2.1.length : Int))) - 1)) (z0.2.1.length : Int)))) (w64 (z1 - 1)))[(0 + (Int.toNat (Int.tmod (w64 (z0.1.2.2.2 + 1)) (z0.2.1.length : Int))))]?) fun z3 =>
 (.test (decide ((0 ≤ (Int.tmod (w64 (z0.1.2.2.2 + 1)) (z0.2.1.length : Int))) ∧ ((Int.tmod (w64 (z0.1.2.2.2 + 1)) (z0.2.1.length : Int)) < (z0.2.1.length : Int))))
 (.sub ((List.set z0.2.1 (0 + (Int.toNat (Int.tmod (w64 ((w64 (z0.1.2.2.2 + (z0.2.1.length : Int))) - 1)) (z0.2.1.length : Int)))) (w64 (z1 - 1)))[(0 + (Int.toNat (Int.tmod (w64 (z0.1.2.2.2 + 1)) (z0.2.1.length : Int))))]?) fun z4 =>
 (.test (decide ((0 ≤ (Int.tmod (w64 ((w64 (z0.1.2.2.2 + (z0.2.1.length : Int))) - 1)) (z0.2.1.length : Int))) ∧ ((Int.tmod (w64 ((w64 (z0.1.2.2.2 + (z0.2.1.length : Int))) - 1)) (z0.2.1.length : Int)) < (z0.2.1.length : Int))))
 (.sub ((List.set (List.set z0.2.1 (0 + (Int.toNat (Int.tmod (w64 ((w64 (z0.1.2.2.2 + (z0.2.1.length : Int))) - 1)) (z0.2.1.length : Int)))) (w64 (z1 - 1))) (0 + (Int.toNat (Int.tmod (w64 (z0.1.2.2.2 + 1)) (z0.2.1.length : Int)))) (w64 (z3 - 1)))[(0 + (Int.toNat (Int.tmod (w64 ((w64 (z0.1.2.2.2 + (z0.2.1.length : Int))) - 1)) (z0.2.1.length : Int))))]?) fun z5 =>
 (.test (decide (z5 < 1))
 (.test true
 (.ret (Sum.inr (Sum.inl (((), false), ([] : List (Int × Int))))))
 .fail)
 (.test (decide ((0 ≤ (Int.tmod (w64 (z0.1.2.2.2 + 1)) (z0.2.1.length : Int))) ∧ ((Int.tmod (w64 (z0.1.2.2.2 + 1)) (z0.2.1.length : Int)) < (z0.2.1.length : Int))))
 (.sub ((List.set (List.set z0.2.1 (0 + (Int.toNat (Int.tmod (w64 ((w64 (z0.1.2.2.2 + (z0.2.1.length : Int))) - 1)) (z0.2.1.length : Int)))) (w64 (z1 - 1))) (0 + (Int.toNat (Int.tmod (w64 (z0.1.2.2.2 + 1)) (z0.2.1.length : Int)))) (w64 (z3 - 1)))[(0 + (Int.toNat (Int.tmod (w64 (z0.1.2.2.2 + 1)) (z0.2.1.length : Int))))]?) fun z6 =>
 (.test (decide (z6 < 1))
 (.test true
 (.ret (Sum.inr (Sum.inl (((), false), ([] : List (Int × Int))))))
 .fail)
 (.test (decide ((0 ≤ (Int.tmod (w64 ((w64 (z0.1.2.2.2 + (z0.2.1.length : Int))) - 1)) (z0.2.1.length : Int))) ∧ ((Int.tmod (w64 ((w64 (z0.1.2.2.2 + (z0.2.1.length : Int))) - 1)) (z0.2.1.length : Int)) < (z0.2.2.1.length : Int))))
 (.sub (z0.2.2.1[(0 + (Int.toNat (Int.tmod (w64 ((w64 (z0.1.2.2.2 + (z0.2.1.length : Int))) - 1)) (z0.2.1.length : Int))))]?) fun z7 =>
 (.test (decide ((0 ≤ (Int.tmod (w64 (z0.1.2.2.2 + 1)) (z0.2.1.length : Int))) ∧ ((Int.tmod (w64 (z0.1.2.2.2 + 1)) (z0.2.1.length : Int)) < (z0.2.2.1.length : Int))))
 (.sub (z0.2.2.1[(0 + (Int.toNat (Int.tmod (w64 (z0.1.2.2.2 + 1)) (z0.2.1.length : Int))))]?) fun z8 =>
 (.sub (F76 (z7, z8)) fun z9 =>
 (.test (decide ((0 ≤ (Int.tmod (w64 ((w64 (z0.1.2.2.2 + (z0.2.1.length : Int))) - 1)) (z0.2.1.length : Int))) ∧ ((Int.tmod (w64 ((w64 (z0.1.2.2.2 + (z0.2.1.length : Int))) - 1)) (z0.2.1.length : Int)) < (z0.2.2.1.length : Int))))
 (.sub (z0.2.2.1[(0 + (Int.toNat (Int.tmod (w64 ((w64 (z0.1.2.2.2 + (z0.2.1.length : Int))) - 1)) (z0.2.1.length : Int))))]?) fun z10 =>
 (.test (decide ((0 ≤ (Int.tmod (w64 (z0.1.2.2.2 + 1)) (z0.2.1.length : Int))) ∧ ((Int.tmod (w64 (z0.1.2.2.2 + 1)) (z0.2.1.length : Int)) < (z0.2.2.1.length : Int))))
 (.sub (z0.2.2.1[(0 + (Int.toNat (Int.tmod (w64 (z0.1.2.2.2 + 1)) (z0.2.1.length : Int))))]?) fun z11 =>
 (.sub (F84 (z10, z11)) fun z12 =>
 (.test (decide (1 ≤ (List.length (List.set (List.replicate 1 ((0 : Int), (0 : Int))) 0 (z9, z12)))))
 (.test (decide ((0 + z0.2.2.2.length) ≤ z0.2.2.2.length))
 (.test (decide ((2 * ((z0.2.2.2.length + (List.length (win (List.set (List.replicate 1 ((0 : Int), (0 : Int))) 0 (z9, z12)) 0 1))) * 17)) ≤ 140737488355328))
 (.test (decide (0 ≤ z0.1.2.2.2))
 (.test (decide ((0 ≤ (Int.toNat z0.1.2.2.2)) ∧ ((Int.toNat z0.1.2.2.2) ≤ z0.2.1.length)))
 (.test (decide ((0 + ((Int.toNat z0.1.2.2.2) - 0)) ≤ (List.length (List.set (List.set z0.2.1 (0 + (Int.toNat (Int.tmod (w64 ((w64 (z0.1.2.2.2 + (z0.2.1.length : Int))) - 1)) (z0.2.1.length : Int)))) (w64 (z1 - 1))) (0 + (Int.toNat (Int.tmod (w64 (z0.1.2.2.2 + 1)) (z0.2.1.length : Int)))) (w64 (z3 - 1))))))
 (.sub (F100 (win (List.set (List.set z0.2.1 (0 + (Int.toNat (Int.tmod (w64 ((w64 (z0.1.2.2.2 + (z0.2.1.length : Int))) - 1)) (z0.2.1.length : Int)))) (w64 (z1 - 1))) (0 + (Int.toNat (Int.tmod (w64 (z0.1.2.2.2 + 1)) (z0.2.1.length : Int)))) (w64 (z3 - 1))) 0 ((Int.toNat z0.1.2.2.2) - 0))) fun z13 =>
 (.test (decide (0 ≤ (w64 (z0.1.2.2.2 + 1))))
 (.test (decide (((Int.toNat (w64 (z0.1.2.2.2 + 1))) ≤ z0.2.1.length) ∧ (z0.2.1.length ≤ z0.2.1.length)))
 (.test (decide (((0 + (Int.toNat (w64 (z0.1.2.2.2 + 1)))) + (z0.2.1.length - (Int.toNat (w64 (z0.1.2.2.2 + 1))))) ≤ (List.length (List.set (List.set z0.2.1 (0 + (Int.toNat (Int.tmod (w64 ((w64 (z0.1.2.2.2 + (z0.2.1.length : Int))) - 1)) (z0.2.1.length : Int)))) (w64 (z1 - 1))) (0 + (Int.toNat (Int.tmod (w64 (z0.1.2.2.2 + 1)) (z0.2.1.length : Int)))) (w64 (z3 - 1))))))
 (.test (decide ((0 + z13.2.length) ≤ z13.2.length))
 (.test (decide ((2 * ((z13.2.length + (List.length (win (List.set (List.set z0.2.1 (0 + (Int.toNat (Int.tmod (w64 ((w64 (z0.1.2.2.2 + (z0.2.1.length : Int))) - 1)) (z0.2.1.length : Int)))) (w64 (z1 - 1))) (0 + (Int.toNat (Int.tmod (w64 (z0.1.2.2.2 + 1)) (z0.2.1.length : Int)))) (w64 (z3 - 1))) (0 + (Int.toNat (w64 (z0.1.2.2.2 + 1)))) (z0.2.1.length - (Int.toNat (w64 (z0.1.2.2.2 + 1))))))) * 9)) ≤ 140737488355328))
 (.test (decide (0 ≤ z0.1.2.2.2))
 (.test (decide ((0 ≤ (Int.toNat z0.1.2.2.2)) ∧ ((Int.toNat z0.1.2.2.2) ≤ z0.2.2.1.length)))
 (.test (decide ((0 + ((Int.toNat z0.1.2.2.2) - 0)) ≤ z0.2.2.1.length))
 (.sub (F100 (win z0.2.2.1 0 ((Int.toNat z0.1.2.2.2) - 0))) fun z14 =>
 (.test (decide (0 ≤ (w64 (z0.1.2.2.2 + 1))))
 (.test (decide (((Int.toNat (w64 (z0.1.2.2.2 + 1))) ≤ z0.2.2.1.length) ∧ (z0.2.2.1.length ≤ z0.2.2.1.length)))
 (.test (decide (((0 + (Int.toNat (w64 (z0.1.2.2.2 + 1)))) + (z0.2.2.1.length - (Int.toNat (w64 (z0.1.2.2.2 + 1))))) ≤ z0.2.2.1.length))
 (.test (decide ((0 + z14.2.length) ≤ z14.2.length))
 (.test (decide ((2 * ((z14.2.length + (List.length (win z0.2.2.1 (0 + (Int.toNat (w64 (z0.1.2.2.2 + 1)))) (z0.2.2.1.length - (Int.toNat (w64 (z0.1.2.2.2 + 1))))))) * 9)) ≤ 140737488355328))
 (.test (decide ((0 = 0) ∧ ((z13.2.length + (List.length (win (List.set (List.set z0.2.1 (0 + (Int.toNat (Int.tmod (w64 ((w64 (z0.1.2.2.2 + (z0.2.1.length : Int))) - 1)) (z0.2.1.length : Int)))) (w64 (z1 - 1))) (0 + (Int.toNat (Int.tmod (w64 (z0.1.2.2.2 + 1)) (z0.2.1.length : Int)))) (w64 (z3 - 1))) (0 + (Int.toNat (w64 (z0.1.2.2.2 + 1)))) (z0.2.1.length - (Int.toNat (w64 (z0.1.2.2.2 + 1))))))) = (List.length ((win z13.2 0 z13.2.length) ++ (win (List.set (List.set z0.2.1 (0 + (Int.toNat (Int.tmod (w64 ((w64 (z0.1.2.2.2 + (z0.2.1.length : Int))) - 1)) (z0.2.1.length : Int)))) (w64 (z1 - 1))) (0 + (Int.toNat (Int.tmod (w64 (z0.1.2.2.2 + 1)) (z0.2.1.length : Int)))) (w64 (z3 - 1))) (0 + (Int.toNat (w64 (z0.1.2.2.2 + 1)))) (z0.2.1.length - (Int.toNat (w64 (z0.1.2.2.2 + 1))))))))))
 (.test (decide ((0 = 0) ∧ ((z14.2.length + (List.length (win z0.2.2.1 (0 + (Int.toNat (w64 (z0.1.2.2.2 + 1)))) (z0.2.2.1.length - (Int.toNat (w64 (z0.1.2.2.2 + 1))))))) = (List.length ((win z14.2 0 z14.2.length) ++ (win z0.2.2.1 (0 + (Int.toNat (w64 (z0.1.2.2.2 + 1)))) (z0.2.2.1.length - (Int.toNat (w64 (z0.1.2.2.2 + 1))))))))))
 (.test (decide ((0 = 0) ∧ ((z0.2.2.2.length + (List.length (win (List.set (List.replicate 1 ((0 : Int), (0 : Int))) 0 (z9, z12)) 0 1))) = (List.length ((win z0.2.2.2 0 z0.2.2.2.length) ++ (win (List.set (List.replicate 1 ((0 : Int), (0 : Int))) 0 (z9, z12)) 0 1))))))
 (.ret (Sum.inl (((), ((), ())), (((win z13.2 0 z13.2.length) ++ (win (List.set (List.set z0.2.1 (0 + (Int.toNat (Int.tmod (w64 ((w64 (z0.1.2.2.2 + (z0.2.1.length : Int))) - 1)) (z0.2.1.length : Int)))) (w64 (z1 - 1))) (0 + (Int.toNat (Int.tmod (w64 (z0.1.2.2.2 + 1)) (z0.2.1.length : Int)))) (w64 (z3 - 1))) (0 + (Int.toNat (w64 (z0.1.2.2.2 + 1)))) (z0.2.1.length - (Int.toNat (w64 (z0.1.2.2.2 + 1)))))), (((win z14.2 0 z14.2.length) ++ (win z0.2.2.1 (0 + (Int.toNat (w64 (z0.1.2.2.2 + 1)))) (z0.2.2.1.length - (Int.toNat (w64 (z0.1.2.2.2 + 1)))))), ((win z0.2.2.2 0 z0.2.2.2.length) ++ (win (List.set (List.replicate 1 ((0 : Int), (0 : Int))) 0 (z9, z12)) 0 1)))))))
 .fail)
 .fail)
 .fail)
 .fail)
 .fail)
 .fail)
 .fail)
 .fail))
 .fail)
 .fail)
 .fail)
 .fail)
 .fail)
 .fail)
 .fail)
 .fail))
 .fail)
 .fail)
 .fail)
 .fail)
 .fail)
 .fail)))
 .fail))
 .fail)))
 .fail))
 .fail)))
 .fail)))
 .fail))
 .fail))
 .fail))
 .fail))
 .fail)
 .fail)
 .fail)))
 .fail)
 .fail)
 .fail)
 .fail)
 (.test (decide ((0 = 0) ∧ (left.length = left.length)))
 (.test (decide ((0 = 0) ∧ (out.length = out.length)))
 (.ret (Sum.inr (Sum.inr (((), ()), (left, out)))))
 .fail)
 .fail))
noncomputable def F114_L10 (v) := loopO (fun v => (F114_L10_step v).run) v
def F114_fo : List FO := [⟨[(.one (.rw 0 0)), (.one .sb)], [(.row 0 (.pair (.int .i64) (.int .i64)))]⟩]
noncomputable def F114_t : List (Int) → T ((Unit × Bool) × List ((Int × Int))) := fun quiddity =>
 (.sub (F113 (quiddity.length : Int)) fun z0 =>
 (.test (! z0)
 (.test true
 (.ret (((), false), ([] : List (Int × Int))))
 .fail)
 (.sub (F101 (quiddity, ((1 : Int), (12 : Int)))) fun z1 =>
 (.test (! z1)
 (.test true
 (.ret (((), false), ([] : List (Int × Int))))
 .fail)
 (.sub (F100 quiddity) fun z2 =>
 (.test (decide ((0 = 0) ∧ (z2.2.length = z2.2.length)))
 (.test (decide ((0 = 0) ∧ (0 = (List.length (List.replicate 0 (0 : Int))))))
 (.sub (F114_L5 (((), ((), ((z2.2.length : Int), (0 : Int)))), (z2.2, (List.replicate 0 (0 : Int))))) fun z3 =>
 (.test (decide ((0 = 0) ∧ (z3.2.1.length = z3.2.1.length)))
 (.test (decide ((0 = 0) ∧ (z3.2.2.length = z3.2.2.length)))
 (.test (decide ((0 = 0) ∧ (0 = (List.length ([] : List (Int × Int))))))
 (.sub (F114_L10 (((), ((), ())), (z3.2.1, (z3.2.2, ([] : List (Int × Int)))))) fun z4 =>
 (.test (Sum.isLeft z4)
 (.sub (Sum.getLeft? z4) fun z5 =>
 (.test (decide ((0 = 0) ∧ (z5.2.length = z5.2.length)))
 (.ret (((), z5.1.2), z5.2))
 .fail))
 (.sub (Sum.getRight? z4) fun z6 =>
 (.test (decide ((0 + z6.2.2.length) ≤ z6.2.2.length))
 (.sub (F67 (win z6.2.2 0 z6.2.2.length)) fun z7 =>
 (.test (decide (((0 : Int) ≤ (0 : Int)) ∧ (0 < (z6.2.1.length : Int))))
 (.sub (z6.2.1[0]?) fun z8 =>
 (.test (z8 == 1)
 (.test (decide (((0 : Int) ≤ (1 : Int)) ∧ (1 < (z6.2.1.length : Int))))
 (.sub (z6.2.1[1]?) fun z9 =>
 (.test (z9 == 1)
 (.test (decide (((0 : Int) ≤ (2 : Int)) ∧ (2 < (z6.2.1.length : Int))))
 (.sub (z6.2.1[2]?) fun z10 =>
 (.test (decide ((0 = 0) ∧ (z7.2.length = z7.2.length)))
 (.ret (((), (z10 == 1)), z7.2))
 .fail))
 .fail)
 (.test (decide ((0 = 0) ∧ (z7.2.length = z7.2.length)))
 (.ret (((), false), z7.2))
 .fail)))
 .fail)
 (.test (decide ((0 = 0) ∧ (z7.2.length = z7.2.length)))
 (.ret (((), false), z7.2))
 .fail)))
 .fail))
 .fail))))
 .fail)
 .fail)
 .fail))
 .fail)
 .fail))))))
noncomputable def F114 (v) := (F114_t v).run
noncomputable def F114_E : TEnv := ((((((E0.add1 n_F113 F113_sh F113_fo F113).add1 n_F101 F101_sh F101_fo F101).add1 n_F100 F100_sh F100_fo F100).add1 n_F76 F76_sh F76_fo F76).add1 n_F84 F84_sh F84_fo F84).add1 n_F67 F67_sh F67_fo F67)
theorem F114_Eok : (F114_E).OK := ((((((E0ok.add1 F113_ok).add1 F101_ok).add1 F100_ok).add1 F76_ok).add1 F84_ok).add1 F67_ok)
noncomputable def F114_told : Nat → Option SealT := fun id => if id = 5 then some (LSh.told F114_L5_sh 0 (F114_L5_step)) else if id = 13 then some (LSh.told F114_L13_sh 0 (F114_L13_step)) else if id = 10 then some (LSh.told F114_L10_sh 0 (F114_L10_step)) else none
theorem F114_L5_ok : ToldOK Tryz.prog 0 (loopAt (bodyOf fn_F114) [0]) (LSh.told F114_L5_sh 0 (F114_L5_step)) :=
 loop_ok (E := F114_E) (F114_Eok) (told := F114_told) (l := F114_L5_sh) (step := F114_L5_step) (loopsOK_of (ls := []) (by kernel_rfl) trivial) (by kernel_rfl) (fun v => by kernel_rfl)
theorem F114_L13_ok : ToldOK Tryz.prog 0 (loopAt (bodyOf fn_F114) [1, 0]) (LSh.told F114_L13_sh 0 (F114_L13_step)) :=
 loop_ok (E := F114_E) (F114_Eok) (told := F114_told) (l := F114_L13_sh) (step := F114_L13_step) (loopsOK_of (ls := []) (by kernel_rfl) trivial) (by kernel_rfl) (fun v => by kernel_rfl)
theorem F114_L10_ok : ToldOK Tryz.prog 0 (loopAt (bodyOf fn_F114) [1]) (LSh.told F114_L10_sh 0 (F114_L10_step)) :=
 loop_ok (E := F114_E) (F114_Eok) (told := F114_told) (l := F114_L10_sh) (step := F114_L10_step) (loopsOK_of (ls := [loopAt (bodyOf fn_F114) [1, 0]]) (by kernel_rfl) ⟨.inr ⟨_, by kernel_rfl, F114_L13_ok⟩, trivial⟩) (by kernel_rfl) (fun v => by kernel_rfl)
theorem F114_ok : FOK Tryz.prog n_F114 F114_sh F114_fo F114 :=
 fn_ok (E := F114_E) (F114_Eok) (told := F114_told) (fl := []) (c := bodyOf fn_F114) (s := F114_sh) (l := F114_fo) (tree := F114_t) fnat_F114 (by kernel_rfl) (by kernel_rfl) (by kernel_rfl) (loopsOK_of (ls := [loopAt (bodyOf fn_F114) [0], loopAt (bodyOf fn_F114) [1]]) (by kernel_rfl) ⟨.inr ⟨_, by kernel_rfl, F114_L5_ok⟩, ⟨.inr ⟨_, by kernel_rfl, F114_L10_ok⟩, trivial⟩⟩) (fun v => by kernel_rfl)
theorem F114_names (left : List Int) (hl : left.length < 1000000) : F114_L5 (((), ((), ((left.length : Int), (0 : Int)))), (left, [])) = some (((), ()), (left, nameL left.length)) := by
 have key : ∀ m k, k + m = left.length → F114_L5 (((), ((), ((left.length : Int), (k : Int)))), (left, nameL k)) = some (((), ()), (left, nameL left.length)) := by
  intro m
  induction m with
  | zero =>
   intro k hk
   have : k = left.length := by omega
   subst this
   simp only [F114_L5]
   exact loopO_done (by simp [F114_L5_step, T.run])
  | succ m ih =>
   intro k hk
   have ih := ih (k + 1) (by omega)
   simp only [F114_L5] at ih ⊢
   rw [← ih]
   refine loopO_next ?_
   have c0 : (k : Int) < (left.length : Int) := by omega
   have w1 : w64 ((k : Int) + 1) = ((k + 1 : Nat) : Int) := by rw [w64_id (by omega) (by omega)]; omega
   have hw : win (nameL k) 0 k = nameL k := by have := win_all (nameL k); rwa [nameL_length] at this
   have c1 : 2 * ((k + 1) * 9) ≤ 140737488355328 := by omega
   have hs : nameL k ++ [(k : Int)] = nameL (k + 1) := (nameL_succ k).symm
   simp only [F114_L5_step, T.run, c0, decide_true, if_true, win_one, nameL_length, hw, w1, List.length_cons, List.length_nil, c1, hs, Nat.zero_add]
   simp [c1]
 simpa [nameL] using key left.length 0 (by omega)
theorem F114_first (left corners : List Int) (out : List Dg) (hl : left.length < 1000000) :
  F114_L13 (((), ((), ((), ((-1), ((), ((left.length : Int), (0 : Int))))))), (left, (corners, out))) = some (((), ((), ((), idxI (fun x => (1 : Int) == x) left))), (left, (corners, out))) := by
 have key : ∀ m k (at' : Int), k + m = left.length → (at' < 0 → at' = -1) → F114_L13 (((), ((), ((), (at', ((), ((left.length : Int), (k : Int))))))), (left, (corners, out))) =
   some (((), ((), ((), if at' < 0 then (match (left.drop k).findIdx? (fun x => (1 : Int) == x) with | some i => ((k + i : Nat) : Int) | none => -1) else at'))), (left, (corners, out))) := by
  intro m
  induction m with
  | zero =>
   intro k at' hk ha
   have : k = left.length := by omega
   subst this
   rw [List.drop_length]
   simp only [F114_L13]
   refine loopO_done ?_
   by_cases h : at' < 0
   ·have := ha h; subst this; simp [F114_L13_step, T.run]
   ·simp [F114_L13_step, T.run, h]
  | succ m ih =>
   intro k at' hk ha
   have hlt : k < left.length := by omega
   have g0 := List.getElem?_eq_getElem hlt
   have c0 : (k : Int) < (left.length : Int) := by omega
   have c1 : (0 : Int) ≤ (k : Int) ∧ (k : Int) < (left.length : Int) := by omega
   have w1 : w64 ((k : Int) + 1) = ((k + 1 : Nat) : Int) := by rw [w64_id (by omega) (by omega)]; omega
   rw [List.drop_eq_getElem_cons hlt, List.findIdx?_cons]
   have st : (F114_L13_step (((), ((), ((), (at', ((), ((left.length : Int), (k : Int))))))), (left, (corners, out)))).run =
     some (.inl (((), ((), ((), ((if (left[k] == 1) = true ∧ at' < 0 then (k : Int) else at'), ((), ((left.length : Int), ((k + 1 : Nat) : Int))))))), (left, (corners, out)))) := by
    simp only [F114_L13_step, T.run, c0, c1, decide_true, if_true, and_self, Int.toNat_natCast, Nat.zero_add, g0, Option.bind_some, w1]
    cases hb : left[k] == 1 <;> by_cases h : at' < 0 <;> simp [h]
   have ih' := ih (k + 1) (if (left[k] == 1) = true ∧ at' < 0 then (k : Int) else at') (by omega) (by split <;> omega)
   simp only [F114_L13] at ih' ⊢
   rw [loopO_next st, ih']
   have hsym : ((1 : Int) == left[k]) = (left[k] == 1) := by rw [beq_int, beq_int]; congr 1; exact propext eq_comm
   rw [hsym]
   cases hb : left[k] == 1 with
   | true =>
    by_cases h : at' < 0
    ·have : ¬ ((k : Int) < 0) := by omega
     simp [h, this]
    ·simp [h]
   | false =>
    by_cases h : at' < 0
    ·simp only [Bool.false_eq_true, false_and, if_false, h, if_true]
     cases (left.drop (k + 1)).findIdx? (fun x => (1 : Int) == x) with
     | none => rfl
     | some i => simp only [Option.map_some]; rw [show k + 1 + i = k + (i + 1) by omega]
    ·simp [h]
 have := key left.length 0 (-1) (by omega) (fun _ => rfl)
 rw [Int.natCast_zero, List.drop_zero] at this
 rw [this]
 simp only [idxI]
 simp
 rfl
theorem F114_cut (left names : List Int) (out : List Dg) (k i : Nat) (hk : k < 100000) (hl : left.length = k + 4) (hn : names.length = k + 4) (ho : out.length < 100000) (he : ear left = some i) :
  (F114_L10_step (((), ((), ())), (left, (names, out)))).run = some (if okC left i then .inl (((), ((), ())), (cutL left i, (names.eraseIdx i, out ++ [cutD names i]))) else .inr (.inl (((), false), []))) := by
 obtain ⟨hi, _⟩ := ear_lt he
 obtain ⟨n1, n2, n3, n4, n5, n6⟩ := nb_facts (by omega : 3 ≤ left.length) hi
 obtain ⟨t1, t2⟩ := nb_tmod (by omega : 3 ≤ left.length) (by omega) hi
 have hf := F114_first left names out (by omega)
 have hii : idxI (fun x => (1 : Int) == x) left = (i : Int) := by unfold idxI; unfold ear at he; rw [he]
 rw [hii] at hf
 have c0 : (left.length : Int) > 3 := by omega
 have c1 : ¬ ((i : Int) < 0) := by omega
 have c2 : (left.length : Int) ≠ 0 := by omega
 have c3 : (0 : Int) ≤ (nbB left.length i : Int) ∧ (nbB left.length i : Int) < (left.length : Int) := by omega
 have c4 : (0 : Int) ≤ (nbC left.length i : Int) ∧ (nbC left.length i : Int) < (left.length : Int) := by omega
 have c5 : (0 : Int) ≤ (nbB left.length i : Int) ∧ (nbB left.length i : Int) < (names.length : Int) := by omega
 have c6 : (0 : Int) ≤ (nbC left.length i : Int) ∧ (nbC left.length i : Int) < (names.length : Int) := by omega
 have g1 := set_getD n1
 have g2 : (left.set (nbB left.length i) (w64 (left.getD (nbB left.length i) 0 - 1)))[nbC left.length i]? = some ((decAt left (nbB left.length i)).getD (nbC left.length i) 0) := set_getD (by simpa using n2)
 have g2' : (decAt left (nbB left.length i)).getD (nbC left.length i) 0 = left.getD (nbC left.length i) 0 := by
  unfold decAt
  simp only [List.getD_eq_getElem?_getD]
  rw [List.getElem?_set_ne n5]
 have g3 := set_getD (l := names) (p := nbB left.length i) (by omega)
 have g4 := set_getD (l := names) (p := nbC left.length i) (by omega)
 have w1 : w64 ((i : Int) + 1) = ((i + 1 : Nat) : Int) := by rw [w64_id (by omega) (by omega)]; omega
 rw [w1] at t2
 have hD' : (min (names.getD (nbB left.length i) 0) (names.getD (nbC left.length i) 0), max (names.getD (nbB left.length i) 0) (names.getD (nbC left.length i) 0)) = cutD names i := by unfold cutD; rw [hl, hn]
 have hmin : ∀ a b, F76 (a, b) = some (min a b) := by
  intro a b
  simp only [F76, F76_t, T.run]
  by_cases h : a < b <;> simp [h] <;> omega
 have hmax : ∀ a b, F84 (a, b) = some (max a b) := by
  intro a b
  simp only [F84, F84_t, T.run]
  by_cases h : a > b <;> simp [h] <;> omega
 have c7 : 2 * ((out.length + 1) * 17) ≤ 140737488355328 := by omega
 have l1 : (decAt (decAt left (nbB left.length i)) (nbC left.length i)).length = left.length := by rw [decAt_length, decAt_length]
 have e1 : left.set (nbB left.length i) (w64 (left.getD (nbB left.length i) 0 - 1)) = decAt left (nbB left.length i) := rfl
 have e2 : (decAt left (nbB left.length i)).set (nbC left.length i) (w64 (left.getD (nbC left.length i) 0 - 1)) = decAt (decAt left (nbB left.length i)) (nbC left.length i) := by unfold decAt; rw [← decAt, g2']
 have g5 : (decAt (decAt left (nbB left.length i)) (nbC left.length i))[nbB left.length i]? = some (w64 (left.getD (nbB left.length i) 0 - 1)) := by
  conv => lhs; unfold decAt
  rw [List.getElem?_set_ne (Ne.symm n5), List.getElem?_set_self n1]
 have g6 : (decAt (decAt left (nbB left.length i)) (nbC left.length i))[nbC left.length i]? = some (w64 (left.getD (nbC left.length i) 0 - 1)) := by
  rw [← e2, List.getElem?_set_self (by rw [decAt_length]; exact n2)]
 rw [e1, g2'] at g2
 have htl : ((decAt (decAt left (nbB left.length i)) (nbC left.length i)).take i).length = i := by rw [List.length_take, l1]; omega
 have htn : (names.take i).length = i := by rw [List.length_take]; omega
 have own1 := F100_eq ((decAt (decAt left (nbB left.length i)) (nbC left.length i)).take i) (by rw [htl]; omega)
 have own2 := F100_eq (names.take i) (by rw [htn]; omega)
 have d1 : win (decAt (decAt left (nbB left.length i)) (nbC left.length i)) (i + 1) (left.length - (i + 1)) = (decAt (decAt left (nbB left.length i)) (nbC left.length i)).drop (i + 1) := by
  unfold win; rw [List.take_of_length_le (by rw [List.length_drop, l1]; omega)]
 have d2 : win names (i + 1) (names.length - (i + 1)) = names.drop (i + 1) := by
  unfold win; rw [List.take_of_length_le (by rw [List.length_drop]; omega)]
 have x1 : (decAt (decAt left (nbB left.length i)) (nbC left.length i)).take i ++ (decAt (decAt left (nbB left.length i)) (nbC left.length i)).drop (i + 1) = cutL left i := take_drop_erase _ _
 have x2 : names.take i ++ names.drop (i + 1) = names.eraseIdx i := take_drop_erase _ _
 have f1 : (0 : Int) ≤ (i : Int) := by omega
 have f2 : 0 ≤ i ∧ i ≤ left.length := by omega
 have f3 : i ≤ left.length := by omega
 have f4 : (0 : Int) ≤ ((i + 1 : Nat) : Int) := by omega
 have f5 : i + 1 ≤ left.length ∧ left.length ≤ left.length := by omega
 have f6 : i + 1 + (left.length - (i + 1)) ≤ left.length := by omega
 have f7 : 2 * ((i + (left.length - (i + 1))) * 9) ≤ 140737488355328 := by omega
 have f8 : 0 ≤ i ∧ i ≤ names.length := by omega
 have f9 : i ≤ names.length := by omega
 have f10 : i + 1 ≤ names.length ∧ names.length ≤ names.length := by omega
 have f11 : i + 1 + (names.length - (i + 1)) ≤ names.length := by omega
 have f12 : 2 * ((i + (names.length - (i + 1))) * 9) ≤ 140737488355328 := by omega
 have f13 : i + (left.length - (i + 1)) = (cutL left i).length := by rw [cutL_length hi]; omega
 have f14 : i + (names.length - (i + 1)) = (names.eraseIdx i).length := by rw [List.length_eraseIdx, if_pos (by omega)]; omega
 have x1' := x1
 have x2' := x2
 simp only [F114_L10_step, T.run, c0, decide_true, if_true, Nat.zero_add, Nat.le_refl, hf, Option.bind_some, c1, decide_false, Bool.false_eq_true, if_false, c2, ne_eq, not_false_eq_true, t1, t2, c3, c4, c5, c6, and_self, Int.toNat_natCast, g1, e1, g2, e2, g3, g4, g5, g6, hmin, hmax, hD', win_one, w1, l1, true_and, win_take, Nat.sub_zero, f1, f2, f3, f4, own1, own2, htl, htn, d1, d2]
 have tk : ∀ {X : Type} (l : List X), (l.take i).take i = l.take i := fun l => by rw [List.take_take, Nat.min_self]
 have dl1 : ((decAt (decAt left (nbB left.length i)) (nbC left.length i)).drop (i + 1)).length = left.length - (i + 1) := by rw [List.length_drop, l1]
 have dl2 : (names.drop (i + 1)).length = names.length - (i + 1) := by rw [List.length_drop]
 have t1' : List.take 1 ((List.replicate 1 ((0 : Int), (0 : Int))).set 0 (cutD names i)) = [cutD names i] := rfl
 have t2' : ((List.replicate 1 ((0 : Int), (0 : Int))).set 0 (cutD names i)).length = 1 := rfl
 have f5' : i + 1 ≤ left.length := by omega
 have f7' : 2 * ((cutL left i).length * 9) ≤ 140737488355328 := by rw [← f13]; exact f7
 have f12' : 2 * ((names.eraseIdx i).length * 9) ≤ 140737488355328 := by rw [← f14]; exact f12
 have f10' : i + 1 ≤ names.length := by omega
 simp only [tk, dl1, dl2, t1', t2', List.take_length, x1, x2, f5', f6, f7, f7', f9, f10', f11, f12, f12', f13, f14, and_true, decide_true, if_true, List.length_cons, List.length_nil, Nat.zero_add, c7, List.length_append, Nat.le_refl]
 unfold okC
 by_cases h1 : w64 (left.getD (nbB left.length i) 0 - 1) < 1
 ·have h1' : ¬ (1 ≤ w64 (left.getD (nbB left.length i) 0 - 1)) := by omega
  simp only [h1, h1', decide_true, if_true, false_and, decide_false, Bool.false_eq_true, if_false]
 ·have h1' : 1 ≤ w64 (left.getD (nbB left.length i) 0 - 1) := by omega
  by_cases h2 : w64 (left.getD (nbC left.length i) 0 - 1) < 1
  ·have h2' : ¬ (1 ≤ w64 (left.getD (nbC left.length i) 0 - 1)) := by omega
   simp only [h1, h1', h2, h2', decide_true, if_true, and_false, decide_false, Bool.false_eq_true, if_false]
  ·have h2' : 1 ≤ w64 (left.getD (nbC left.length i) 0 - 1) := by omega
   simp only [h1, h1', h2, h2', decide_true, if_true, and_self, decide_false, Bool.false_eq_true, if_false]
theorem F114_cuts : ∀ (k : Nat) (left names : List Int) (out : List Dg), k < 1000 → left.length = k + 3 → names.length = k + 3 → out.length + k < 10000 →
  F114_L10 (((), ((), ())), (left, (names, out))) = some (match triSW k left names with
   | none => .inl (((), false), [])
   | some r => .inr (((), ()), (r.1, out ++ r.2)))
 | 0, left, names, out, hk, hl, hn, ho => by
  simp only [F114_L10, triSW]
  refine loopO_done ?_
  have c0 : ¬ ((left.length : Int) > 3) := by omega
  simp [F114_L10_step, T.run, c0]
 | k + 1, left, names, out, hk, hl, hn, ho => by
  cases he : ear left with
  | none =>
   have hf := F114_first left names out (by omega)
   have hii : idxI (fun x => (1 : Int) == x) left = -1 := by unfold idxI; unfold ear at he; rw [he]
   rw [hii] at hf
   have c0 : (left.length : Int) > 3 := by omega
   simp only [F114_L10, triSW, he]
   refine loopO_done ?_
   simp only [F114_L10_step, T.run, c0, decide_true, if_true, hf, Option.bind_some, true_and]
   simp
  | some i =>
   have st := F114_cut left names out k i (by omega) (by omega) (by omega) (by omega) he
   simp only [F114_L10, triSW, he] at st ⊢
   cases hok : okC left i with
   | false =>
    rw [hok] at st
    rw [loopO_done st]
    rfl
   | true =>
    rw [hok] at st
    have hlc := cutL_length (ear_lt he).1
    have ih := F114_cuts k (cutL left i) (names.eraseIdx i) (out ++ [cutD names i]) (by omega) (by omega) (by rw [List.length_eraseIdx, if_pos (by have := (ear_lt he).1; omega)]; omega) (by simp; omega)
    simp only [F114_L10] at ih
    rw [loopO_next st, ih]
    cases triSW k (cutL left i) (names.eraseIdx i) with
    | none => rfl
    | some r => simp
theorem F114_eq (l : List Int) (hl : l.length < 4611686018427387904) : ∃ r, r.length ≤ 9 ∧ F114 l = some (match trOf l with | some ds => (((), true), ds) | none => (((), false), r)) ∧ ((trOf l).isSome → ∀ ds, trOf l = some ds → ds.length ≤ 9) := by
 have hdl : ∀ ds, trOf l = some ds → ds.length ≤ 9 := by
  intro ds h
  unfold trOf at h
  split at h
  ·rename_i hn
   rw [inB_iff] at hn
   split at h
   ·rename_i es hT
    split at h
    ·cases h
     rw [sortD_length, (tri_good _ _ _ _ (nameL_sorted _) (by omega) (by rw [nameL_length]; omega) hT).1]
     omega
    ·cases h
   ·cases h
  ·cases h
 simp only [F114, F114_t, T.run, F113, F113_t, F112_eq, Option.bind_some]
 cases hn : inB 3 12 (l.length : Int) with
 | false => exact ⟨[], by simp, by simp [trOf, hn], fun _ => hdl⟩
 | true =>
  have hn' := inB_iff.1 hn
  rw [F101_eq l 1 12 hl]
  cases ha : l.all (inB 1 12) with
  | false => exact ⟨[], by simp, by simp [trOf_bad l ha], fun _ => hdl⟩
  | true =>
   have hown := F100_eq l (by omega)
   have h5 := F114_names l (by omega)
   have h10 := F114_cuts (l.length - 3) l (nameL l.length) [] (by omega) (by omega) (by rw [nameL_length]; omega) (by simp; omega)
   have htri := triS_W (l.length - 3) l (nameL l.length)
   have hsp := trOf_spec l ha hn
   simp only [Bool.not_true, Bool.false_eq_true, if_false, Option.bind_some, hown, List.replicate_zero, List.length_nil, true_and, decide_true, if_true, h5, h10]
   cases hW : triSW (l.length - 3) l (nameL l.length) with
   | none =>
    rw [htri, hW] at hsp
    exact ⟨[], by simp, by rw [← hsp]; simp, fun _ => hdl⟩
   | some r =>
    obtain ⟨l3, ds⟩ := r
    obtain ⟨g1, g2⟩ := triSW_len _ _ _ _ (by omega) hW
    simp only at g1 g2
    rw [htri, hW] at hsp
    have hs := F67_eq ds (by omega)
    have hls := sortD_length ds
    match l3, g1 with
    | [a, b, c], _ =>
     refine ⟨sortD ds, by omega, ?_, fun _ => hdl⟩
     rw [← hsp]
     simp only [Sum.isLeft, Sum.getRight?, Option.bind_some, Bool.false_eq_true, if_false, List.nil_append, Nat.zero_add, Nat.le_refl, decide_true, if_true, win_all, hs]
     by_cases ea : a = 1 <;> by_cases eb : b = 1 <;> by_cases ec : c = 1 <;> simp [ea, eb, ec]
def F33_sh : FSh := ⟨[(.one (.pf 0 0 0)), (.one (.si .i64))], [(.rcd 0 [(.sl (.int .u8) false true), (.si .i64), (.si .u64)])]⟩
def F33_fo : List FO := [⟨[(.one (.si .i64)), (.one (.rw 1 0))], [(.rcd 0 [(.sl (.int .u8) false true), (.si .i64), (.si .u64)]), (.row 0 (.pair (.int .i64) (.int .i64)))]⟩]
noncomputable def F33_t : ((Unit × Int) × (List (Int) × Int × Int)) → T ((Int × Unit) × ((List (Int) × Int × Int) × List ((Int × Int)))) := fun (((), most), (c_0, c_1, c_2)) =>
 (.sub (F43 (((), (w64 (most - 2))), (c_0, (c_1, c_2)))) fun z0 =>
 (.sub (F12 (((), (w64 (3 + z0.1))), z0.2)) fun z1 =>
 (.test (decide ((0 + z1.2.2.length) ≤ z1.2.2.length))
 (.sub (F114 (win z1.2.2 0 z1.2.2.length)) fun z2 =>
 (.sub (F43 (((), (16 : Int)), z1.2.1)) fun z3 =>
 (.test (z3.1 == 0)
 (.test (decide ((z2.2.length : Int) > 0))
 (.sub (F43 (((), (z2.2.length : Int)), z3.2)) fun z4 =>
 (.test true
 (.sub (F37 (((), [(-1), (0 : Int), (1 : Int)]), z4.2)) fun z5 =>
 (.test (decide (5 ≤ 5))
 (.sub (F37 (((), [(1 : Int), (2 : Int), (3 : Int), (w64 (3 + z0.1)), (4611686018427387904 : Int)]), z5.2)) fun z6 =>
 (.test (decide ((0 ≤ z4.1) ∧ (z4.1 < (z2.2.length : Int))))
 (.sub (z2.2[(0 + (Int.toNat z4.1))]?) fun z7 =>
 (.test (decide ((0 = 0) ∧ (z2.2.length = (List.length (List.set z2.2 (0 + (Int.toNat z4.1)) (z5.1, z6.1))))))
 (.ret (((w64 (3 + z0.1)), ()), (z6.2, (List.set z2.2 (0 + (Int.toNat z4.1)) (z5.1, z6.1)))))
 .fail))
 .fail))
 .fail))
 .fail))
 (.test (decide ((0 = 0) ∧ (z2.2.length = z2.2.length)))
 (.ret (((w64 (3 + z0.1)), ()), (z3.2, z2.2)))
 .fail))
 (.test (z3.1 == 1)
 (.test (decide (4 ≤ 4))
 (.sub (F37 (((), [(-1), (2 : Int), (w64 ((w64 (3 + z0.1)) + 1)), (4611686018427387904 : Int)]), z3.2)) fun z8 =>
 (.test (decide ((0 = 0) ∧ (z2.2.length = z2.2.length)))
 (.ret ((z8.1, ()), (z8.2, z2.2)))
 .fail))
 .fail)
 (.test (z3.1 == 2)
 (.test true
 (.test (decide ((0 + z2.2.length) ≤ z2.2.length))
 (.test (decide ((2 * ((z2.2.length + 1) * 17)) ≤ 140737488355328))
 (.test (decide ((0 = 0) ∧ ((z2.2.length + 1) = (List.length ((win z2.2 0 z2.2.length) ++ [((0 : Int), (2 : Int))])))))
 (.ret (((w64 (3 + z0.1)), ()), (z3.2, ((win z2.2 0 z2.2.length) ++ [((0 : Int), (2 : Int))]))))
 .fail)
 .fail)
 .fail)
 .fail)
 (.test (decide ((0 = 0) ∧ (z2.2.length = z2.2.length)))
 (.ret (((w64 (3 + z0.1)), ()), (z3.2, z2.2)))
 .fail))))))
 .fail)))
noncomputable def F33 (v) := (F33_t v).run
noncomputable def F33_E : TEnv := ((((E0.add1 n_F43 F43_sh F43_fo F43).add1 n_F12 F12_sh F12_fo F12).add1 n_F114 F114_sh F114_fo F114).add1 n_F37 F37_sh F37_fo F37)
theorem F33_Eok : (F33_E).OK := ((((E0ok.add1 F43_ok).add1 F12_ok).add1 F114_ok).add1 F37_ok)
noncomputable def F33_told : Nat → Option SealT := fun id => none
theorem F33_ok : FOK Tryz.prog n_F33 F33_sh F33_fo F33 :=
 fn_ok (E := F33_E) (F33_Eok) (told := F33_told) (fl := []) (c := bodyOf fn_F33) (s := F33_sh) (l := F33_fo) (tree := F33_t) fnat_F33 (by kernel_rfl) (by kernel_rfl) (by kernel_rfl) (loopsOK_of (ls := []) (by kernel_rfl) trivial) (fun v => by kernel_rfl)
def F86_sh : FSh := ⟨[(.one (.si .i64)), (.one (.sl (.pair (.int .i64) (.int .i64)) false false))], []⟩
def F86_L9_sh : LSh := ⟨(fun ex => match ex with | .norm => [(0, none), (1, none), (6, none), (19, none), (20, none), (21, none), (46, none), (47, none), (48, none)] | .exit i => if i = 2 then [(0, none), (1, none), (19, none), (20, none), (21, none)] else if i = 1 then [(0, none), (1, none), (19, none), (20, none), (21, none)] else if i = 0 then [] else [] | .ret => [(4, none)]), [(0, (.one (.si .i64))), (1, (.one (.sl (.pair (.int .i64) (.int .i64)) false false))), (6, (.one (.pf 0 0 0))), (19, (.one (.sl (.pair (.int .i64) (.int .i64)) false false))), (20, (.one (.si .i64))), (21, (.one (.si .i64))), (46, (.one (.sl (.pair (.int .i64) (.int .i64)) false false))), (47, (.one (.si .i64))), (48, (.one (.si .i64)))], [(.rcd 0 [(.si .i64), (.si .i64)])], [⟨.ret, [(4, (.one .sb))], []⟩, ⟨(.exit 2), [(0, (.one (.si .i64))), (1, (.one (.sl (.pair (.int .i64) (.int .i64)) false false))), (19, (.one (.sl (.pair (.int .i64) (.int .i64)) false false))), (20, (.one (.si .i64))), (21, (.one (.si .i64)))], []⟩], [], []⟩
noncomputable def F86_L9_step : ((Int × List ((Int × Int)) × Unit × List ((Int × Int)) × Int × Int × List ((Int × Int)) × Int × Int) × (Int × Int)) → T (((Int × List ((Int × Int)) × Unit × List ((Int × Int)) × Int × Int × List ((Int × Int)) × Int × Int) × (Int × Int)) ⊕ (Bool ⊕ (Int × List ((Int × Int)) × List ((Int × Int)) × Int × Int))) := fun ((n, ds, (), t19, t20, t21, t46, t47, t48), (d_0, d_1)) =>
 (.test (decide (t48 < t47))
 (.test (decide ((0 ≤ t48) ∧ (t48 < (t46.length : Int))))
 (.sub (t46[(Int.toNat t48)]?) fun z0 =>
 (.sub (F71 ((d_0, d_1), z0)) fun z1 =>
 (.test z1
 (.ret (Sum.inr (Sum.inl false)))
 (.ret (Sum.inl ((n, (ds, ((), (t19, (t20, (t21, (t46, (t47, (w64 (t48 + 1)))))))))), (d_0, d_1)))))))
 .fail)
 (.ret (Sum.inr (Sum.inr (n, (ds, (t19, (t20, t21))))))))
noncomputable def F86_L9 (v) := loopO (fun v => (F86_L9_step v).run) v
def F86_L4_sh : LSh := ⟨(fun ex => match ex with | .norm => [(0, none), (1, none), (19, none), (20, none), (21, none)] | .exit i => if i = 0 then [] else [] | .ret => [(4, none)]), [(0, (.one (.si .i64))), (1, (.one (.sl (.pair (.int .i64) (.int .i64)) false false))), (19, (.one (.sl (.pair (.int .i64) (.int .i64)) false false))), (20, (.one (.si .i64))), (21, (.one (.si .i64)))], [], [⟨.ret, [(4, (.one .sb))], []⟩, ⟨(.exit 0), [], []⟩], [], []⟩
noncomputable def F86_L4_step : (Int × List ((Int × Int)) × List ((Int × Int)) × Int × Int) → T ((Int × List ((Int × Int)) × List ((Int × Int)) × Int × Int) ⊕ (Bool ⊕ Unit)) := fun (n, ds, t19, t20, t21) =>
 (.test (decide (t21 < t20))
 (.test (decide ((0 ≤ t21) ∧ (t21 < (t19.length : Int))))
 (.sub (t19[(Int.toNat t21)]?) fun z0 =>
 (.sub (F46 (n, z0)) fun z1 =>
 (.test (! z1)
 (.ret (Sum.inr (Sum.inl false)))
 (.test (decide (t21 > 0))
 (.test (decide ((0 ≤ (w64 (t21 - 1))) ∧ ((w64 (t21 - 1)) < (ds.length : Int))))
 (.sub (ds[(Int.toNat (w64 (t21 - 1)))]?) fun z2 =>
 (.sub (F85 (z2, z0)) fun z3 =>
 (.test (! z3)
 (.ret (Sum.inr (Sum.inl false)))
 (.test (decide (0 ≤ t21))
 (.test (decide ((0 ≤ (Int.toNat t21)) ∧ ((Int.toNat t21) ≤ ds.length)))
 (.sub (F86_L9 ((n, (ds, ((), (t19, (t20, (t21, ((win ds 0 ((Int.toNat t21) - 0)), (((List.length (win ds 0 ((Int.toNat t21) - 0))) : Int), (0 : Int))))))))), z0)) fun z4 =>
 (.test (Sum.isLeft z4)
 (.sub (Sum.getLeft? z4) fun z5 =>
 (.ret (Sum.inr (Sum.inl z5))))
 (.sub (Sum.getRight? z4) fun z6 =>
 (.ret (Sum.inl (z6.1, (z6.2.1, (z6.2.2.1, (z6.2.2.2.1, (w64 (z6.2.2.2.2 + 1)))))))))))
 .fail)
 .fail))))
 .fail)
 (.test (decide (0 ≤ t21))
 (.test (decide ((0 ≤ (Int.toNat t21)) ∧ ((Int.toNat t21) ≤ ds.length)))
 (.sub (F86_L9 ((n, (ds, ((), (t19, (t20, (t21, ((win ds 0 ((Int.toNat t21) - 0)), (((List.length (win ds 0 ((Int.toNat t21) - 0))) : Int), (0 : Int))))))))), z0)) fun z7 =>
 (.test (Sum.isLeft z7)
 (.sub (Sum.getLeft? z7) fun z8 =>
 (.ret (Sum.inr (Sum.inl z8))))
 (.sub (Sum.getRight? z7) fun z9 =>
 (.ret (Sum.inl (z9.1, (z9.2.1, (z9.2.2.1, (z9.2.2.2.1, (w64 (z9.2.2.2.2 + 1)))))))))))
 .fail)
 .fail)))))
 .fail)
 (.ret (Sum.inr (Sum.inr ()))))
noncomputable def F86_L4 (v) := loopO (fun v => (F86_L4_step v).run) v
def F86_fo : List FO := [⟨[(.one .sb)], []⟩]
noncomputable def F86_t : (Int × List ((Int × Int))) → T Bool := fun (n, ds) =>
 (.sub (F113 n) fun z0 =>
 (.test (! z0)
 (.ret false)
 (.test ((ds.length : Int) != (w64 (n - 3)))
 (.ret false)
 (.sub (F86_L4 (n, (ds, (ds, ((ds.length : Int), (0 : Int)))))) fun z1 =>
 (.test (Sum.isLeft z1)
 (.sub (Sum.getLeft? z1) fun z2 =>
 (.ret z2))
 (.sub (Sum.getRight? z1) fun z3 =>
 (.ret true)))))))
noncomputable def F86 (v) := (F86_t v).run
noncomputable def F86_E : TEnv := ((((E0.add1 n_F113 F113_sh F113_fo F113).add1 n_F46 F46_sh F46_fo F46).add1 n_F85 F85_sh F85_fo F85).add1 n_F71 F71_sh F71_fo F71)
theorem F86_Eok : (F86_E).OK := ((((E0ok.add1 F113_ok).add1 F46_ok).add1 F85_ok).add1 F71_ok)
noncomputable def F86_told : Nat → Option SealT := fun id => if id = 9 then some (LSh.told F86_L9_sh 0 (F86_L9_step)) else if id = 4 then some (LSh.told F86_L4_sh 0 (F86_L4_step)) else none
theorem F86_L9_ok : ToldOK Tryz.prog 0 (loopAt (bodyOf fn_F86) [0, 0]) (LSh.told F86_L9_sh 0 (F86_L9_step)) :=
 loop_ok (E := F86_E) (F86_Eok) (told := F86_told) (l := F86_L9_sh) (step := F86_L9_step) (loopsOK_of (ls := []) (by kernel_rfl) trivial) (by kernel_rfl) (fun v => by kernel_rfl)
theorem F86_L4_ok : ToldOK Tryz.prog 0 (loopAt (bodyOf fn_F86) [0]) (LSh.told F86_L4_sh 0 (F86_L4_step)) :=
 loop_ok (E := F86_E) (F86_Eok) (told := F86_told) (l := F86_L4_sh) (step := F86_L4_step) (loopsOK_of (ls := [loopAt (bodyOf fn_F86) [0, 0]]) (by kernel_rfl) ⟨.inr ⟨_, by kernel_rfl, F86_L9_ok⟩, trivial⟩) (by kernel_rfl) (fun v => by kernel_rfl)
theorem F86_ok : FOK Tryz.prog n_F86 F86_sh F86_fo F86 :=
 fn_ok (E := F86_E) (F86_Eok) (told := F86_told) (fl := []) (c := bodyOf fn_F86) (s := F86_sh) (l := F86_fo) (tree := F86_t) fnat_F86 (by kernel_rfl) (by kernel_rfl) (by kernel_rfl) (loopsOK_of (ls := [loopAt (bodyOf fn_F86) [0]]) (by kernel_rfl) ⟨.inr ⟨_, by kernel_rfl, F86_L4_ok⟩, trivial⟩) (fun v => by kernel_rfl)
theorem F86_L9_eq (n : Int) (ds t19 xs : List Dg) (t20 t21 : Int) (d : Dg) (hl : xs.length < 4611686018427387904) :
  F86_L9 ((n, (ds, ((), (t19, (t20, (t21, (xs, ((xs.length : Int), (0 : Int))))))))), d) = some (if xs.any (crossD d) then .inl false else .inr (n, (ds, (t19, (t20, t21))))) := by
 obtain ⟨a, b⟩ := d
 have h := loop_any (step := fun v => (F86_L9_step v).run) (xs := xs) (crossD (a, b)) (fun k => ((n, (ds, ((), (t19, (t20, (t21, (xs, ((xs.length : Int), (k : Int))))))))), (a, b))) (.inl false) (.inr (n, (ds, (t19, (t20, t21)))))
  (fun k x hx => by
   have hlt := getElem?_lt hx
   have w1 : w64 ((k : Int) + 1) = ((k + 1 : Nat) : Int) := by rw [w64_id (by omega) (by omega)]; omega
   rw [F86_L9_step, T.run_test, if_pos (decide_eq_true (by omega)), T.run_test, if_pos (decide_eq_true (by omega)), T.run_sub, Int.toNat_natCast, hx, Option.bind_some, T.run_sub, F71_eq, Option.bind_some, T.run_test, w1]
   cases crossD (a, b) x <;> rfl)
  (by rw [F86_L9_step, T.run_test, if_neg (by simp), T.run_ret])
 simp only [Int.natCast_zero] at h
 exact h
theorem F86_eq (n : Int) (ds : List Dg) (hl : ds.length < 4611686018427387904) : F86 (n, ds) = some (isTri n ds) := by
 rw [F86, F86_t, T.run_sub, F113, F113_t, T.run_sub, F112_eq, Option.bind_some, T.run_ret, Option.bind_some, T.run_test, isTri]
 cases hn : inB 3 12 n with
 | false => rfl
 | true =>
  rw [inB_iff] at hn
  have w3 : w64 (n - 3) = n - 3 := w64_id (by omega) (by omega)
  rw [if_neg (by simp), T.run_test, w3]
  by_cases he : (ds.length : Int) = n - 3
  ·have h := loop_any (step := fun v => (F86_L4_step v).run) (xs := List.range ds.length) (badT n ds) (fun k => (n, (ds, (ds, ((ds.length : Int), (k : Int)))))) (.inl false) (.inr ())
    (fun k x hx => by
     obtain ⟨hk, e⟩ := List.getElem?_eq_some_iff.1 hx
     simp only [List.getElem_range] at e
     subst e
     rw [List.length_range] at hk
     have g0 := gD_some hk
     have w1 : w64 ((k : Int) + 1) = ((k + 1 : Nat) : Int) := by rw [w64_id (by omega) (by omega)]; omega
     have tw : win ds 0 (k - 0) = ds.take k := win_take _ _
     have hcr := F86_L9_eq n ds ds (ds.take k) (ds.length : Int) (k : Int) (gD ds k) (by simp; omega)
     have hdg : F46 (n, gD ds k) = some (inDg n (gD ds k)) := F46_eq n (gD ds k) (by omega) (by omega)
     rw [F86_L4_step, T.run_test, if_pos (decide_eq_true (by omega)), T.run_test, if_pos (decide_eq_true (by omega)), T.run_sub, Int.toNat_natCast, g0, Option.bind_some, T.run_sub, hdg, Option.bind_some, T.run_test, badT]
     cases hd : inDg n (gD ds k) with
     | false => rfl
     | true =>
      rw [if_neg (by simp), T.run_test]
      by_cases hk0 : 0 < k
      ·have w2 : w64 ((k : Int) - 1) = ((k - 1 : Nat) : Int) := by rw [w64_id (by omega) (by omega)]; omega
       have g1 := gD_some (show k - 1 < ds.length by omega)
       have hls : F85 (gD ds (k - 1), gD ds k) = some (ltD (gD ds (k - 1)) (gD ds k)) := F85_eq _ _
       rw [if_pos (decide_eq_true (by omega)), T.run_test, w2, if_pos (decide_eq_true (by omega)), T.run_sub, Int.toNat_natCast, g1, Option.bind_some, T.run_sub, hls, Option.bind_some, T.run_test, decide_eq_true hk0]
       cases ltD (gD ds (k - 1)) (gD ds k) with
       | false => rfl
       | true =>
        rw [if_neg (by simp), T.run_test, if_pos (decide_eq_true (by omega)), T.run_test, if_pos (decide_eq_true (by omega)), T.run_sub, tw, hcr, Option.bind_some, T.run_test, ← w1]
        cases (ds.take k).any (crossD (gD ds k)) <;> rfl
      ·rw [if_neg (by rw [decide_eq_true_eq]; omega), T.run_test, if_pos (decide_eq_true (by omega)), T.run_test, if_pos (decide_eq_true (by omega)), T.run_sub, tw, hcr, Option.bind_some, T.run_test, decide_eq_false hk0, ← w1]
       cases (ds.take k).any (crossD (gD ds k)) <;> rfl)
    (by rw [F86_L4_step, T.run_test, if_neg (by simp), T.run_ret])
   simp only [Int.natCast_zero] at h
   rw [if_neg (by simp [he]), T.run_sub, F86_L4, h, Option.bind_some, T.run_test, decide_eq_true he]
   cases (List.range ds.length).any (badT n ds) <;> rfl
  ·rw [if_pos (by simp [he]), T.run_ret, decide_eq_false he]
   rfl
theorem win_len {α : Type} (xs : List α) (o n : Nat) (h : o + n ≤ xs.length) : (win xs o n).length = n := by unfold win; rw [List.length_take, List.length_drop]; omega
theorem sureQ_loop (n : Int) (hn : n ≤ 20) : ∀ (m : Nat) (K : Int) (c : List Int × Int × Int) (out : List Int), curOK K c → K + 2 * (m : Int) < 10000000000 → 3 ≤ out.length → out.length ≤ 20 → 20 ≤ out.length + m →
  ∃ c' out', F12_L2 (((), (n, ())), (c, out)) = some ((), (c', out')) ∧ 3 ≤ out'.length ∧ out'.length ≤ 20 ∧ curOK (K + 2 * (m : Int)) c' := by
 intro m
 induction m with
 | zero =>
  intro K c out h hK h3 h20 hm
  obtain ⟨c0, c1, c2⟩ := c
  have c9 : ¬ ((out.length : Int) < n) := by omega
  refine ⟨_, out, ?_, h3, h20, h.mono (by omega)⟩
  simp only [F12_L2]
  exact loopO_done (by simp [F12_L2_step, T.run, c9])
 | succ m ih =>
  intro K c out h hK h3 h20 hm
  obtain ⟨c0, c1, c2⟩ := c
  by_cases c9 : (out.length : Int) < n
  ·obtain ⟨v, ⟨d0, d1, d2⟩, e, h0, h1, h2, hc⟩ := pick_ok (out.length : Int) h (by omega)
   have h1 := h1 (by omega)
   obtain ⟨v, rfl⟩ := Int.eq_ofNat_of_zero_le h0
   have w1 : w64 (1 + (v : Int)) = ((v + 1 : Nat) : Int) := by rw [w64_id (by omega) (by omega)]; omega
   have w2 : w64 (((v + 1 : Nat) : Int) - 1) = (v : Int) := by rw [w64_id (by omega) (by omega)]; omega
   have w3 : w64 (((v + 1 : Nat) : Int) + 1) = ((v + 2 : Nat) : Int) := by rw [w64_id (by omega) (by omega)]; omega
   have hv : v < out.length := by omega
   have l1 : (win out 0 (v + 1)).length = v + 1 := win_len _ _ _ (by omega)
   have l2 : (win out (v + 1) (out.length - (v + 1))).length = out.length - (v + 1) := win_len _ _ _ (by omega)
   have ow := F100_eq (win out 0 (v + 1)) (by omega)
   obtain ⟨W1, hW1⟩ : ∃ W, W = win out 0 (v + 1) := ⟨_, rfl⟩
   obtain ⟨W2, hW2⟩ : ∃ W, W = win out (v + 1) (out.length - (v + 1)) := ⟨_, rfl⟩
   rw [← hW1] at l1 ow
   rw [← hW2] at l2
   have hw : win (W1 ++ [1]) 0 (v + 1 + 1) = W1 ++ [1] := by
    have := win_all (W1 ++ [(1 : Int)])
    rwa [List.length_append, l1] at this
   have hwa : win W1 0 (v + 1) = W1 := by have := win_all W1; rwa [l1] at this
   obtain ⟨L, hL⟩ : ∃ L, L = (W1 ++ [1]) ++ W2 := ⟨_, rfl⟩
   have hLl : L.length = v + 1 + 1 + (out.length - (v + 1)) := by rw [hL]; simp [l1, l2]; omega
   have t1 : Int.tmod ((v + 2 : Nat) : Int) ((v + 1 + 1 + (out.length - (v + 1)) : Nat) : Int) = (((v + 2) % (v + 1 + 1 + (out.length - (v + 1))) : Nat) : Int) := by
    rw [Int.tmod_eq_emod_of_nonneg (by omega)]
    rfl
   have t2 : (v + 2) % (v + 1 + 1 + (out.length - (v + 1))) < v + 1 + 1 + (out.length - (v + 1)) := Nat.mod_lt _ (by omega)
   generalize hq : (v + 2) % (v + 1 + 1 + (out.length - (v + 1))) = q at t1 t2
   have g1 : L[v]? = some (L[v]'(by omega)) := List.getElem?_eq_getElem _
   obtain ⟨x, hx⟩ : ∃ x, L[v]? = some x := ⟨_, g1⟩
   obtain ⟨y, hy⟩ : ∃ y, (L.set v (w64 (x + 1)))[q]? = some y := ⟨_, List.getElem?_eq_getElem (by rw [List.length_set]; omega)⟩
   obtain ⟨c', out', e2, r1, r2, r3⟩ := ih (K + 2) (d0, d1, d2) ((L.set v (w64 (x + 1))).set q (w64 (y + 1))) hc (by omega) (by simp only [List.length_set]; omega) (by simp only [List.length_set]; omega) (by simp only [List.length_set]; omega)
   refine ⟨c', out', ?_, r1, r2, r3.mono (by omega)⟩
   simp only [F12_L2] at e2 ⊢
   rw [← e2]
   refine loopO_next ?_
   have a1 : (0 : Int) ≤ ((v + 1 : Nat) : Int) := by omega
   have a2 : 0 ≤ v + 1 ∧ v + 1 ≤ out.length := by omega
   have a3 : 0 + (v + 1 - 0) ≤ out.length := by omega
   have a4 : 2 * ((v + 1 + 1) * 9) ≤ 140737488355328 := by omega
   have a5 : v + 1 ≤ out.length ∧ out.length ≤ out.length := by omega
   have a6 : 0 + (v + 1) + (out.length - (v + 1)) ≤ out.length := by omega
   have a7 : 2 * ((v + 1 + 1 + (out.length - (v + 1))) * 9) ≤ 140737488355328 := by omega
   have a8 : (0 : Int) ≤ (v : Int) ∧ (v : Int) < ((v + 1 + 1 + (out.length - (v + 1)) : Nat) : Int) := by omega
   have a9 : ((v + 1 + 1 + (out.length - (v + 1)) : Nat) : Int) ≠ 0 := by omega
   have a10 : (0 : Int) ≤ (q : Int) ∧ (q : Int) < ((v + 1 + 1 + (out.length - (v + 1)) : Nat) : Int) := by omega
   rw [F12_L2_step, T.run_test, if_pos (decide_eq_true c9), T.run_sub, e, Option.bind_some]
   simp only [w1, Int.toNat_natCast, Nat.sub_zero, Nat.zero_add, ← hW1, ← hW2]
   rw [T.run_test, if_pos (decide_eq_true a1), T.run_test, if_pos (decide_eq_true a2), T.run_test, if_pos (decide_eq_true (by omega)), T.run_sub, ow, Option.bind_some]
   simp only [l1, l2, hwa, win_one, hw, w2, w3, Int.toNat_natCast, ← hL, List.length_append, List.length_singleton]
   have e0 : (((v + 1 : Nat) : Int) + 1 + ((out.length - (v + 1) : Nat) : Int)) = ((v + 1 + 1 + (out.length - (v + 1)) : Nat) : Int) := by push_cast; omega
   simp only [e0, t1, Int.toNat_natCast, List.length_set, hLl]
   rw [T.run_test, if_pos (by first | rfl | exact decide_eq_true (by omega))]
   rw [T.run_test, if_pos (by first | rfl | exact decide_eq_true (by omega))]
   rw [T.run_test, if_pos (by first | rfl | exact decide_eq_true (by omega))]
   rw [T.run_test, if_pos (by first | rfl | exact decide_eq_true (by omega))]
   rw [T.run_test, if_pos (by first | rfl | exact decide_eq_true (by omega))]
   rw [T.run_test, if_pos (by first | rfl | exact decide_eq_true (by omega))]
   rw [T.run_test, if_pos (by first | rfl | exact decide_eq_true (by omega))]
   rw [T.run_test, if_pos (by first | rfl | exact decide_eq_true (by omega))]
   rw [T.run_test, if_pos (by first | rfl | exact decide_eq_true (by omega))]
   rw [T.run_sub, hx, Option.bind_some]
   rw [T.run_test, if_pos (by first | rfl | exact decide_eq_true (by omega))]
   rw [T.run_sub, Option.bind_some]
   rw [T.run_test, if_pos (by first | rfl | exact decide_eq_true (by omega))]
   rw [T.run_test, if_pos (by first | rfl | exact decide_eq_true (by omega))]
   rw [T.run_sub, hy, Option.bind_some]
   rw [T.run_test, if_pos (by first | rfl | exact decide_eq_true (by omega))]
   rw [T.run_sub, Option.bind_some]
   rw [T.run_test, if_pos (by simp)]
   rfl
  ·refine ⟨_, out, ?_, h3, h20, h.mono (by omega)⟩
   simp only [F12_L2]
   exact loopO_done (by simp [F12_L2_step, T.run, c9])
theorem sureQ_ok {K : Int} {c : List Int × Int × Int} (n : Int) (hn : n ≤ 20) (h : curOK K c) (hK : K < 1000000000) :
  ∃ c' out', F12 (((), n), c) = some ((), (c', out')) ∧ 3 ≤ out'.length ∧ out'.length ≤ 20 ∧ curOK (K + 40) c' := by
 obtain ⟨c0, c1, c2⟩ := c
 obtain ⟨⟨d0, d1, d2⟩, out', e, h1, h2, h3⟩ := sureQ_loop n hn 17 K (c0, c1, c2) [1, 1, 1] h (by omega) (by simp) (by simp) (by simp)
 refine ⟨(d0, d1, d2), out', ?_, h1, h2, h3.mono (by omega)⟩
 rw [F12, F12_t, T.run_test, if_pos (by simp), T.run_sub, show (List.set (List.set (List.set (List.replicate 3 (0 : Int)) 0 (1 : Int)) 1 (1 : Int)) 2 (1 : Int)) = [1, 1, 1] from rfl, e, Option.bind_some, T.run_test, if_pos (by simp), T.run_ret]
theorem polygon_ok {K : Int} {c : List Int × Int × Int} (N : Int) (hN : 3 ≤ N ∧ N ≤ 12) (h : curOK K c) (hK : K < 100000000) :
  ∃ n ds c', F33 (((), N), c) = some ((n, ()), (c', ds)) ∧ ds.length ≤ 20 ∧ curOK (K + 60) c' := by
 obtain ⟨c0, c1, c2⟩ := c
 obtain ⟨v, d, e, h0, h1, _, hc⟩ := pick_ok (N - 2) h (by omega)
 have h1 := h1 (by omega)
 have w0 : w64 (N - 2) = N - 2 := w64_id (by omega) (by omega)
 have w1 : w64 (3 + v) = 3 + v := w64_id (by omega) (by omega)
 have w2 : w64 (3 + v + 1) = 3 + v + 1 := w64_id (by omega) (by omega)
 obtain ⟨a, out, e2, g1, g2, hc2⟩ := sureQ_ok (3 + v) (by omega) hc (by omega)
 obtain ⟨r, hr, ep, hds⟩ := F114_eq out (by omega)
 obtain ⟨u, b, e3, u0, u1, _, hc3⟩ := pick_ok 16 hc2 (by omega)
 obtain ⟨z, hz, hzl⟩ : ∃ z : (Unit × Bool) × List Dg, F114 out = some z ∧ z.2.length ≤ 9 := by
  refine ⟨_, ep, ?_⟩
  cases ht : trOf out with
  | none => exact hr
  | some ds => exact hds (by rw [ht]; rfl) ds ht
 obtain ⟨zb, ds⟩ := z
 simp only at hzl
 rw [F33, F33_t, T.run_sub, w0, e, Option.bind_some, T.run_sub, w1, e2, Option.bind_some]
 simp only [win_all]
 rw [T.run_test, if_pos (by simp), T.run_sub, hz, Option.bind_some, T.run_sub, e3, Option.bind_some, T.run_test]
 dsimp only
 by_cases c0 : (u == 0) = true
 ·rw [if_pos c0, T.run_test]
  by_cases hd : (ds.length : Int) > 0
  ·obtain ⟨x, f, e4, x0, x1, _, hc4⟩ := pick_ok (ds.length : Int) hc3 (by omega)
   have x1 := x1 (by omega)
   obtain ⟨y, g, e5, _, hc5⟩ := among_ok [-1, 0, 1] hc4 (by omega) (by simp)
   obtain ⟨y2, g2, e6, _, hc6⟩ := among_ok [1, 2, 3, 3 + v, 4611686018427387904] hc5 (by omega) (by simp)
   have hlt : x.toNat < ds.length := by omega
   rw [if_pos (decide_eq_true hd), T.run_sub, e4, Option.bind_some, T.run_test, if_pos rfl, T.run_sub, e5, Option.bind_some, T.run_test, if_pos (by simp), T.run_sub, e6, Option.bind_some, T.run_test, if_pos (decide_eq_true ⟨x0, x1⟩), T.run_sub, Nat.zero_add, List.getElem?_eq_getElem hlt, Option.bind_some, T.run_test, if_pos (by simp), T.run_ret]
   exact ⟨_, _, _, rfl, by rw [List.length_set]; omega, hc6.mono (by omega)⟩
  ·rw [if_neg (by rw [decide_eq_true_eq]; exact hd), T.run_test, if_pos (by simp), T.run_ret]
   exact ⟨_, _, _, rfl, by omega, hc3.mono (by omega)⟩
 rw [if_neg c0, T.run_test]
 by_cases c1 : (u == 1) = true
 ·obtain ⟨y, g, e5, _, hc5⟩ := among_ok [-1, 2, 3 + v + 1, 4611686018427387904] hc3 (by omega) (by simp)
  rw [if_pos c1, T.run_test, if_pos (by simp), T.run_sub, w2, e5, Option.bind_some, T.run_test, if_pos (by simp), T.run_ret]
  exact ⟨_, _, _, rfl, by omega, hc5.mono (by omega)⟩
 rw [if_neg c1, T.run_test]
 by_cases c2 : (u == 2) = true
 ·rw [if_pos c2, T.run_test, if_pos rfl, T.run_test, if_pos (by simp), T.run_test, if_pos (decide_eq_true (by omega)), T.run_test, if_pos (by simp), T.run_ret]
  exact ⟨_, _, _, rfl, by rw [List.length_append, List.length_singleton]; omega, hc3.mono (by omega)⟩
 rw [if_neg c2, T.run_test, if_pos (by simp), T.run_ret]
 exact ⟨_, _, _, rfl, by omega, hc3.mono (by omega)⟩
end Go.Proofs.W
