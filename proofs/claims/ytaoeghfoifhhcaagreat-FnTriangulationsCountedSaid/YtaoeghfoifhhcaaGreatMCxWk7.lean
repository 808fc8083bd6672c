import Derived.Test.YtaoeghfoifhhcaaGreatMCxWk6
set_option linter.unusedVariables false
set_option linter.unusedSimpArgs false
set_option maxRecDepth 100000
set_option maxHeartbeats 4000000
namespace Go.Proofs.W
open Go Go.Gm Go.Proofs
open Go.RowKit Go.Shelf
def F94_sh : FSh := ⟨[(.one (.si .i64)), (.one (.sl (.pair (.int .i64) (.int .i64)) false false))], []⟩
def F94_L9_sh : LSh := ⟨(fun ex => match ex with | .norm => [(0, none), (1, none), (6, none), (19, none), (20, none), (21, none), (46, none), (47, none), (48, none)] | .exit i => if i = 2 then [(0, none), (1, none), (19, none), (20, none), (21, none)] else if i = 1 then [(0, none), (1, none), (19, none), (20, none), (21, none)] else if i = 0 then [] else [] | .ret => [(4, none)]), [(0, (.one (.si .i64))), (1, (.one (.sl (.pair (.int .i64) (.int .i64)) false false))), (6, (.one (.pf 0 0 0))), (19, (.one (.sl (.pair (.int .i64) (.int .i64)) false false))), (20, (.one (.si .i64))), (21, (.one (.si .i64))), (46, (.one (.sl (.pair (.int .i64) (.int .i64)) false false))), (47, (.one (.si .i64))), (48, (.one (.si .i64)))], [(.rcd 0 [(.si .i64), (.si .i64)])], [⟨.ret, [(4, (.one .sb))], []⟩, ⟨(.exit 2), [(0, (.one (.si .i64))), (1, (.one (.sl (.pair (.int .i64) (.int .i64)) false false))), (19, (.one (.sl (.pair (.int .i64) (.int .i64)) false false))), (20, (.one (.si .i64))), (21, (.one (.si .i64)))], []⟩], [], []⟩
noncomputable def F94_L9_step : ((Int × List ((Int × Int)) × Unit × List ((Int × Int)) × Int × Int × List ((Int × Int)) × Int × Int) × (Int × Int)) → T (((Int × List ((Int × Int)) × Unit × List ((Int × Int)) × Int × Int × List ((Int × Int)) × Int × Int) × (Int × Int)) ⊕ (Bool ⊕ (Int × List ((Int × Int)) × List ((Int × Int)) × Int × Int))) := fun ((n, ds, (), t19, t20, t21, t46, t47, t48), (d_0, d_1)) =>
 (.test (decide (t48 < t47))
 (.test (decide ((0 ≤ t48) ∧ (t48 < (t46.length : Int))))
 (.sub (t46[(Int.toNat t48)]?) fun z0 =>
 (.sub (F83 ((d_0, d_1), z0)) fun z1 =>
 (.test z1
 (.ret (Sum.inr (Sum.inl false)))
 (.ret (Sum.inl ((n, (ds, ((), (t19, (t20, (t21, (t46, (t47, (w64 (t48 + 1)))))))))), (d_0, d_1)))))))
 .fail)
 (.ret (Sum.inr (Sum.inr (n, (ds, (t19, (t20, t21))))))))
noncomputable def F94_L9 (v) := loopO (fun v => (F94_L9_step v).run) v
def F94_L4_sh : LSh := ⟨(fun ex => match ex with | .norm => [(0, none), (1, none), (19, none), (20, none), (21, none)] | .exit i => if i = 0 then [] else [] | .ret => [(4, none)]), [(0, (.one (.si .i64))), (1, (.one (.sl (.pair (.int .i64) (.int .i64)) false false))), (19, (.one (.sl (.pair (.int .i64) (.int .i64)) false false))), (20, (.one (.si .i64))), (21, (.one (.si .i64)))], [], [⟨.ret, [(4, (.one .sb))], []⟩, ⟨(.exit 0), [], []⟩], [], []⟩
noncomputable def F94_L4_step : (Int × List ((Int × Int)) × List ((Int × Int)) × Int × Int) → T ((Int × List ((Int × Int)) × List ((Int × Int)) × Int × Int) ⊕ (Bool ⊕ Unit)) := fun (n, ds, t19, t20, t21) =>
 (.test (decide (t21 < t20))
 (.test (decide ((0 ≤ t21) ∧ (t21 < (t19.length : Int))))
 (.sub (t19[(Int.toNat t21)]?) fun z0 =>
 (.sub (F63 (n, z0)) fun z1 =>
 (.test (! z1)
 (.ret (Sum.inr (Sum.inl false)))
 (.test (decide (t21 > 0))
 (.test (decide ((0 ≤ (w64 (t21 - 1))) ∧ ((w64 (t21 - 1)) < (ds.length : Int))))
 (.sub (ds[(Int.toNat (w64 (t21 - 1)))]?) fun z2 =>
 (.sub (F86 (z2, z0)) fun z3 =>
 (.test (! z3)
 (.ret (Sum.inr (Sum.inl false)))
 (.test (decide (0 ≤ t21))
 (.test (decide ((0 ≤ (Int.toNat t21)) ∧ ((Int.toNat t21) ≤ ds.length)))
 (.sub (F94_L9 ((n, (ds, ((), (t19, (t20, (t21, ((win ds 0 ((Int.toNat t21) - 0)), (((List.length (win ds 0 ((Int.toNat t21) - 0))) : Int), (0 : Int))))))))), z0)) fun z4 =>
 (.test (Sum.isLeft z4)
 (.sub (Sum.getLeft? z4) fun z5 =>
 (.ret (Sum.inr (Sum.inl z5))))
 (.sub (Sum.getRight? z4) fun z6 =>
 (.ret (Sum.inl (z6.1, (z6.2.1, (z6.2.2.1, (z6.2.2.2.1, (w64 (z6.2.2.2.2 + 1)))))))))))
 .fail)
 .fail))))
 .fail)
 (.test (decide (0 ≤ t21))
 (.test (decide ((0 ≤ (Int.toNat t21)) ∧ ((Int.toNat t21) ≤ ds.length)))
 (.sub (F94_L9 ((n, (ds, ((), (t19, (t20, (t21, ((win ds 0 ((Int.toNat t21) - 0)), (((List.length (win ds 0 ((Int.toNat t21) - 0))) : Int), (0 : Int))))))))), z0)) fun z7 =>
 (.test (Sum.isLeft z7)
 (.sub (Sum.getLeft? z7) fun z8 =>
 (.ret (Sum.inr (Sum.inl z8))))
 (.sub (Sum.getRight? z7) fun z9 =>
 (.ret (Sum.inl (z9.1, (z9.2.1, (z9.2.2.1, (z9.2.2.2.1, (w64 (z9.2.2.2.2 + 1)))))))))))
 .fail)
 .fail)))))
 .fail)
 (.ret (Sum.inr (Sum.inr ()))))
noncomputable def F94_L4 (v) := loopO (fun v => (F94_L4_step v).run) v
def F94_fo : List FO := [⟨[(.one .sb)], []⟩]
noncomputable def F94_t : (Int × List ((Int × Int))) → T Bool := fun (n, ds) =>
 (.sub (F114 n) fun z0 =>
 (.test (! z0)
 (.ret false)
 (.test ((ds.length : Int) != (w64 (n - 3)))
 (.ret false)
 (.sub (F94_L4 (n, (ds, (ds, ((ds.length : Int), (0 : Int)))))) fun z1 =>
 (.test (Sum.isLeft z1)
 (.sub (Sum.getLeft? z1) fun z2 =>
 (.ret z2))
 (.sub (Sum.getRight? z1) fun z3 =>
 (.ret true)))))))
noncomputable def F94 (v) := (F94_t v).run
noncomputable def F94_E : TEnv := ((((E0.add1 n_F114 F114_sh F114_fo F114).add1 n_F63 F63_sh F63_fo F63).add1 n_F86 F86_sh F86_fo F86).add1 n_F83 F83_sh F83_fo F83)
theorem F94_Eok : (F94_E).OK := ((((E0ok.add1 F114_ok).add1 F63_ok).add1 F86_ok).add1 F83_ok)
noncomputable def F94_told : Nat → Option SealT := fun id => if id = 9 then some (LSh.told F94_L9_sh 0 (F94_L9_step)) else if id = 4 then some (LSh.told F94_L4_sh 0 (F94_L4_step)) else none
theorem F94_L9_ok : ToldOK Tryz.prog 0 (loopAt (bodyOf fn_F94) [0, 0]) (LSh.told F94_L9_sh 0 (F94_L9_step)) :=
 loop_ok (E := F94_E) (F94_Eok) (told := F94_told) (l := F94_L9_sh) (step := F94_L9_step) (loopsOK_of (ls := []) (by kernel_rfl) trivial) (by kernel_rfl) (fun v => by kernel_rfl)
theorem F94_L4_ok : ToldOK Tryz.prog 0 (loopAt (bodyOf fn_F94) [0]) (LSh.told F94_L4_sh 0 (F94_L4_step)) :=
 loop_ok (E := F94_E) (F94_Eok) (told := F94_told) (l := F94_L4_sh) (step := F94_L4_step) (loopsOK_of (ls := [loopAt (bodyOf fn_F94) [0, 0]]) (by kernel_rfl) ⟨.inr ⟨_, by kernel_rfl, F94_L9_ok⟩, trivial⟩) (by kernel_rfl) (fun v => by kernel_rfl)
theorem F94_ok : FOK Tryz.prog n_F94 F94_sh F94_fo F94 :=
 fn_ok (E := F94_E) (F94_Eok) (told := F94_told) (fl := []) (c := bodyOf fn_F94) (s := F94_sh) (l := F94_fo) (tree := F94_t) fnat_F94 (by kernel_rfl) (by kernel_rfl) (by kernel_rfl) (loopsOK_of (ls := [loopAt (bodyOf fn_F94) [0]]) (by kernel_rfl) ⟨.inr ⟨_, by kernel_rfl, F94_L4_ok⟩, trivial⟩) (fun v => by kernel_rfl)
theorem F94_L9_eq (n : Int) (ds t19 xs : List Dg) (t20 t21 : Int) (d : Dg) (hl : xs.length < 4611686018427387904) :
  F94_L9 ((n, (ds, ((), (t19, (t20, (t21, (xs, ((xs.length : Int), (0 : Int))))))))), d) = some (if xs.any (crossD d) then .inl false else .inr (n, (ds, (t19, (t20, t21))))) := by
 obtain ⟨a, b⟩ := d
 have h := loop_any (step := fun v => (F94_L9_step v).run) (xs := xs) (crossD (a, b)) (fun k => ((n, (ds, ((), (t19, (t20, (t21, (xs, ((xs.length : Int), (k : Int))))))))), (a, b))) (.inl false) (.inr (n, (ds, (t19, (t20, t21)))))
  (fun k x hx => by
   have hlt := getElem?_lt hx
   have w1 : w64 ((k : Int) + 1) = ((k + 1 : Nat) : Int) := by rw [w64_id (by omega) (by omega)]; omega
   rw [F94_L9_step, T.run_test, if_pos (decide_eq_true (by omega)), T.run_test, if_pos (decide_eq_true (by omega)), T.run_sub, Int.toNat_natCast, hx, Option.bind_some, T.run_sub, F83_eq, Option.bind_some, T.run_test, w1]
   cases crossD (a, b) x <;> rfl)
  (by rw [F94_L9_step, T.run_test, if_neg (by simp), T.run_ret])
 simp only [Int.natCast_zero] at h
 exact h
theorem F94_eq (n : Int) (ds : List Dg) (hl : ds.length < 4611686018427387904) : F94 (n, ds) = some (isTri n ds) := by
 rw [F94, F94_t, T.run_sub, F114, F114_t, T.run_sub, F113_eq, Option.bind_some, T.run_ret, Option.bind_some, T.run_test, isTri]
 cases hn : inB 3 12 n with
 | false => rfl
 | true =>
  rw [inB_iff] at hn
  have w3 : w64 (n - 3) = n - 3 := w64_id (by omega) (by omega)
  rw [if_neg (by simp), T.run_test, w3]
  by_cases he : (ds.length : Int) = n - 3
  ·have h := loop_any (step := fun v => (F94_L4_step v).run) (xs := List.range ds.length) (badT n ds) (fun k => (n, (ds, (ds, ((ds.length : Int), (k : Int)))))) (.inl false) (.inr ())
    (fun k x hx => by
     obtain ⟨hk, e⟩ := List.getElem?_eq_some_iff.1 hx
     simp only [List.getElem_range] at e
     subst e
     rw [List.length_range] at hk
     have g0 := gD_some hk
     have w1 : w64 ((k : Int) + 1) = ((k + 1 : Nat) : Int) := by rw [w64_id (by omega) (by omega)]; omega
     have tw : win ds 0 (k - 0) = ds.take k := win_take _ _
     have hcr := F94_L9_eq n ds ds (ds.take k) (ds.length : Int) (k : Int) (gD ds k) (by simp; omega)
     have hdg : F63 (n, gD ds k) = some (inDg n (gD ds k)) := F63_eq n (gD ds k) (by omega) (by omega)
     rw [F94_L4_step, T.run_test, if_pos (decide_eq_true (by omega)), T.run_test, if_pos (decide_eq_true (by omega)), T.run_sub, Int.toNat_natCast, g0, Option.bind_some, T.run_sub, hdg, Option.bind_some, T.run_test, badT]
     cases hd : inDg n (gD ds k) with
     | false => rfl
     | true =>
      rw [if_neg (by simp), T.run_test]
      by_cases hk0 : 0 < k
      ·have w2 : w64 ((k : Int) - 1) = ((k - 1 : Nat) : Int) := by rw [w64_id (by omega) (by omega)]; omega
       have g1 := gD_some (show k - 1 < ds.length by omega)
       have hls : F86 (gD ds (k - 1), gD ds k) = some (ltD (gD ds (k - 1)) (gD ds k)) := F86_eq _ _
       rw [if_pos (decide_eq_true (by omega)), T.run_test, w2, if_pos (decide_eq_true (by omega)), T.run_sub, Int.toNat_natCast, g1, Option.bind_some, T.run_sub, hls, Option.bind_some, T.run_test, decide_eq_true hk0]
       cases ltD (gD ds (k - 1)) (gD ds k) with
       | false => rfl
       | true =>
        rw [if_neg (by simp), T.run_test, if_pos (decide_eq_true (by omega)), T.run_test, if_pos (decide_eq_true (by omega)), T.run_sub, tw, hcr, Option.bind_some, T.run_test, ← w1]
        cases (ds.take k).any (crossD (gD ds k)) <;> rfl
      ·rw [if_neg (by rw [decide_eq_true_eq]; omega), T.run_test, if_pos (decide_eq_true (by omega)), T.run_test, if_pos (decide_eq_true (by omega)), T.run_sub, tw, hcr, Option.bind_some, T.run_test, decide_eq_false hk0, ← w1]
       cases (ds.take k).any (crossD (gD ds k)) <;> rfl)
    (by rw [F94_L4_step, T.run_test, if_neg (by simp), T.run_ret])
   simp only [Int.natCast_zero] at h
   rw [if_neg (by simp [he]), T.run_sub, F94_L4, h, Option.bind_some, T.run_test, decide_eq_true he]
   cases (List.range ds.length).any (badT n ds) <;> rfl
  ·rw [if_pos (by simp [he]), T.run_ret, decide_eq_false he]
   rfl
def F70_sh : FSh := ⟨[(.one (.si .i64)), (.one (.sl (.pair (.int .i64) (.int .i64)) false false)), (.one (.sl (.pair (.int .i64) (.int .i64)) false false)), (.one (.pf 0 0 0))], [(.rcd 0 [(.rw 1 0)]), (.row 0 (.list true (.pair (.int .i64) (.int .i64))))]⟩
def F70_fo : List FO := [⟨[], [(.rcd 0 [(.rw 1 1)]), (.row 1 (.list true (.pair (.int .i64) (.int .i64))))]⟩]
def F70_L7_sh : LSh := ⟨(fun ex => match ex with | .norm => [(0, none), (1, none), (2, none), (3, none), (8, none), (9, none), (10, none), (28, none), (29, none), (30, none), (35, none), (36, none), (37, none)] | .exit i => if i = 2 then [(0, none), (1, none), (2, none), (3, none), (8, none), (9, none), (10, none), (28, none), (29, none), (30, none)] else if i = 1 then [(0, none), (1, none), (2, none), (3, none), (28, none), (29, none), (30, none)] else if i = 0 then [] else [] | .ret => []), [(0, (.one (.si .i64))), (1, (.one (.sl (.pair (.int .i64) (.int .i64)) false false))), (2, (.one (.sl (.pair (.int .i64) (.int .i64)) false false))), (3, (.one (.pf 0 0 0))), (8, (.one (.si .i64))), (9, (.one (.pf 2 0 0))), (10, (.one .sb)), (28, (.one (.sl (.pair (.int .i64) (.int .i64)) false false))), (29, (.one (.si .i64))), (30, (.one (.si .i64))), (35, (.one (.sl (.pair (.int .i64) (.int .i64)) false false))), (36, (.one (.si .i64))), (37, (.one (.si .i64)))], [(.rcd 0 [(.rw 1 1)]), (.row 1 (.list true (.pair (.int .i64) (.int .i64)))), (.rcd 0 [(.si .i64), (.si .i64)])], [⟨(.exit 2), [(0, (.one (.si .i64))), (1, (.one (.sl (.pair (.int .i64) (.int .i64)) false false))), (2, (.one (.sl (.pair (.int .i64) (.int .i64)) false false))), (3, (.one (.pf 0 0 0))), (8, (.one (.si .i64))), (9, (.one (.pf 2 0 0))), (10, (.one .sb)), (28, (.one (.sl (.pair (.int .i64) (.int .i64)) false false))), (29, (.one (.si .i64))), (30, (.one (.si .i64)))], [(.rcd 0 [(.rw 1 1)]), (.row 1 (.list true (.pair (.int .i64) (.int .i64)))), (.rcd 0 [(.si .i64), (.si .i64)])]⟩], [], []⟩
noncomputable def F70_L7_step (recv : ((Int × List ((Int × Int)) × List ((Int × Int)) × Unit) × (Unit × List (List ((Int × Int))))) → Option (Unit × (Unit × List (List ((Int × Int)))))) : ((Int × List ((Int × Int)) × List ((Int × Int)) × Unit × Int × Unit × Bool × List ((Int × Int)) × Int × Int × List ((Int × Int)) × Int × Int) × (Unit × List (List ((Int × Int))) × (Int × Int))) → T (((Int × List ((Int × Int)) × List ((Int × Int)) × Unit × Int × Unit × Bool × List ((Int × Int)) × Int × Int × List ((Int × Int)) × Int × Int) × (Unit × List (List ((Int × Int))) × (Int × Int))) ⊕ ((Int × List ((Int × Int)) × List ((Int × Int)) × Unit × Int × Unit × Bool × List ((Int × Int)) × Int × Int) × (Unit × List (List ((Int × Int))) × (Int × Int)))) := fun ((n, all, begin, (), i, (), free, t28, t29, t30, t35, t36, t37), ((), out_r, (d_0, d_1))) =>
 (.test (decide (t37 < t36))
 (.test (decide ((0 ≤ t37) ∧ (t37 < (t35.length : Int))))
 (.sub (t35[(Int.toNat t37)]?) fun z0 =>
 (.test free
 (.sub (F83 ((d_0, d_1), (z0.1, z0.2))) fun z1 =>
 (.test (decide ((0 = 0) ∧ (out_r.length = out_r.length)))
 (.ret (Sum.inl ((n, (all, (begin, ((), (i, ((), ((! z1), (t28, (t29, (t30, (t35, (t36, (w64 (t37 + 1)))))))))))))), ((), (out_r, (d_0, d_1))))))
 .fail))
 (.test (decide ((0 = 0) ∧ (out_r.length = out_r.length)))
 (.ret (Sum.inl ((n, (all, (begin, ((), (i, ((), (false, (t28, (t29, (t30, (t35, (t36, (w64 (t37 + 1)))))))))))))), ((), (out_r, (d_0, d_1))))))
 .fail)))
 .fail)
 (.test (decide ((0 = 0) ∧ (out_r.length = out_r.length)))
 (.ret (Sum.inr ((n, (all, (begin, ((), (i, ((), (free, (t28, (t29, t30))))))))), ((), (out_r, (d_0, d_1))))))
 .fail))
noncomputable def F70_L7 (recv : ((Int × List ((Int × Int)) × List ((Int × Int)) × Unit) × (Unit × List (List ((Int × Int))))) → Option (Unit × (Unit × List (List ((Int × Int)))))) (v : ((Int × List ((Int × Int)) × List ((Int × Int)) × Unit × Int × Unit × Bool × List ((Int × Int)) × Int × Int × List ((Int × Int)) × Int × Int) × (Unit × List (List ((Int × Int))) × (Int × Int)))) : Option ((Int × List ((Int × Int)) × List ((Int × Int)) × Unit × Int × Unit × Bool × List ((Int × Int)) × Int × Int) × (Unit × List (List ((Int × Int))) × (Int × Int))) := loopO (fun v => (F70_L7_step recv v).run) v
def F70_L3_sh : LSh := ⟨(fun ex => match ex with | .norm => [(0, none), (1, none), (2, none), (3, none), (28, none), (29, none), (30, none)] | .exit i => if i = 0 then [] else [] | .ret => []), [(0, (.one (.si .i64))), (1, (.one (.sl (.pair (.int .i64) (.int .i64)) false false))), (2, (.one (.sl (.pair (.int .i64) (.int .i64)) false false))), (3, (.one (.pf 0 0 0))), (28, (.one (.sl (.pair (.int .i64) (.int .i64)) false false))), (29, (.one (.si .i64))), (30, (.one (.si .i64)))], [(.rcd 0 [(.rw 1 1)]), (.row 1 (.list true (.pair (.int .i64) (.int .i64))))], [⟨(.exit 0), [], [(.rcd 0 [(.rw 1 1)]), (.row 1 (.list true (.pair (.int .i64) (.int .i64))))]⟩], [], [1]⟩
noncomputable def F70_L3_step (recv : ((Int × List ((Int × Int)) × List ((Int × Int)) × Unit) × (Unit × List (List ((Int × Int))))) → Option (Unit × (Unit × List (List ((Int × Int)))))) : ((Int × List ((Int × Int)) × List ((Int × Int)) × Unit × List ((Int × Int)) × Int × Int) × (Unit × List (List ((Int × Int))))) → T (((Int × List ((Int × Int)) × List ((Int × Int)) × Unit × List ((Int × Int)) × Int × Int) × (Unit × List (List ((Int × Int))))) ⊕ (Unit × (Unit × List (List ((Int × Int)))))) := fun ((n, all, begin, (), t28, t29, t30), ((), out_r)) =>
 (.test (decide (t30 < t29))
 (.test (decide ((0 ≤ t30) ∧ (t30 < (t28.length : Int))))
 (.sub (t28[(Int.toNat t30)]?) fun z0 =>
 (.test (decide ((0 = 0) ∧ (out_r.length = out_r.length)))
 (.sub (F70_L7 recv ((n, (all, (begin, ((), (t30, ((), (true, (t28, (t29, (t30, (begin, ((begin.length : Int), (0 : Int))))))))))))), ((), (out_r, (z0.1, z0.2))))) fun z1 =>
 (.test z1.1.2.2.2.2.2.2.1
 (.test (decide (0 ≤ (w64 (z1.1.2.2.2.2.1 + 1))))
 (.test (decide (((Int.toNat (w64 (z1.1.2.2.2.2.1 + 1))) ≤ z1.1.2.1.length) ∧ (z1.1.2.1.length ≤ z1.1.2.1.length)))
 (.test true
 (.test (decide ((2 * ((0 + z1.1.2.2.1.length) * (16 + 1))) ≤ 140737488355328))
 (.test (decide (1 ≤ (List.length (List.set (List.replicate 1 ((0 : Int), (0 : Int))) 0 (z1.2.2.2.1, z1.2.2.2.2)))))
 (.test (decide ((0 + (0 + z1.1.2.2.1.length)) ≤ (List.length ((win (List.replicate 0 ((0 : Int), (0 : Int))) 0 0) ++ z1.1.2.2.1))))
 (.test (decide ((2 * (((0 + z1.1.2.2.1.length) + (List.length (win (List.set (List.replicate 1 ((0 : Int), (0 : Int))) 0 (z1.2.2.2.1, z1.2.2.2.2)) 0 1))) * (16 + 1))) ≤ 140737488355328))
 (.test (decide ((0 + ((0 + z1.1.2.2.1.length) + (List.length (win (List.set (List.replicate 1 ((0 : Int), (0 : Int))) 0 (z1.2.2.2.1, z1.2.2.2.2)) 0 1)))) ≤ (List.length ((win ((win (List.replicate 0 ((0 : Int), (0 : Int))) 0 0) ++ z1.1.2.2.1) 0 (0 + z1.1.2.2.1.length)) ++ (win (List.set (List.replicate 1 ((0 : Int), (0 : Int))) 0 (z1.2.2.2.1, z1.2.2.2.2)) 0 1)))))
 (.test (decide ((0 = 0) ∧ (z1.2.2.1.length = z1.2.2.1.length)))
 (.sub (recv ((z1.1.1, ((win z1.1.2.1 (Int.toNat (w64 (z1.1.2.2.2.2.1 + 1))) (z1.1.2.1.length - (Int.toNat (w64 (z1.1.2.2.2.2.1 + 1))))), ((win ((win ((win (List.replicate 0 ((0 : Int), (0 : Int))) 0 0) ++ z1.1.2.2.1) 0 (0 + z1.1.2.2.1.length)) ++ (win (List.set (List.replicate 1 ((0 : Int), (0 : Int))) 0 (z1.2.2.2.1, z1.2.2.2.2)) 0 1)) 0 ((0 + z1.1.2.2.1.length) + (List.length (win (List.set (List.replicate 1 ((0 : Int), (0 : Int))) 0 (z1.2.2.2.1, z1.2.2.2.2)) 0 1)))), ()))), ((), z1.2.2.1))) fun z2 =>
 (.test (decide ((0 = 0) ∧ (z2.2.2.length = z2.2.2.length)))
 (.ret (Sum.inl ((z1.1.1, (z1.1.2.1, (z1.1.2.2.1, ((), (z1.1.2.2.2.2.2.2.2.1, (z1.1.2.2.2.2.2.2.2.2.1, (w64 (z1.1.2.2.2.2.2.2.2.2.2 + 1)))))))), ((), z2.2.2))))
 .fail))
 .fail)
 .fail)
 .fail)
 .fail)
 .fail)
 .fail)
 .fail)
 .fail)
 .fail)
 (.test (decide ((0 = 0) ∧ (z1.2.2.1.length = z1.2.2.1.length)))
 (.ret (Sum.inl ((z1.1.1, (z1.1.2.1, (z1.1.2.2.1, ((), (z1.1.2.2.2.2.2.2.2.1, (z1.1.2.2.2.2.2.2.2.2.1, (w64 (z1.1.2.2.2.2.2.2.2.2.2 + 1)))))))), ((), z1.2.2.1))))
 .fail)))
 .fail))
 .fail)
 (.test (decide ((0 = 0) ∧ (out_r.length = out_r.length)))
 (.ret (Sum.inr ((), ((), out_r))))
 .fail))
noncomputable def F70_L3 (recv : ((Int × List ((Int × Int)) × List ((Int × Int)) × Unit) × (Unit × List (List ((Int × Int))))) → Option (Unit × (Unit × List (List ((Int × Int)))))) (v : ((Int × List ((Int × Int)) × List ((Int × Int)) × Unit × List ((Int × Int)) × Int × Int) × (Unit × List (List ((Int × Int)))))) : Option (Unit × (Unit × List (List ((Int × Int))))) := loopO (fun v => (F70_L3_step recv v).run) v
noncomputable def F70_t (recv : ((Int × List ((Int × Int)) × List ((Int × Int)) × Unit) × (Unit × List (List ((Int × Int))))) → Option (Unit × (Unit × List (List ((Int × Int)))))) : ((Int × List ((Int × Int)) × List ((Int × Int)) × Unit) × (Unit × List (List ((Int × Int))))) → T (Unit × (Unit × List (List ((Int × Int))))) := fun ((n, all, begin, ()), ((), out_r)) =>
 (.test ((begin.length : Int) == (w64 (n - 3)))
 (.test true
 (.test (decide ((2 * ((0 + begin.length) * (16 + 1))) ≤ 140737488355328))
 (.test (decide ((0 + (0 + begin.length)) ≤ (List.length ((win (List.replicate 0 ((0 : Int), (0 : Int))) 0 0) ++ begin))))
 (.test (decide (1 ≤ (List.length (List.set (List.replicate 1 ([] : List (Int × Int))) 0 (win ((win (List.replicate 0 ((0 : Int), (0 : Int))) 0 0) ++ begin) 0 (0 + begin.length))))))
 (.test (decide ((0 + out_r.length) ≤ out_r.length))
 (.test (decide ((2 * ((out_r.length + (List.length (win (List.set (List.replicate 1 ([] : List (Int × Int))) 0 (win ((win (List.replicate 0 ((0 : Int), (0 : Int))) 0 0) ++ begin) 0 (0 + begin.length))) 0 1))) * (24 + 1))) ≤ 140737488355328))
 (.test (decide ((0 = 0) ∧ ((out_r.length + (List.length (win (List.set (List.replicate 1 ([] : List (Int × Int))) 0 (win ((win (List.replicate 0 ((0 : Int), (0 : Int))) 0 0) ++ begin) 0 (0 + begin.length))) 0 1))) = (List.length ((win out_r 0 out_r.length) ++ (win (List.set (List.replicate 1 ([] : List (Int × Int))) 0 (win ((win (List.replicate 0 ((0 : Int), (0 : Int))) 0 0) ++ begin) 0 (0 + begin.length))) 0 1))))))
 (.ret ((), ((), ((win out_r 0 out_r.length) ++ (win (List.set (List.replicate 1 ([] : List (Int × Int))) 0 (win ((win (List.replicate 0 ((0 : Int), (0 : Int))) 0 0) ++ begin) 0 (0 + begin.length))) 0 1)))))
 .fail)
 .fail)
 .fail)
 .fail)
 .fail)
 .fail)
 .fail)
 (.test (decide ((0 = 0) ∧ (out_r.length = out_r.length)))
 (.sub (F70_L3 recv ((n, (all, (begin, ((), (all, ((all.length : Int), (0 : Int))))))), ((), out_r))) fun z0 =>
 (.test (decide ((0 = 0) ∧ (z0.2.2.length = z0.2.2.length)))
 (.ret ((), ((), z0.2.2)))
 .fail))
 .fail))
noncomputable def F70_f (recv : ((Int × List ((Int × Int)) × List ((Int × Int)) × Unit) × (Unit × List (List ((Int × Int))))) → Option (Unit × (Unit × List (List ((Int × Int)))))) (v : ((Int × List ((Int × Int)) × List ((Int × Int)) × Unit) × (Unit × List (List ((Int × Int)))))) : Option (Unit × (Unit × List (List ((Int × Int))))) := (F70_t recv v).run
noncomputable def F70 : ((Int × List ((Int × Int)) × List ((Int × Int)) × Unit) × (Unit × List (List ((Int × Int))))) → Option (Unit × (Unit × List (List ((Int × Int))))) := recF F70_f
noncomputable def F70_E (recv : ((Int × List ((Int × Int)) × List ((Int × Int)) × Unit) × (Unit × List (List ((Int × Int))))) → Option (Unit × (Unit × List (List ((Int × Int)))))) : TEnv := ((E0.add1 n_F83 F83_sh F83_fo F83).add1 n_F95 F70_sh F70_fo recv)
theorem F70_Eok (recv : ((Int × List ((Int × Int)) × List ((Int × Int)) × Unit) × (Unit × List (List ((Int × Int))))) → Option (Unit × (Unit × List (List ((Int × Int)))))) (hrec : FOK Tryz.prog n_F95 F70_sh F70_fo recv) : (F70_E recv).OK := ((E0ok.add1 F83_ok).add1 hrec)
noncomputable def F70_told (recv : ((Int × List ((Int × Int)) × List ((Int × Int)) × Unit) × (Unit × List (List ((Int × Int))))) → Option (Unit × (Unit × List (List ((Int × Int)))))) : Nat → Option SealT := fun id => if id = 7 then some (LSh.told F70_L7_sh 2 (F70_L7_step recv)) else if id = 3 then some (LSh.told F70_L3_sh 2 (F70_L3_step recv)) else none
theorem F70_L7_ok (recv : ((Int × List ((Int × Int)) × List ((Int × Int)) × Unit) × (Unit × List (List ((Int × Int))))) → Option (Unit × (Unit × List (List ((Int × Int)))))) (hrec : FOK Tryz.prog n_F95 F70_sh F70_fo recv) : ToldOK Tryz.prog 2 (loopAt (bodyOf fn_F95) [0, 0]) (LSh.told F70_L7_sh 2 (F70_L7_step recv)) :=
 loop_ok (E := F70_E recv) (F70_Eok recv hrec) (told := F70_told recv) (l := F70_L7_sh) (step := F70_L7_step recv) (loopsOK_of (ls := []) (by kernel_rfl) trivial) (by kernel_rfl) (fun v => by kernel_rfl)
theorem F70_L3_ok (recv : ((Int × List ((Int × Int)) × List ((Int × Int)) × Unit) × (Unit × List (List ((Int × Int))))) → Option (Unit × (Unit × List (List ((Int × Int)))))) (hrec : FOK Tryz.prog n_F95 F70_sh F70_fo recv) : ToldOK Tryz.prog 2 (loopAt (bodyOf fn_F95) [0]) (LSh.told F70_L3_sh 2 (F70_L3_step recv)) :=
 loop_ok (E := F70_E recv) (F70_Eok recv hrec) (told := F70_told recv) (l := F70_L3_sh) (step := F70_L3_step recv) (loopsOK_of (ls := [loopAt (bodyOf fn_F95) [0, 0]]) (by kernel_rfl) ⟨.inr ⟨_, by kernel_rfl, F70_L7_ok recv hrec⟩, trivial⟩) (by kernel_rfl) (fun v => by kernel_rfl)
theorem F70_okr (recv : ((Int × List ((Int × Int)) × List ((Int × Int)) × Unit) × (Unit × List (List ((Int × Int))))) → Option (Unit × (Unit × List (List ((Int × Int)))))) (hrec : FOK Tryz.prog n_F95 F70_sh F70_fo recv) : FOK Tryz.prog n_F95 F70_sh F70_fo (F70_f recv) :=
 fn_ok (E := F70_E recv) (F70_Eok recv hrec) (told := F70_told recv) (fl := []) (c := bodyOf fn_F95) (s := F70_sh) (l := F70_fo) (tree := F70_t recv) fnat_F95 (by kernel_rfl) (by kernel_rfl) (by kernel_rfl) (loopsOK_of (ls := [loopAt (bodyOf fn_F95) [0]]) (by kernel_rfl) ⟨.inr ⟨_, by kernel_rfl, F70_L3_ok recv hrec⟩, trivial⟩) (fun v => by kernel_rfl)
theorem F70_ok : FOK Tryz.prog n_F95 F70_sh F70_fo F70 := FOK.rec (fun F h => F70_okr F h) recLim
theorem F70_free (recv : _ → Option _) (n : Int) (all b : List Dg) (i t29 t30 : Int) (t28 : List Dg) (d : Dg) (out : List (List Dg)) (hb : b.length < 1000000) :
  F70_L7 recv ((n, (all, (b, ((), (i, ((), (true, (t28, (t29, (t30, (b, ((b.length : Int), (0 : Int))))))))))))), ((), (out, d))) = some ((n, (all, (b, ((), (i, ((), (freeD d b, (t28, (t29, t30))))))))), ((), (out, d))) := by
 obtain ⟨d0, d1⟩ := d
 have key : ∀ m k (f : Bool), k + m = b.length → F70_L7 recv ((n, (all, (b, ((), (i, ((), (f, (t28, (t29, (t30, (b, ((b.length : Int), (k : Int))))))))))))), ((), (out, (d0, d1)))) = some ((n, (all, (b, ((), (i, ((), ((f && !(b.drop k).any (crossD (d0, d1))), (t28, (t29, t30))))))))), ((), (out, (d0, d1)))) := by
  intro m
  induction m with
  | zero =>
   intro k f hk
   have : k = b.length := by omega
   subst this
   simp only [F70_L7]
   exact loopO_done (by simp [F70_L7_step, T.run])
  | succ m ih =>
   intro k f hk
   have hlt : k < b.length := by omega
   have c0 : (k : Int) < (b.length : Int) := by omega
   have c1 : (0 : Int) ≤ (k : Int) ∧ (k : Int) < (b.length : Int) := by omega
   have w1 : w64 ((k : Int) + 1) = ((k + 1 : Nat) : Int) := by rw [w64_id (by omega) (by omega)]; omega
   rw [drop_gD hlt, List.any_cons]
   have ih := ih (k + 1) (f && !crossD (d0, d1) (gD b k)) (by omega)
   simp only [F70_L7] at ih ⊢
   have st : (F70_L7_step recv ((n, (all, (b, ((), (i, ((), (f, (t28, (t29, (t30, (b, ((b.length : Int), (k : Int))))))))))))), ((), (out, (d0, d1))))).run =
     some (.inl ((n, (all, (b, ((), (i, ((), ((f && !crossD (d0, d1) (gD b k)), (t28, (t29, (t30, (b, ((b.length : Int), ((k + 1 : Nat) : Int))))))))))))), ((), (out, (d0, d1))))) := by
    cases f with
    | true => simp only [F70_L7_step, T.run, c0, c1, decide_true, if_true, and_self, true_and, Int.toNat_natCast, gD_some hlt, Option.bind_some, F83_eq, w1, Bool.true_and]
    | false => simp only [F70_L7_step, T.run, c0, c1, decide_true, if_true, and_self, true_and, Int.toNat_natCast, gD_some hlt, Option.bind_some, w1, Bool.false_and, Bool.false_eq_true, if_false]
   rw [loopO_next st, ih]
   congr 2
   cases f <;> cases crossD (d0, d1) (gD b k) <;> simp
 have := key b.length 0 true (by omega)
 simpa [freeD] using this
theorem F70_loop (n : Nat) (t b : List Dg) (recv : _ → Option _) (hn : 3 ≤ n ∧ n ≤ 9) (ht : t.length ≤ 27) (hb : b.length < 1000) :
  ∀ (m i : Nat) (out : List (List Dg)), i + m = t.length → out.length + 2 ^ m ≤ 1000000000 →
  (∀ (j : Nat) (out : List (List Dg)), i ≤ j → j < t.length → out.length + 2 ^ (t.length - (j + 1)) ≤ 1000000000 →
   recv (((n : Int), (t.drop (j + 1), (b ++ [gD t j], ()))), ((), out)) = some ((), ((), out ++ lookL (n - 3) (t.drop (j + 1)) (b ++ [gD t j])))) →
  F70_L3 recv (((n : Int), (t, (b, ((), (t, ((t.length : Int), (i : Int))))))), ((), out)) = some ((), ((), out ++ goL (n - 3) (t.drop i) b))
 | 0, i, out, hi, ho, hr => by
  have : i = t.length := by omega
  subst this
  rw [List.drop_length]
  simp only [F70_L3, goL, List.append_nil]
  exact loopO_done (by simp [F70_L3_step, T.run])
 | m + 1, i, out, hi, ho, hr => by
  have hlt : i < t.length := by omega
  have c0 : (i : Int) < (t.length : Int) := by omega
  have c2 : (0 : Int) ≤ (i : Int) ∧ (i : Int) < (t.length : Int) := by omega
  have w1 : w64 ((i : Int) + 1) = ((i + 1 : Nat) : Int) := by rw [w64_id (by omega) (by omega)]; omega
  have hp : 2 ^ (m + 1) = 2 ^ m + 2 ^ m := by rw [Nat.pow_succ]; omega
  have hp0 : 1 ≤ 2 ^ m := Nat.one_le_two_pow
  have hm : m = t.length - (i + 1) := by omega
  have hfree := F70_free recv (n : Int) t b (i : Int) (t.length : Int) (i : Int) t (gD t i) out (by omega)
  rw [drop_gD hlt, goL_cons]
  cases hf : freeD (gD t i) b with
  | false =>
   have ih := F70_loop n t b recv hn ht hb m (i + 1) out (by omega) (by omega) (fun j o h1 h2 h3 => hr j o (by omega) h2 h3)
   rw [hf] at hfree
   simp only [Bool.false_eq_true, if_false, List.nil_append]
   simp only [F70_L3] at ih ⊢
   rw [← ih]
   refine loopO_next ?_
   simp only [F70_L3_step, T.run, c0, c2, decide_true, if_true, true_and, and_self, Int.toNat_natCast, gD_some hlt, Option.bind_some, hfree, Bool.false_eq_true, if_false, w1]
  | true =>
   have hrec := hr i out (Nat.le_refl _) hlt (by rw [← hm]; omega)
   have hll := look_pow (t := t) (b := b ++ [gD t i]) (i := i) (k := n - 3) hm
   have ih := F70_loop n t b recv hn ht hb m (i + 1) (out ++ lookL (n - 3) (t.drop (i + 1)) (b ++ [gD t i])) (by omega) (by rw [List.length_append]; omega) (fun j o h1 h2 h3 => hr j o (by omega) h2 h3)
   rw [hf] at hfree
   simp only [if_true]
   rw [← List.append_assoc]
   simp only [F70_L3] at ih ⊢
   rw [← ih]
   refine loopO_next ?_
   have c1 : (0 : Int) ≤ ((i + 1 : Nat) : Int) := by omega
   have c3 : i + 1 ≤ t.length ∧ t.length ≤ t.length := by omega
   have c4 : 2 * ((0 + b.length) * (16 + 1)) ≤ 140737488355328 := by omega
   have c5 : 2 * ((0 + b.length + 1) * (16 + 1)) ≤ 140737488355328 := by omega
   have hw0 : win ([] : List Dg) 0 0 = [] := rfl
   have hw1 : win b 0 (0 + b.length) = b := by rw [Nat.zero_add]; exact win_all _
   have hl1 : (b ++ [gD t i]).length = 0 + b.length + 1 := by simp
   have hw2 : win (b ++ [gD t i]) 0 (0 + b.length + 1) = b ++ [gD t i] := by rw [← hl1]; exact win_all _
   have hw3 : win t (i + 1) (t.length - (i + 1)) = t.drop (i + 1) := by unfold win; rw [List.take_of_length_le (by rw [List.length_drop]; omega)]
   simp only [F70_L3_step, T.run, c0, c1, c2, c3, c4, c5, decide_true, if_true, true_and, and_self, Int.toNat_natCast, gD_some hlt, Option.bind_some, hfree, w1, List.replicate_zero, hw0, List.nil_append, hw1, win_one, List.length_cons, List.length_nil, hw2, hw3, hrec, List.length_set, List.length_replicate, Nat.le_refl, List.length_append]
   simp
theorem F70_eq (n : Nat) (hn : 3 ≤ n ∧ n ≤ 9) : ∀ (k : Nat) (t b : List Dg) (out : List (List Dg)), t.length ≤ 27 → t.length < k → b.length + t.length < 100 → out.length + 2 ^ t.length ≤ 1000000000 →
  recN F70_f k (((n : Int), (t, (b, ()))), ((), out)) = some ((), ((), out ++ lookL (n - 3) t b))
 | 0, t, b, out, ht, hk, hb, ho => absurd hk (Nat.not_lt_zero _)
 | k + 1, t, b, out, ht, hk, hb, ho => by
  show F70_f (recN F70_f k) _ = _
  have hp : 1 ≤ 2 ^ t.length := Nat.one_le_two_pow
  have w0 : w64 ((n : Int) - 3) = ((n - 3 : Nat) : Int) := by rw [w64_id (by omega) (by omega)]; omega
  simp only [F70_f, F70_t, T.run, w0]
  by_cases hl : b.length = n - 3
  ·have e : ((b.length : Int) == ((n - 3 : Nat) : Int)) = true := by simp; omega
   have c1 : 2 * ((out.length + 1) * (24 + 1)) ≤ 140737488355328 := by omega
   have c2 : 2 * (b.length * (16 + 1)) ≤ 140737488355328 := by omega
   have hone : win (List.set (List.replicate 1 ([] : List Dg)) 0 b) 0 1 = [b] := rfl
   have hw0 : win ([] : List Dg) 0 0 = [] := rfl
   have hw1 : win b 0 (0 + b.length) = b := by rw [Nat.zero_add]; exact win_all _
   unfold lookL
   rw [if_pos hl]
   simp only [e, if_true, List.replicate_zero, hw0, List.nil_append, hw1, c2, decide_true, hone, List.length_cons, List.length_nil, c1, win_all, List.length_set, List.length_replicate, Nat.le_refl, List.length_append, true_and, Nat.zero_add]
  ·have e : ((b.length : Int) == ((n - 3 : Nat) : Int)) = false := by simp; omega
   unfold lookL
   rw [if_neg hl]
   have h3 := F70_loop n t b (recN F70_f k) hn ht (by omega) t.length 0 out (by omega) ho (fun j o h1 h2 h3 => by
    exact F70_eq n hn k (t.drop (j + 1)) (b ++ [gD t j]) o (by rw [List.length_drop]; omega) (by rw [List.length_drop]; omega) (by rw [List.length_drop, List.length_append, List.length_cons, List.length_nil]; omega) (by rw [List.length_drop]; exact h3))
   rw [List.drop_zero, Int.natCast_zero] at h3
   simp only [e, Bool.false_eq_true, if_false, true_and, decide_true, if_true, h3, Option.bind_some]
def F95_sh : FSh := ⟨[(.one (.si .i64)), (.one (.sl (.pair (.int .i64) (.int .i64)) false false)), (.one (.sl (.pair (.int .i64) (.int .i64)) false false)), (.one (.pf 0 0 0))], [(.rcd 0 [(.nl true true)])]⟩
def F95_L7_sh : LSh := ⟨(fun ex => match ex with | .norm => [(0, none), (1, none), (2, none), (3, none), (8, none), (9, none), (10, none), (28, none), (29, none), (30, none), (35, none), (36, none), (37, none)] | .exit i => if i = 2 then [(0, none), (1, none), (2, none), (3, none), (8, none), (9, none), (10, none), (28, none), (29, none), (30, none)] else if i = 1 then [(0, none), (1, none), (2, none), (3, none), (28, none), (29, none), (30, none)] else if i = 0 then [] else [] | .ret => []), [(0, (.one (.si .i64))), (1, (.one (.sl (.pair (.int .i64) (.int .i64)) false false))), (2, (.one (.sl (.pair (.int .i64) (.int .i64)) false false))), (3, (.one (.pf 0 0 0))), (8, (.one (.si .i64))), (9, (.one (.pf 2 0 0))), (10, (.one .sb)), (28, (.one (.sl (.pair (.int .i64) (.int .i64)) false false))), (29, (.one (.si .i64))), (30, (.one (.si .i64))), (35, (.one (.sl (.pair (.int .i64) (.int .i64)) false false))), (36, (.one (.si .i64))), (37, (.one (.si .i64)))], [(.rcd 0 [(.rw 1 0)]), (.row 0 (.list true (.pair (.int .i64) (.int .i64)))), (.rcd 0 [(.si .i64), (.si .i64)])], [⟨(.exit 2), [(0, (.one (.si .i64))), (1, (.one (.sl (.pair (.int .i64) (.int .i64)) false false))), (2, (.one (.sl (.pair (.int .i64) (.int .i64)) false false))), (3, (.one (.pf 0 0 0))), (8, (.one (.si .i64))), (9, (.one (.pf 2 0 0))), (10, (.one .sb)), (28, (.one (.sl (.pair (.int .i64) (.int .i64)) false false))), (29, (.one (.si .i64))), (30, (.one (.si .i64)))], [(.rcd 0 [(.rw 1 0)]), (.row 0 (.list true (.pair (.int .i64) (.int .i64)))), (.rcd 0 [(.si .i64), (.si .i64)])]⟩], [], []⟩
noncomputable def F95_L7_step : ((Int × List ((Int × Int)) × List ((Int × Int)) × Unit × Int × Unit × Bool × List ((Int × Int)) × Int × Int × List ((Int × Int)) × Int × Int) × (Unit × List (List ((Int × Int))) × (Int × Int))) → T (((Int × List ((Int × Int)) × List ((Int × Int)) × Unit × Int × Unit × Bool × List ((Int × Int)) × Int × Int × List ((Int × Int)) × Int × Int) × (Unit × List (List ((Int × Int))) × (Int × Int))) ⊕ ((Int × List ((Int × Int)) × List ((Int × Int)) × Unit × Int × Unit × Bool × List ((Int × Int)) × Int × Int) × (Unit × List (List ((Int × Int))) × (Int × Int)))) := fun ((n, all, begin, (), i, (), free, t28, t29, t30, t35, t36, t37), ((), out_r, (d_0, d_1))) =>
 (.test (decide (t37 < t36))
 (.test (decide ((0 ≤ t37) ∧ (t37 < (t35.length : Int))))
 (.sub (t35[(Int.toNat t37)]?) fun z0 =>
 (.test free
 (.sub (F83 ((d_0, d_1), (z0.1, z0.2))) fun z1 =>
 (.test (decide ((0 = 0) ∧ (out_r.length = out_r.length)))
 (.ret (Sum.inl ((n, (all, (begin, ((), (i, ((), ((! z1), (t28, (t29, (t30, (t35, (t36, (w64 (t37 + 1)))))))))))))), ((), (out_r, (d_0, d_1))))))
 .fail))
 (.test (decide ((0 = 0) ∧ (out_r.length = out_r.length)))
 (.ret (Sum.inl ((n, (all, (begin, ((), (i, ((), (false, (t28, (t29, (t30, (t35, (t36, (w64 (t37 + 1)))))))))))))), ((), (out_r, (d_0, d_1))))))
 .fail)))
 .fail)
 (.test (decide ((0 = 0) ∧ (out_r.length = out_r.length)))
 (.ret (Sum.inr ((n, (all, (begin, ((), (i, ((), (free, (t28, (t29, t30))))))))), ((), (out_r, (d_0, d_1))))))
 .fail))
noncomputable def F95_L7 (v) := loopO (fun v => (F95_L7_step v).run) v
def F95_L3_sh : LSh := ⟨(fun ex => match ex with | .norm => [(0, none), (1, none), (2, none), (3, none), (28, none), (29, none), (30, none)] | .exit i => if i = 0 then [] else [] | .ret => []), [(0, (.one (.si .i64))), (1, (.one (.sl (.pair (.int .i64) (.int .i64)) false false))), (2, (.one (.sl (.pair (.int .i64) (.int .i64)) false false))), (3, (.one (.pf 0 0 0))), (28, (.one (.sl (.pair (.int .i64) (.int .i64)) false false))), (29, (.one (.si .i64))), (30, (.one (.si .i64)))], [(.rcd 0 [(.rw 1 0)]), (.row 0 (.list true (.pair (.int .i64) (.int .i64))))], [⟨(.exit 0), [], [(.rcd 0 [(.rw 1 0)]), (.row 0 (.list true (.pair (.int .i64) (.int .i64))))]⟩], [(0, 0, (.list true (.pair (.int .i64) (.int .i64))))], []⟩
noncomputable def F95_L3_step : ((Int × List ((Int × Int)) × List ((Int × Int)) × Unit × List ((Int × Int)) × Int × Int) × (Unit × List (List ((Int × Int))))) → T (((Int × List ((Int × Int)) × List ((Int × Int)) × Unit × List ((Int × Int)) × Int × Int) × (Unit × List (List ((Int × Int))))) ⊕ (Unit × (Unit × List (List ((Int × Int)))))) := fun ((n, all, begin, (), t28, t29, t30), ((), out_r)) =>
 (.test (decide (t30 < t29))
 (.test (decide ((0 ≤ t30) ∧ (t30 < (t28.length : Int))))
 (.sub (t28[(Int.toNat t30)]?) fun z0 =>
 (.test (decide ((0 = 0) ∧ (out_r.length = out_r.length)))
 (.sub (F95_L7 ((n, (all, (begin, ((), (t30, ((), (true, (t28, (t29, (t30, (begin, ((begin.length : Int), (0 : Int))))))))))))), ((), (out_r, (z0.1, z0.2))))) fun z1 =>
 (.test z1.1.2.2.2.2.2.2.1
 (.test (decide (0 ≤ (w64 (z1.1.2.2.2.2.1 + 1))))
 (.test (decide (((Int.toNat (w64 (z1.1.2.2.2.2.1 + 1))) ≤ z1.1.2.1.length) ∧ (z1.1.2.1.length ≤ z1.1.2.1.length)))
 (.test true
 (.test (decide ((2 * ((0 + z1.1.2.2.1.length) * 17)) ≤ 140737488355328))
 (.test (decide (1 ≤ (List.length (List.set (List.replicate 1 ((0 : Int), (0 : Int))) 0 (z1.2.2.2.1, z1.2.2.2.2)))))
 (.test (decide ((0 + (0 + z1.1.2.2.1.length)) ≤ (List.length ((win (List.replicate 0 ((0 : Int), (0 : Int))) 0 0) ++ z1.1.2.2.1))))
 (.test (decide ((2 * (((0 + z1.1.2.2.1.length) + (List.length (win (List.set (List.replicate 1 ((0 : Int), (0 : Int))) 0 (z1.2.2.2.1, z1.2.2.2.2)) 0 1))) * 17)) ≤ 140737488355328))
 (.test (decide ((0 + ((0 + z1.1.2.2.1.length) + (List.length (win (List.set (List.replicate 1 ((0 : Int), (0 : Int))) 0 (z1.2.2.2.1, z1.2.2.2.2)) 0 1)))) ≤ (List.length ((win ((win (List.replicate 0 ((0 : Int), (0 : Int))) 0 0) ++ z1.1.2.2.1) 0 (0 + z1.1.2.2.1.length)) ++ (win (List.set (List.replicate 1 ((0 : Int), (0 : Int))) 0 (z1.2.2.2.1, z1.2.2.2.2)) 0 1)))))
 (.test (decide ((0 = 0) ∧ (z1.2.2.1.length = z1.2.2.1.length)))
 (.sub (F70 ((z1.1.1, ((win z1.1.2.1 (Int.toNat (w64 (z1.1.2.2.2.2.1 + 1))) (z1.1.2.1.length - (Int.toNat (w64 (z1.1.2.2.2.2.1 + 1))))), ((win ((win ((win (List.replicate 0 ((0 : Int), (0 : Int))) 0 0) ++ z1.1.2.2.1) 0 (0 + z1.1.2.2.1.length)) ++ (win (List.set (List.replicate 1 ((0 : Int), (0 : Int))) 0 (z1.2.2.2.1, z1.2.2.2.2)) 0 1)) 0 ((0 + z1.1.2.2.1.length) + (List.length (win (List.set (List.replicate 1 ((0 : Int), (0 : Int))) 0 (z1.2.2.2.1, z1.2.2.2.2)) 0 1)))), ()))), ((), z1.2.2.1))) fun z2 =>
 (.test (decide ((0 = 0) ∧ (z2.2.2.length = z2.2.2.length)))
 (.ret (Sum.inl ((z1.1.1, (z1.1.2.1, (z1.1.2.2.1, ((), (z1.1.2.2.2.2.2.2.2.1, (z1.1.2.2.2.2.2.2.2.2.1, (w64 (z1.1.2.2.2.2.2.2.2.2.2 + 1)))))))), ((), z2.2.2))))
 .fail))
 .fail)
 .fail)
 .fail)
 .fail)
 .fail)
 .fail)
 .fail)
 .fail)
 .fail)
 (.test (decide ((0 = 0) ∧ (z1.2.2.1.length = z1.2.2.1.length)))
 (.ret (Sum.inl ((z1.1.1, (z1.1.2.1, (z1.1.2.2.1, ((), (z1.1.2.2.2.2.2.2.2.1, (z1.1.2.2.2.2.2.2.2.2.1, (w64 (z1.1.2.2.2.2.2.2.2.2.2 + 1)))))))), ((), z1.2.2.1))))
 .fail)))
 .fail))
 .fail)
 (.test (decide ((0 = 0) ∧ (out_r.length = out_r.length)))
 (.ret (Sum.inr ((), ((), out_r))))
 .fail))
noncomputable def F95_L3 (v) := loopO (fun v => (F95_L3_step v).run) v
def F95_fo : List FO := [⟨[], [(.rcd 0 [(.rw 1 0)]), (.row 0 (.list true (.pair (.int .i64) (.int .i64))))]⟩]
noncomputable def F95_t : ((Int × List ((Int × Int)) × List ((Int × Int)) × Unit) × Unit) → T (Unit × (Unit × List (List ((Int × Int))))) := fun ((n, all, begin, ()), ()) =>
 (.test ((begin.length : Int) == (w64 (n - 3)))
 (.test true
 (.test (decide ((2 * ((0 + begin.length) * 17)) ≤ 140737488355328))
 (.test (decide ((0 + (0 + begin.length)) ≤ (List.length ((win (List.replicate 0 ((0 : Int), (0 : Int))) 0 0) ++ begin))))
 (.test (decide (1 ≤ (List.length (List.set (List.replicate 1 ([] : List (Int × Int))) 0 (win ((win (List.replicate 0 ((0 : Int), (0 : Int))) 0 0) ++ begin) 0 (0 + begin.length))))))
 (.test (decide (¬ (((List.length (win (List.set (List.replicate 1 ([] : List (Int × Int))) 0 (win ((win (List.replicate 0 ((0 : Int), (0 : Int))) 0 0) ++ begin) 0 (0 + begin.length))) 0 1)) = 0) ∧ (0 ≠ 0))))
 (.test (decide ((2 * ((0 + (List.length (win (List.set (List.replicate 1 ([] : List (Int × Int))) 0 (win ((win (List.replicate 0 ((0 : Int), (0 : Int))) 0 0) ++ begin) 0 (0 + begin.length))) 0 1))) * 25)) ≤ 140737488355328))
 (.test (decide ((0 = 0) ∧ ((0 + (List.length (win (List.set (List.replicate 1 ([] : List (Int × Int))) 0 (win ((win (List.replicate 0 ((0 : Int), (0 : Int))) 0 0) ++ begin) 0 (0 + begin.length))) 0 1))) = (List.length (([] : List (List (Int × Int))) ++ (win (List.set (List.replicate 1 ([] : List (Int × Int))) 0 (win ((win (List.replicate 0 ((0 : Int), (0 : Int))) 0 0) ++ begin) 0 (0 + begin.length))) 0 1))))))
 (.ret ((), ((), (([] : List (List (Int × Int))) ++ (win (List.set (List.replicate 1 ([] : List (Int × Int))) 0 (win ((win (List.replicate 0 ((0 : Int), (0 : Int))) 0 0) ++ begin) 0 (0 + begin.length))) 0 1)))))
 .fail)
 .fail)
 .fail)
 .fail)
 .fail)
 .fail)
 .fail)
 (.test true
 (.sub (F95_L3 ((n, (all, (begin, ((), (all, ((all.length : Int), (0 : Int))))))), ((), ([] : List (List (Int × Int)))))) fun z0 =>
 (.test (decide ((0 = 0) ∧ (z0.2.2.length = z0.2.2.length)))
 (.ret ((), ((), z0.2.2)))
 .fail))
 .fail))
noncomputable def F95 (v) := (F95_t v).run
noncomputable def F95_E : TEnv := ((E0.add1 n_F83 F83_sh F83_fo F83).add1 n_F95 F70_sh F70_fo F70)
theorem F95_Eok : (F95_E).OK := ((E0ok.add1 F83_ok).add1 F70_ok)
noncomputable def F95_told : Nat → Option SealT := fun id => if id = 7 then some (LSh.told F95_L7_sh 1 (F95_L7_step)) else if id = 3 then some (LSh.told F95_L3_sh 1 (F95_L3_step)) else none
theorem F95_L7_ok : ToldOK Tryz.prog 1 (loopAt (bodyOf fn_F95) [0, 0]) (LSh.told F95_L7_sh 1 (F95_L7_step)) :=
 loop_ok (E := F95_E) (F95_Eok) (told := F95_told) (l := F95_L7_sh) (step := F95_L7_step) (loopsOK_of (ls := []) (by kernel_rfl) trivial) (by kernel_rfl) (fun v => by kernel_rfl)
theorem F95_L3_ok : ToldOK Tryz.prog 1 (loopAt (bodyOf fn_F95) [0]) (LSh.told F95_L3_sh 1 (F95_L3_step)) :=
 loop_ok (E := F95_E) (F95_Eok) (told := F95_told) (l := F95_L3_sh) (step := F95_L3_step) (loopsOK_of (ls := [loopAt (bodyOf fn_F95) [0, 0]]) (by kernel_rfl) ⟨.inr ⟨_, by kernel_rfl, F95_L7_ok⟩, trivial⟩) (by kernel_rfl) (fun v => by kernel_rfl)
theorem F95_ok : FOK Tryz.prog n_F95 F95_sh F95_fo F95 :=
 fn_ok (E := F95_E) (F95_Eok) (told := F95_told) (fl := []) (c := bodyOf fn_F95) (s := F95_sh) (l := F95_fo) (tree := F95_t) fnat_F95 (by kernel_rfl) (by kernel_rfl) (by kernel_rfl) (loopsOK_of (ls := [loopAt (bodyOf fn_F95) [0]]) (by kernel_rfl) ⟨.inr ⟨_, by kernel_rfl, F95_L3_ok⟩, trivial⟩) (fun v => by kernel_rfl)
theorem F95_free (n : Int) (all b : List Dg) (i t29 t30 : Int) (t28 : List Dg) (d : Dg) (out : List (List Dg)) (hb : b.length < 1000000) :
  F95_L7 ((n, (all, (b, ((), (i, ((), (true, (t28, (t29, (t30, (b, ((b.length : Int), (0 : Int))))))))))))), ((), (out, d))) = some ((n, (all, (b, ((), (i, ((), (freeD d b, (t28, (t29, t30))))))))), ((), (out, d))) := by
 obtain ⟨d0, d1⟩ := d
 have key : ∀ m k (f : Bool), k + m = b.length → F95_L7 ((n, (all, (b, ((), (i, ((), (f, (t28, (t29, (t30, (b, ((b.length : Int), (k : Int))))))))))))), ((), (out, (d0, d1)))) = some ((n, (all, (b, ((), (i, ((), ((f && !(b.drop k).any (crossD (d0, d1))), (t28, (t29, t30))))))))), ((), (out, (d0, d1)))) := by
  intro m
  induction m with
  | zero =>
   intro k f hk
   have : k = b.length := by omega
   subst this
   simp only [F95_L7]
   exact loopO_done (by simp [F95_L7_step, T.run])
  | succ m ih =>
   intro k f hk
   have hlt : k < b.length := by omega
   have c0 : (k : Int) < (b.length : Int) := by omega
   have c1 : (0 : Int) ≤ (k : Int) ∧ (k : Int) < (b.length : Int) := by omega
   have w1 : w64 ((k : Int) + 1) = ((k + 1 : Nat) : Int) := by rw [w64_id (by omega) (by omega)]; omega
   rw [drop_gD hlt, List.any_cons]
   have ih := ih (k + 1) (f && !crossD (d0, d1) (gD b k)) (by omega)
   simp only [F95_L7] at ih ⊢
   have st : (F95_L7_step ((n, (all, (b, ((), (i, ((), (f, (t28, (t29, (t30, (b, ((b.length : Int), (k : Int))))))))))))), ((), (out, (d0, d1))))).run =
     some (.inl ((n, (all, (b, ((), (i, ((), ((f && !crossD (d0, d1) (gD b k)), (t28, (t29, (t30, (b, ((b.length : Int), ((k + 1 : Nat) : Int))))))))))))), ((), (out, (d0, d1))))) := by
    cases f with
    | true => simp only [F95_L7_step, T.run, c0, c1, decide_true, if_true, and_self, true_and, Int.toNat_natCast, gD_some hlt, Option.bind_some, F83_eq, w1, Bool.true_and]
    | false => simp only [F95_L7_step, T.run, c0, c1, decide_true, if_true, and_self, true_and, Int.toNat_natCast, gD_some hlt, Option.bind_some, w1, Bool.false_and, Bool.false_eq_true, if_false]
   rw [loopO_next st, ih]
   congr 2
   cases f <;> cases crossD (d0, d1) (gD b k) <;> simp
 have := key b.length 0 true (by omega)
 simpa [freeD] using this
theorem F95_loop (n : Nat) (t b : List Dg) (hn : 3 ≤ n ∧ n ≤ 9) (ht : t.length ≤ 27) (hb : b.length < 50) :
  ∀ (m i : Nat) (out : List (List Dg)), i + m = t.length → out.length + 2 ^ m ≤ 1000000000 →
  F95_L3 (((n : Int), (t, (b, ((), (t, ((t.length : Int), (i : Int))))))), ((), out)) = some ((), ((), out ++ goL (n - 3) (t.drop i) b))
 | 0, i, out, hi, ho => by
  have : i = t.length := by omega
  subst this
  rw [List.drop_length]
  simp only [F95_L3, goL, List.append_nil]
  exact loopO_done (by simp [F95_L3_step, T.run])
 | m + 1, i, out, hi, ho => by
  have hlt : i < t.length := by omega
  have c0 : (i : Int) < (t.length : Int) := by omega
  have c2 : (0 : Int) ≤ (i : Int) ∧ (i : Int) < (t.length : Int) := by omega
  have w1 : w64 ((i : Int) + 1) = ((i + 1 : Nat) : Int) := by rw [w64_id (by omega) (by omega)]; omega
  have hp : 2 ^ (m + 1) = 2 ^ m + 2 ^ m := by rw [Nat.pow_succ]; omega
  have hp0 : 1 ≤ 2 ^ m := Nat.one_le_two_pow
  have hm : m = t.length - (i + 1) := by omega
  have hfree := F95_free (n : Int) t b (i : Int) (t.length : Int) (i : Int) t (gD t i) out (by omega)
  rw [drop_gD hlt, goL_cons]
  cases hf : freeD (gD t i) b with
  | false =>
   have ih := F95_loop n t b hn ht hb m (i + 1) out (by omega) (by omega)
   rw [hf] at hfree
   simp only [Bool.false_eq_true, if_false, List.nil_append]
   simp only [F95_L3] at ih ⊢
   rw [← ih]
   refine loopO_next ?_
   simp only [F95_L3_step, T.run, c0, c2, decide_true, if_true, true_and, and_self, Int.toNat_natCast, gD_some hlt, Option.bind_some, hfree, Bool.false_eq_true, if_false, w1]
  | true =>
   have hll := look_pow (t := t) (b := b ++ [gD t i]) (i := i) (k := n - 3) hm
   have hrec : F70 (((n : Int), (t.drop (i + 1), (b ++ [gD t i], ()))), ((), out)) = some ((), ((), out ++ lookL (n - 3) (t.drop (i + 1)) (b ++ [gD t i]))) :=
    F70_eq n hn recLim (t.drop (i + 1)) (b ++ [gD t i]) out (by rw [List.length_drop]; omega) (by rw [List.length_drop]; unfold recLim; omega) (by rw [List.length_drop, List.length_append, List.length_cons, List.length_nil]; omega) (by rw [List.length_drop, ← hm]; omega)
   have ih := F95_loop n t b hn ht hb m (i + 1) (out ++ lookL (n - 3) (t.drop (i + 1)) (b ++ [gD t i])) (by omega) (by rw [List.length_append]; omega)
   rw [hf] at hfree
   simp only [if_true]
   rw [← List.append_assoc]
   simp only [F95_L3] at ih ⊢
   rw [← ih]
   refine loopO_next ?_
   have c1 : (0 : Int) ≤ ((i + 1 : Nat) : Int) := by omega
   have c3 : i + 1 ≤ t.length ∧ t.length ≤ t.length := by omega
   have c4 : 2 * ((0 + b.length) * 17) ≤ 140737488355328 := by omega
   have c5 : 2 * ((0 + b.length + 1) * 17) ≤ 140737488355328 := by omega
   have hw0 : win ([] : List Dg) 0 0 = [] := rfl
   have hw1 : win b 0 (0 + b.length) = b := by rw [Nat.zero_add]; exact win_all _
   have hl1 : (b ++ [gD t i]).length = 0 + b.length + 1 := by simp
   have hw2 : win (b ++ [gD t i]) 0 (0 + b.length + 1) = b ++ [gD t i] := by rw [← hl1]; exact win_all _
   have hw3 : win t (i + 1) (t.length - (i + 1)) = t.drop (i + 1) := by unfold win; rw [List.take_of_length_le (by rw [List.length_drop]; omega)]
   simp only [F95_L3_step, T.run, c0, c1, c2, c3, c4, c5, decide_true, if_true, true_and, and_self, Int.toNat_natCast, gD_some hlt, Option.bind_some, hfree, w1, List.replicate_zero, hw0, List.nil_append, hw1, win_one, List.length_cons, List.length_nil, hw2, hw3, hrec, List.length_set, List.length_replicate, Nat.le_refl, List.length_append]
   simp
theorem F95_eq (n : Nat) (hn : 3 ≤ n ∧ n ≤ 9) (t : List Dg) (ht : t.length ≤ 27) : F95 (((n : Int), (t, (([] : List Dg), ()))), ()) = some ((), ((), lookL (n - 3) t [])) := by
 have w0 : w64 ((n : Int) - 3) = ((n - 3 : Nat) : Int) := by rw [w64_id (by omega) (by omega)]; omega
 simp only [F95, F95_t, T.run, w0]
 by_cases hl : n = 3
 ·subst hl
  have hw0 : win ([] : List Dg) 0 0 = [] := rfl
  have hone : win (List.set (List.replicate 1 ([] : List Dg)) 0 ([] : List Dg)) 0 1 = [[]] := rfl
  have hw9 : win ([[]] : List (List Dg)) 0 1 = [[]] := rfl
  simp [lookL, hw0, hw9]
 ·have e : ((([] : List Dg).length : Int) == ((n - 3 : Nat) : Int)) = false := by simp; omega
  unfold lookL
  have hne : ¬ ([] : List Dg).length = n - 3 := by simp; omega
  rw [if_neg hne]
  have hp : 2 ^ t.length ≤ 2 ^ 27 := Nat.pow_le_pow_right (by omega) ht
  have h27 : (2 : Nat) ^ 27 = 134217728 := by decide
  have h3 := F95_loop n t [] hn ht (by simp) t.length 0 [] (by omega) (by simp only [List.length_nil]; omega)
  rw [List.drop_zero, Int.natCast_zero, List.nil_append] at h3
  simp only [e, Bool.false_eq_true, if_false, decide_true, if_true, h3, Option.bind_some, true_and]
def F111_sh : FSh := ⟨[(.one (.si .i64))], []⟩
def F111_L6_sh : LSh := ⟨(fun ex => match ex with | .norm => [(0, none), (3, none), (4, none), (5, none)] | .exit i => if i = 2 then [(0, none), (3, none), (4, none)] else if i = 1 then [(0, none), (3, none), (4, none)] else if i = 0 then [(0, none), (3, none)] else [] | .ret => [(2, none)]), [(0, (.one (.si .i64))), (3, (.one (.rw 0 0))), (4, (.one (.si .i64))), (5, (.one (.si .i64)))], [(.row 0 (.pair (.int .i64) (.int .i64)))], [⟨(.exit 2), [(0, (.one (.si .i64))), (3, (.one (.rw 0 0))), (4, (.one (.si .i64)))], [(.row 0 (.pair (.int .i64) (.int .i64)))]⟩], [], []⟩
noncomputable def F111_L6_step : ((Int × Unit × Int × Int) × List ((Int × Int))) → T (((Int × Unit × Int × Int) × List ((Int × Int))) ⊕ ((Int × Unit × Int) × List ((Int × Int)))) := fun ((n, (), a, b), all) =>
 (.test (decide (b < n))
 (.sub (F63 (n, (a, b))) fun z0 =>
 (.test z0
 (.test (decide (1 ≤ (List.length (List.set (List.replicate 1 ((0 : Int), (0 : Int))) 0 (a, b)))))
 (.test (decide ((0 + all.length) ≤ all.length))
 (.test (decide ((2 * ((all.length + (List.length (win (List.set (List.replicate 1 ((0 : Int), (0 : Int))) 0 (a, b)) 0 1))) * 17)) ≤ 140737488355328))
 (.test (decide ((0 = 0) ∧ ((all.length + (List.length (win (List.set (List.replicate 1 ((0 : Int), (0 : Int))) 0 (a, b)) 0 1))) = (List.length ((win all 0 all.length) ++ (win (List.set (List.replicate 1 ((0 : Int), (0 : Int))) 0 (a, b)) 0 1))))))
 (.ret (Sum.inl ((n, ((), (a, (w64 (b + 1))))), ((win all 0 all.length) ++ (win (List.set (List.replicate 1 ((0 : Int), (0 : Int))) 0 (a, b)) 0 1)))))
 .fail)
 .fail)
 .fail)
 .fail)
 (.test (decide ((0 = 0) ∧ (all.length = all.length)))
 (.ret (Sum.inl ((n, ((), (a, (w64 (b + 1))))), all)))
 .fail)))
 (.test (decide ((0 = 0) ∧ (all.length = all.length)))
 (.ret (Sum.inr ((n, ((), a)), all)))
 .fail))
noncomputable def F111_L6 (v) := loopO (fun v => (F111_L6_step v).run) v
def F111_L3_sh : LSh := ⟨(fun ex => match ex with | .norm => [(0, none), (3, none), (4, none)] | .exit i => if i = 0 then [(0, none), (3, none)] else [] | .ret => [(2, none)]), [(0, (.one (.si .i64))), (3, (.one (.rw 0 0))), (4, (.one (.si .i64)))], [(.row 0 (.pair (.int .i64) (.int .i64)))], [⟨(.exit 0), [(0, (.one (.si .i64))), (3, (.one (.rw 0 0)))], [(.row 0 (.pair (.int .i64) (.int .i64)))]⟩], [], []⟩
noncomputable def F111_L3_step : ((Int × Unit × Int) × List ((Int × Int))) → T (((Int × Unit × Int) × List ((Int × Int))) ⊕ ((Int × Unit) × List ((Int × Int)))) := fun ((n, (), a), all) =>
 (.test (decide (a < n))
 (.test (decide ((0 = 0) ∧ (all.length = all.length)))
 (.sub (F111_L6 ((n, ((), (a, (w64 (a + 2))))), all)) fun z0 =>
 (.test (decide ((0 = 0) ∧ (z0.2.length = z0.2.length)))
 (.ret (Sum.inl ((z0.1.1, ((), (w64 (z0.1.2.2 + 1)))), z0.2)))
 .fail))
 .fail)
 (.test (decide ((0 = 0) ∧ (all.length = all.length)))
 (.ret (Sum.inr ((n, ()), all)))
 .fail))
noncomputable def F111_L3 (v) := loopO (fun v => (F111_L3_step v).run) v
def F111_fo : List FO := [⟨[(.one (.rw 0 0))], [(.row 0 (.list true (.pair (.int .i64) (.int .i64))))]⟩]
noncomputable def F111_t : Int → T (Unit × List (List ((Int × Int)))) := fun n =>
 (.test true
 (.sub (F111_L3 ((n, ((), (0 : Int))), ([] : List (Int × Int)))) fun z0 =>
 (.test (decide ((0 + z0.2.length) ≤ z0.2.length))
 (.sub (F95 ((z0.1.1, ((win z0.2 0 z0.2.length), (([] : List (Int × Int)), ()))), ())) fun z1 =>
 (.test (decide ((0 = 0) ∧ (z1.2.2.length = z1.2.2.length)))
 (.ret ((), z1.2.2))
 .fail))
 .fail))
 .fail)
noncomputable def F111 (v) := (F111_t v).run
noncomputable def F111_E : TEnv := ((E0.add1 n_F63 F63_sh F63_fo F63).add1 n_F95 F95_sh F95_fo F95)
theorem F111_Eok : (F111_E).OK := ((E0ok.add1 F63_ok).add1 F95_ok)
noncomputable def F111_told : Nat → Option SealT := fun id => if id = 6 then some (LSh.told F111_L6_sh 0 (F111_L6_step)) else if id = 3 then some (LSh.told F111_L3_sh 0 (F111_L3_step)) else none
theorem F111_L6_ok : ToldOK Tryz.prog 0 (loopAt (bodyOf fn_F111) [0, 0]) (LSh.told F111_L6_sh 0 (F111_L6_step)) :=
 loop_ok (E := F111_E) (F111_Eok) (told := F111_told) (l := F111_L6_sh) (step := F111_L6_step) (loopsOK_of (ls := []) (by kernel_rfl) trivial) (by kernel_rfl) (fun v => by kernel_rfl)
theorem F111_L3_ok : ToldOK Tryz.prog 0 (loopAt (bodyOf fn_F111) [0]) (LSh.told F111_L3_sh 0 (F111_L3_step)) :=
 loop_ok (E := F111_E) (F111_Eok) (told := F111_told) (l := F111_L3_sh) (step := F111_L3_step) (loopsOK_of (ls := [loopAt (bodyOf fn_F111) [0, 0]]) (by kernel_rfl) ⟨.inr ⟨_, by kernel_rfl, F111_L6_ok⟩, trivial⟩) (by kernel_rfl) (fun v => by kernel_rfl)
theorem F111_ok : FOK Tryz.prog n_F111 F111_sh F111_fo F111 :=
 fn_ok (E := F111_E) (F111_Eok) (told := F111_told) (fl := []) (c := bodyOf fn_F111) (s := F111_sh) (l := F111_fo) (tree := F111_t) fnat_F111 (by kernel_rfl) (by kernel_rfl) (by kernel_rfl) (loopsOK_of (ls := [loopAt (bodyOf fn_F111) [0]]) (by kernel_rfl) ⟨.inr ⟨_, by kernel_rfl, F111_L3_ok⟩, trivial⟩) (fun v => by kernel_rfl)
theorem F111_row (n a : Nat) (hn : 3 ≤ n ∧ n ≤ 9) : ∀ (m b : Nat) (out : List Dg), b + m = n → out.length + m ≤ 1000000 →
  F111_L6 (((n : Int), ((), ((a : Int), (b : Int)))), out) = some (((n : Int), ((), (a : Int))), out ++ rowD n a b)
 | 0, b, out, hb, ho => by
  have : b = n := by omega
  subst this
  rw [rowD_end, List.append_nil]
  simp only [F111_L6]
  exact loopO_done (by simp [F111_L6_step, T.run])
 | m + 1, b, out, hb, ho => by
  have c0 : (b : Int) < (n : Int) := by omega
  have w1 : w64 ((b : Int) + 1) = ((b + 1 : Nat) : Int) := by rw [w64_id (by omega) (by omega)]; omega
  have c1 : 2 * ((out.length + 1) * 17) ≤ 140737488355328 := by omega
  have hd := F63_eq (n : Int) ((a : Int), (b : Int)) (by omega) (by omega)
  rw [rowD_step (by omega : b < n)]
  cases hg : inDg n ((a : Int), (b : Int)) with
  | true =>
   have ih := F111_row n a hn m (b + 1) (out ++ [((a : Int), (b : Int))]) (by omega) (by simp; omega)
   simp only [F111_L6] at ih ⊢
   rw [hg] at hd
   have st : (F111_L6_step (((n : Int), ((), ((a : Int), (b : Int)))), out)).run = some (.inl (((n : Int), ((), ((a : Int), ((b + 1 : Nat) : Int)))), out ++ [((a : Int), (b : Int))])) := by
    simp only [F111_L6_step, T.run, c0, hd, decide_true, if_true, Option.bind_some, win_one, win_all, List.length_cons, List.length_nil, Nat.zero_add, c1, w1, List.length_set, List.length_replicate, Nat.le_refl, List.length_append, true_and]
   rw [loopO_next st, ih]
   simp
  | false =>
   have ih := F111_row n a hn m (b + 1) out (by omega) (by omega)
   simp only [F111_L6] at ih ⊢
   rw [hg] at hd
   have st : (F111_L6_step (((n : Int), ((), ((a : Int), (b : Int)))), out)).run = some (.inl (((n : Int), ((), ((a : Int), ((b + 1 : Nat) : Int)))), out)) := by
    simp only [F111_L6_step, T.run, c0, hd, decide_true, if_true, Option.bind_some, Bool.false_eq_true, if_false, w1, true_and]
   rw [loopO_next st, ih]
   simp
theorem F111_rows (n : Nat) (hn : 3 ≤ n ∧ n ≤ 9) : ∀ (m a : Nat) (out : List Dg), a + m = n → out.length ≤ 1000 * a →
  F111_L3 (((n : Int), ((), (a : Int))), out) = some (((n : Int), ()), out ++ rowsD n a)
 | 0, a, out, ha, ho => by
  have : a = n := by omega
  subst this
  rw [rowsD_end, List.append_nil]
  simp only [F111_L3]
  exact loopO_done (by simp [F111_L3_step, T.run])
 | m + 1, a, out, ha, ho => by
  have c0 : (a : Int) < (n : Int) := by omega
  have w1 : w64 ((a : Int) + 1) = ((a + 1 : Nat) : Int) := by rw [w64_id (by omega) (by omega)]; omega
  have w2 : w64 ((a : Int) + 2) = ((a + 2 : Nat) : Int) := by rw [w64_id (by omega) (by omega)]; omega
  have hr : F111_L6 (((n : Int), ((), ((a : Int), ((a + 2 : Nat) : Int)))), out) = some (((n : Int), ((), (a : Int))), out ++ rowD n a 0) := by
   by_cases h : a + 2 ≤ n
   ·have hr := F111_row n a hn (n - (a + 2)) (a + 2) out (by omega) (by omega)
    rwa [← rowD_front n a (a + 2) (by omega)] at hr
   ·rw [rowD_front n a (a + 1) (by omega), show a + 1 = n by omega, rowD_end, List.append_nil]
    simp only [F111_L6]
    have : ¬ (((a + 2 : Nat) : Int) < (n : Int)) := by omega
    exact loopO_done (by simp only [F111_L6_step, T.run, this]; simp)
  have hl := rowD_len n a 0
  have ih := F111_rows n hn m (a + 1) (out ++ rowD n a 0) (by omega) (by rw [List.length_append]; omega)
  rw [rowsD_step (by omega : a < n), ← List.append_assoc]
  simp only [F111_L3] at ih ⊢
  rw [← ih]
  refine loopO_next ?_
  simp only [F111_L3_step, T.run, c0, decide_true, if_true, true_and, w1, w2, hr, Option.bind_some]
theorem F111_eq (n : Nat) (hn : 3 ≤ n ∧ n ≤ 9) : F111 (n : Int) = some ((), allT n) := by
 have h := F111_rows n hn n 0 [] (by omega) (by simp)
 have e : rowsD n 0 = dgL n := by unfold rowsD; rw [List.drop_zero, dgL_rows]
 rw [e, List.nil_append, Int.natCast_zero] at h
 simp only [F111, F111_t, T.run, decide_true, if_true, h, Option.bind_some, Nat.zero_add, Nat.le_refl, win_all, F95_eq n hn (dgL n) (dgL_len n hn.2)]
 rfl
def F96_sh : FSh := ⟨[(.one (.sl (.pair (.int .i64) (.int .i64)) false false)), (.one (.sl (.pair (.int .i64) (.int .i64)) false false))], []⟩
def F96_L4_sh : LSh := ⟨(fun ex => match ex with | .norm => [(0, none), (1, none), (12, none), (13, none)] | .exit i => if i = 0 then [] else [] | .ret => [(4, none)]), [(0, (.one (.sl (.pair (.int .i64) (.int .i64)) false false))), (1, (.one (.sl (.pair (.int .i64) (.int .i64)) false false))), (12, (.one (.si .i64))), (13, (.one (.si .i64)))], [], [⟨.ret, [(4, (.one .sb))], []⟩, ⟨(.exit 0), [], []⟩], [], []⟩
noncomputable def F96_L4_step : (List ((Int × Int)) × List ((Int × Int)) × Int × Int) → T ((List ((Int × Int)) × List ((Int × Int)) × Int × Int) ⊕ (Bool ⊕ Unit)) := fun (a, b, t12, t13) =>
 (.test (decide (t13 < t12))
 (.test (decide ((0 ≤ t13) ∧ (t13 < (a.length : Int))))
 (.sub (a[(Int.toNat t13)]?) fun z0 =>
 (.test (decide ((0 ≤ t13) ∧ (t13 < (b.length : Int))))
 (.sub (b[(Int.toNat t13)]?) fun z1 =>
 (.test (! ((z0.1 == z1.1) && ((z0.2 == z1.2) && true)))
 (.ret (Sum.inr (Sum.inl false)))
 (.ret (Sum.inl (a, (b, (t12, (w64 (t13 + 1)))))))))
 .fail))
 .fail)
 (.ret (Sum.inr (Sum.inr ()))))
noncomputable def F96_L4 (v) := loopO (fun v => (F96_L4_step v).run) v
def F96_fo : List FO := [⟨[(.one .sb)], []⟩]
noncomputable def F96_t : (List ((Int × Int)) × List ((Int × Int))) → T Bool := fun (a, b) =>
 (.test ((a.length : Int) != (b.length : Int))
 (.ret false)
 (.sub (F96_L4 (a, (b, ((a.length : Int), (0 : Int))))) fun z0 =>
 (.test (Sum.isLeft z0)
 (.sub (Sum.getLeft? z0) fun z1 =>
 (.ret z1))
 (.sub (Sum.getRight? z0) fun z2 =>
 (.ret true)))))
noncomputable def F96 (v) := (F96_t v).run
noncomputable def F96_E : TEnv := E0
theorem F96_Eok : (F96_E).OK := E0ok
noncomputable def F96_told : Nat → Option SealT := fun id => if id = 4 then some (LSh.told F96_L4_sh 0 (F96_L4_step)) else none
theorem F96_L4_ok : ToldOK Tryz.prog 0 (loopAt (bodyOf fn_F96) [0]) (LSh.told F96_L4_sh 0 (F96_L4_step)) :=
 loop_ok (E := F96_E) (F96_Eok) (told := F96_told) (l := F96_L4_sh) (step := F96_L4_step) (loopsOK_of (ls := []) (by kernel_rfl) trivial) (by kernel_rfl) (fun v => by kernel_rfl)
theorem F96_ok : FOK Tryz.prog n_F96 F96_sh F96_fo F96 :=
 fn_ok (E := F96_E) (F96_Eok) (told := F96_told) (fl := []) (c := bodyOf fn_F96) (s := F96_sh) (l := F96_fo) (tree := F96_t) fnat_F96 (by kernel_rfl) (by kernel_rfl) (by kernel_rfl) (loopsOK_of (ls := [loopAt (bodyOf fn_F96) [0]]) (by kernel_rfl) ⟨.inr ⟨_, by kernel_rfl, F96_L4_ok⟩, trivial⟩) (fun v => by kernel_rfl)
theorem F96_eq (a b : List (Int × Int)) (hl : a.length < 4611686018427387904) : F96 (a, b) = some (decide (a = b)) := by
 rw [F96, F96_t, T.run_test]
 by_cases he : a.length = b.length
 ·have h := cmp_loop (step := fun v => (F96_L4_step v).run) a b (fun k => (a, (b, ((a.length : Int), (k : Int))))) he
   (fun k x y hx hy => by
    have k1 := getElem?_lt hx
    have k2 := getElem?_lt hy
    have w1 : w64 ((k : Int) + 1) = ((k + 1 : Nat) : Int) := by rw [w64_id (by omega) (by omega)]; omega
    rw [F96_L4_step, T.run_test, if_pos (decide_eq_true (by omega)), T.run_test, if_pos (decide_eq_true (by omega)), T.run_sub, Int.toNat_natCast, hx, Option.bind_some, T.run_test, if_pos (decide_eq_true (by omega)), T.run_sub, hy, Option.bind_some, T.run_test]
    by_cases e : x = y
    ·rw [if_neg (by simp [e]), if_pos e, T.run_ret, w1]
    ·rw [if_pos (by
      obtain ⟨x1, x2⟩ := x
      obtain ⟨y1, y2⟩ := y
      simp only [Prod.mk.injEq] at e
      by_cases e1 : x1 = y1
      ·have e2 : x2 ≠ y2 := fun h => e ⟨e1, h⟩
       simp [e2]
      ·simp [e1]), if_neg e, T.run_ret])
   (by rw [F96_L4_step, T.run_test, if_neg (by simp), T.run_ret])
  have h' : F96_L4 (a, (b, ((a.length : Int), (0 : Int)))) = _ := h
  rw [if_neg (by simp [he]), T.run_sub, h', Option.bind_some]
  by_cases e : a = b
  ·rw [if_pos e, decide_eq_true e]; rfl
  ·rw [if_neg e, decide_eq_false e]; rfl
 ·rw [if_pos (by simp; omega), T.run_ret, decide_eq_false fun e => he (by rw [e])]
def F24_sh : FSh := ⟨[(.one (.si .i64)), (.one (.sl (.pair (.int .i64) (.int .i64)) false false))], []⟩
def F24_L4_sh : LSh := ⟨(fun ex => match ex with | .norm => [(1, none), (18, none), (19, none), (20, none)] | .exit i => if i = 0 then [] else [] | .ret => [(4, none), (5, none)]), [(1, (.one (.sl (.pair (.int .i64) (.int .i64)) false false))), (18, (.one (.rw 0 0))), (19, (.one (.si .i64))), (20, (.one (.si .i64)))], [(.row 0 (.list true (.pair (.int .i64) (.int .i64))))], [⟨.ret, [(4, (.one (.si .i64))), (5, (.one .sb))], []⟩, ⟨(.exit 0), [], []⟩], [], []⟩
noncomputable def F24_L4_step : ((List ((Int × Int)) × Unit × Int × Int) × List (List ((Int × Int)))) → T (((List ((Int × Int)) × Unit × Int × Int) × List (List ((Int × Int)))) ⊕ ((Int × Bool) ⊕ Unit)) := fun ((ds, (), t19, t20), t18) =>
 (.test (decide (t20 < t19))
 (.test (decide ((0 ≤ t20) ∧ (t20 < (t18.length : Int))))
 (.sub (t18[(0 + (Int.toNat t20))]?) fun z0 =>
 (.sub (F96 (z0, ds)) fun z1 =>
 (.test z1
 (.ret (Sum.inr (Sum.inl (t20, true))))
 (.test (decide ((0 = 0) ∧ (t18.length = t18.length)))
 (.ret (Sum.inl ((ds, ((), (t19, (w64 (t20 + 1))))), t18)))
 .fail))))
 .fail)
 (.ret (Sum.inr (Sum.inr ()))))
noncomputable def F24_L4 (v) := loopO (fun v => (F24_L4_step v).run) v
def F24_fo : List FO := [⟨[(.one (.si .i64)), (.one .sb)], []⟩]
noncomputable def F24_t : (Int × List ((Int × Int))) → T (Int × Bool) := fun (n, ds) =>
 (.sub (F110 n) fun z0 =>
 (.test (! z0)
 (.ret ((0 : Int), false))
 (.sub (F94 (n, ds)) fun z1 =>
 (.test (! z1)
 (.ret ((0 : Int), false))
 (.sub (F111 n) fun z2 =>
 (.test (decide ((0 = 0) ∧ (z2.2.length = z2.2.length)))
 (.sub (F24_L4 ((ds, ((), ((z2.2.length : Int), (0 : Int)))), z2.2)) fun z3 =>
 (.test (Sum.isLeft z3)
 (.sub (Sum.getLeft? z3) fun z4 =>
 (.ret z4))
 (.sub (Sum.getRight? z3) fun z5 =>
 (.ret ((0 : Int), false)))))
 .fail))))))
noncomputable def F24 (v) := (F24_t v).run
noncomputable def F24_E : TEnv := ((((E0.add1 n_F110 F110_sh F110_fo F110).add1 n_F94 F94_sh F94_fo F94).add1 n_F111 F111_sh F111_fo F111).add1 n_F96 F96_sh F96_fo F96)
theorem F24_Eok : (F24_E).OK := ((((E0ok.add1 F110_ok).add1 F94_ok).add1 F111_ok).add1 F96_ok)
noncomputable def F24_told : Nat → Option SealT := fun id => if id = 4 then some (LSh.told F24_L4_sh 0 (F24_L4_step)) else none
theorem F24_L4_ok : ToldOK Tryz.prog 0 (loopAt (bodyOf fn_F24) [0]) (LSh.told F24_L4_sh 0 (F24_L4_step)) :=
 loop_ok (E := F24_E) (F24_Eok) (told := F24_told) (l := F24_L4_sh) (step := F24_L4_step) (loopsOK_of (ls := []) (by kernel_rfl) trivial) (by kernel_rfl) (fun v => by kernel_rfl)
theorem F24_ok : FOK Tryz.prog n_F24 F24_sh F24_fo F24 :=
 fn_ok (E := F24_E) (F24_Eok) (told := F24_told) (fl := []) (c := bodyOf fn_F24) (s := F24_sh) (l := F24_fo) (tree := F24_t) fnat_F24 (by kernel_rfl) (by kernel_rfl) (by kernel_rfl) (loopsOK_of (ls := [loopAt (bodyOf fn_F24) [0]]) (by kernel_rfl) ⟨.inr ⟨_, by kernel_rfl, F24_L4_ok⟩, trivial⟩) (fun v => by kernel_rfl)
theorem F24_eq (n : Int) (ds : List Dg) (hl : ds.length < 4611686018427387904) : F24 (n, ds) = some (rkR n ds) := by
 rw [F24, F24_t, T.run_sub, F110, F110_t, T.run_sub, F113_eq, Option.bind_some, T.run_ret, Option.bind_some, T.run_test, rkR]
 cases h8 : inB 3 8 n with
 | false => rw [Bool.and_false]; rfl
 | true =>
  rw [if_neg (by simp), T.run_sub, F94_eq n ds hl, Option.bind_some, T.run_test]
  cases h : isTri n ds with
  | false => rfl
  | true =>
   rw [inB_iff] at h8
   obtain ⟨k, rfl⟩ : ∃ k : Nat, n = k := ⟨n.toNat, by omega⟩
   obtain ⟨s1, s2⟩ := allT_small (n := k) (by omega) (by omega)
   obtain ⟨i, hi, hfi⟩ := rk_find h (by omega) (by omega)
   have hf := loop_find (step := fun v => (F24_L4_step v).run) (xs := allT k) (fun a => decide (a = ds)) (fun j => ((ds, ((), (((allT k).length : Int), (j : Int)))), allT k)) (fun j => .inl ((j : Int), true)) (.inr ())
    (fun j a hd => by
     have hk := getElem?_lt hd
     have w1 : w64 ((j : Int) + 1) = ((j + 1 : Nat) : Int) := by rw [w64_id (by omega) (by omega)]; omega
     rw [F24_L4_step, T.run_test, if_pos (decide_eq_true (by omega)), T.run_test, if_pos (decide_eq_true (by omega)), T.run_sub, Nat.zero_add, Int.toNat_natCast, hd, Option.bind_some, T.run_sub, F96_eq a ds (s2 a (List.mem_of_getElem? hd)), Option.bind_some, T.run_test]
     cases decide (a = ds) with
     | true => rfl
     | false => rw [if_neg (by simp), T.run_test, if_pos (by simp), T.run_ret, w1]; rfl)
    (by rw [F24_L4_step, T.run_test, if_neg (by simp), T.run_ret])
   have hf' : F24_L4 ((ds, ((), (((allT k).length : Int), (0 : Int)))), allT k) = _ := hf
   rw [hfi] at hf'
   rw [if_neg (by simp), T.run_sub, F111_eq k (by omega), Option.bind_some, T.run_test, if_pos (by simp), T.run_sub, hf', Option.bind_some, T.run_test]
   show _ = some (if (true && true) = true then (idxI (fun a => decide (a = ds)) (allT k), true) else (0, false))
   unfold idxI
   rw [hfi]
   rfl
def F38_sh : FSh := ⟨[(.one (.sl (.int .u8) false true))], []⟩
def F38_fo : List FO := [⟨[(.one (.si .i64))], []⟩]
noncomputable def F38_t : List (Int) → T Int := fun code =>
 (.test true
 (.sub (F52 (((), [(3 : Int), (4 : Int), (5 : Int), (6 : Int), (7 : Int), (5 : Int), (6 : Int), (8 : Int), (2 : Int), (9 : Int)]), (code, ((0 : Int), (0 : Int))))) fun z0 =>
 (.ret z0.1))
 .fail)
noncomputable def F38 (v) := (F38_t v).run
noncomputable def F38_E : TEnv := (E0.add1 n_F52 F52_sh F52_fo F52)
theorem F38_Eok : (F38_E).OK := (E0ok.add1 F52_ok)
noncomputable def F38_told : Nat → Option SealT := fun id => none
theorem F38_ok : FOK Tryz.prog n_F38 F38_sh F38_fo F38 :=
 fn_ok (E := F38_E) (F38_Eok) (told := F38_told) (fl := []) (c := bodyOf fn_F38) (s := F38_sh) (l := F38_fo) (tree := F38_t) fnat_F38 (by kernel_rfl) (by kernel_rfl) (by kernel_rfl) (loopsOK_of (ls := []) (by kernel_rfl) trivial) (fun v => by kernel_rfl)
def F14_sh : FSh := ⟨[(.one (.sl (.int .u8) false true))], []⟩
def F14_fo : List FO := [⟨[(.one (.si .i64)), (.one (.si .i64))], []⟩]
noncomputable def F14_t : List (Int) → T (Int × Int) := fun code =>
 (.sub (F38 code) fun z0 =>
 (.test true
 (.sub (F52 (((), [(0 : Int), (1 : Int), (3 : Int), (13 : Int), (41 : Int), (131 : Int), (132 : Int), (-1), (4611686018427387904 : Int)]), (code, ((0 : Int), (0 : Int))))) fun z1 =>
 (.ret (z0, z1.1)))
 .fail))
noncomputable def F14 (v) := (F14_t v).run
noncomputable def F14_E : TEnv := ((E0.add1 n_F38 F38_sh F38_fo F38).add1 n_F52 F52_sh F52_fo F52)
theorem F14_Eok : (F14_E).OK := ((E0ok.add1 F38_ok).add1 F52_ok)
noncomputable def F14_told : Nat → Option SealT := fun id => none
theorem F14_ok : FOK Tryz.prog n_F14 F14_sh F14_fo F14 :=
 fn_ok (E := F14_E) (F14_Eok) (told := F14_told) (fl := []) (c := bodyOf fn_F14) (s := F14_sh) (l := F14_fo) (tree := F14_t) fnat_F14 (by kernel_rfl) (by kernel_rfl) (by kernel_rfl) (loopsOK_of (ls := []) (by kernel_rfl) trivial) (fun v => by kernel_rfl)
theorem F14_some {code : List Int} (h : bytesOK code) : ∃ n r, F14 code = some (n, r) := by
 obtain ⟨y, g, e5, _, _⟩ := among_ok [3, 4, 5, 6, 7, 5, 6, 8, 2, 9] (cur0 h) (by omega) (by simp)
 obtain ⟨y2, g2, e6, _, _⟩ := among_ok [0, 1, 3, 13, 41, 131, 132, -1, 4611686018427387904] (cur0 h) (by omega) (by simp)
 rw [F14, F14_t, T.run_sub, F38, F38_t, T.run_test, if_pos rfl, T.run_sub, e5, Option.bind_some, T.run_ret, Option.bind_some, T.run_test, if_pos rfl, T.run_sub, e6, Option.bind_some, T.run_ret]
 exact ⟨_, _, rfl⟩
def F25_sh : FSh := ⟨[(.one (.si .i64)), (.one (.si .i64))], []⟩
def F25_fo : List FO := [⟨[(.one (.sl (.pair (.int .i64) (.int .i64)) false true)), (.one .sb)], []⟩]
noncomputable def F25_t : (Int × Int) → T (List ((Int × Int)) × Bool) := fun (n, rank) =>
 (.sub (F35 n) fun z0 =>
 (.test (! z0)
 (.test true
 (.ret ((win ([] : List (Int × Int)) 0 0), false))
 .fail)
 (.sub (F79 n) fun z1 =>
 (.sub (F90 (rank, ((0 : Int), (w64 (z1 - 1))))) fun z2 =>
 (.test (! z2)
 (.test true
 (.ret ((win ([] : List (Int × Int)) 0 0), false))
 .fail)
 (.sub (F29 n) fun z3 =>
 (.test (decide ((0 ≤ rank) ∧ (rank < (z3.2.length : Int))))
 (.sub (z3.2[(0 + (Int.toNat rank))]?) fun z4 =>
 (.ret (z4, true)))
 .fail)))))))
noncomputable def F25 (v) := (F25_t v).run
noncomputable def F25_E : TEnv := ((((E0.add1 n_F35 F35_sh F35_fo F35).add1 n_F79 F79_sh F79_fo F79).add1 n_F90 F90_sh F90_fo F90).add1 n_F29 F29_sh F29_fo F29)
theorem F25_Eok : (F25_E).OK := ((((E0ok.add1 F35_ok).add1 F79_ok).add1 F90_ok).add1 F29_ok)
noncomputable def F25_told : Nat → Option SealT := fun id => none
theorem F25_ok : FOK Tryz.prog n_F25 F25_sh F25_fo F25 :=
 fn_ok (E := F25_E) (F25_Eok) (told := F25_told) (fl := [some (.pair (.int .i64) (.int .i64)), none]) (c := bodyOf fn_F25) (s := F25_sh) (l := F25_fo) (tree := F25_t) fnat_F25 (by kernel_rfl) (by kernel_rfl) (by kernel_rfl) (loopsOK_of (ls := []) (by kernel_rfl) trivial) (fun v => by kernel_rfl)
theorem F25_eq (n rank : Int) : F25 (n, rank) = some (tofR n rank) := by
 rw [F25, F25_t, T.run_sub, F35, F35_t, T.run_sub, F90_eq, Option.bind_some, T.run_ret, Option.bind_some, T.run_test, tofR]
 cases h8 : inB 3 8 n with
 | false => rfl
 | true =>
  rw [inB_iff] at h8
  obtain ⟨k, rfl⟩ : ∃ k : Nat, n = k := ⟨n.toNat, by omega⟩
  have hc := cat_len k (by omega) (by omega)
  have hal := allT_len k (by omega)
  rw [if_neg (by simp), T.run_sub, F79_eq (k : Int) (by omega) (by omega), Option.bind_some, T.run_sub, F90_eq, w64_id (by omega) (by omega), Option.bind_some, T.run_test]
  cases hr : inB 0 (catV k - 1) rank with
  | false => rfl
  | true =>
   rw [inB_iff] at hr
   have hlt : rank.toNat < (allT k).length := by omega
   rw [if_neg (by simp), T.run_sub, F29_eq k (by omega), Option.bind_some]
   dsimp only
   rw [T.run_test, if_pos (decide_eq_true (by omega)), T.run_sub, Nat.zero_add, List.getElem?_eq_getElem hlt, Option.bind_some, T.run_ret, Int.toNat_natCast, List.getD_eq_getElem?_getD, List.getElem?_eq_getElem hlt]
   rfl
def F26_sh : FSh := ⟨[(.one (.si .i64)), (.one (.si .i64))], []⟩
def F26_fo : List FO := [⟨[(.one (.sl (.pair (.int .i64) (.int .i64)) false true)), (.one .sb)], []⟩]
noncomputable def F26_t : (Int × Int) → T (List ((Int × Int)) × Bool) := fun (n, rank) =>
 (.sub (F110 n) fun z0 =>
 (.test (! z0)
 (.test true
 (.ret ((win ([] : List (Int × Int)) 0 0), false))
 .fail)
 (.sub (F80 n) fun z1 =>
 (.sub (F113 (rank, ((0 : Int), (w64 (z1 - 1))))) fun z2 =>
 (.test (! z2)
 (.test true
 (.ret ((win ([] : List (Int × Int)) 0 0), false))
 .fail)
 (.sub (F111 n) fun z3 =>
 (.test (decide ((0 ≤ rank) ∧ (rank < (z3.2.length : Int))))
 (.sub (z3.2[(0 + (Int.toNat rank))]?) fun z4 =>
 (.ret (z4, true)))
 .fail)))))))
noncomputable def F26 (v) := (F26_t v).run
noncomputable def F26_E : TEnv := ((((E0.add1 n_F110 F110_sh F110_fo F110).add1 n_F80 F80_sh F80_fo F80).add1 n_F113 F113_sh F113_fo F113).add1 n_F111 F111_sh F111_fo F111)
theorem F26_Eok : (F26_E).OK := ((((E0ok.add1 F110_ok).add1 F80_ok).add1 F113_ok).add1 F111_ok)
noncomputable def F26_told : Nat → Option SealT := fun id => none
theorem F26_ok : FOK Tryz.prog n_F26 F26_sh F26_fo F26 :=
 fn_ok (E := F26_E) (F26_Eok) (told := F26_told) (fl := [some (.pair (.int .i64) (.int .i64)), none]) (c := bodyOf fn_F26) (s := F26_sh) (l := F26_fo) (tree := F26_t) fnat_F26 (by kernel_rfl) (by kernel_rfl) (by kernel_rfl) (loopsOK_of (ls := []) (by kernel_rfl) trivial) (fun v => by kernel_rfl)
theorem F26_eq (n rank : Int) : F26 (n, rank) = some (tofR n rank) := by
 rw [F26, F26_t, T.run_sub, F110, F110_t, T.run_sub, F113_eq, Option.bind_some, T.run_ret, Option.bind_some, T.run_test, tofR]
 cases h8 : inB 3 8 n with
 | false => rfl
 | true =>
  rw [inB_iff] at h8
  obtain ⟨k, rfl⟩ : ∃ k : Nat, n = k := ⟨n.toNat, by omega⟩
  have hc := cat_len k (by omega) (by omega)
  have hal := allT_len k (by omega)
  rw [if_neg (by simp), T.run_sub, F80_eq (k : Int) (by omega) (by omega), Option.bind_some, T.run_sub, F113_eq, w64_id (by omega) (by omega), Option.bind_some, T.run_test]
  cases hr : inB 0 (catV k - 1) rank with
  | false => rfl
  | true =>
   rw [inB_iff] at hr
   have hlt : rank.toNat < (allT k).length := by omega
   rw [if_neg (by simp), T.run_sub, F111_eq k (by omega), Option.bind_some]
   dsimp only
   rw [T.run_test, if_pos (decide_eq_true (by omega)), T.run_sub, Nat.zero_add, List.getElem?_eq_getElem hlt, Option.bind_some, T.run_ret, Int.toNat_natCast, List.getD_eq_getElem?_getD, List.getElem?_eq_getElem hlt]
   rfl
def F112_sh : FSh := ⟨[(.one (.sl (.pair (.int .i64) (.int .i64)) false false)), (.one (.sl (.pair (.int .i64) (.int .i64)) false false))], []⟩
def F112_L4_sh : LSh := ⟨(fun ex => match ex with | .norm => [(0, none), (1, none), (12, none), (13, none)] | .exit i => if i = 0 then [] else [] | .ret => [(4, none)]), [(0, (.one (.sl (.pair (.int .i64) (.int .i64)) false false))), (1, (.one (.sl (.pair (.int .i64) (.int .i64)) false false))), (12, (.one (.si .i64))), (13, (.one (.si .i64)))], [], [⟨.ret, [(4, (.one .sb))], []⟩, ⟨(.exit 0), [], []⟩], [], []⟩
noncomputable def F112_L4_step : (List ((Int × Int)) × List ((Int × Int)) × Int × Int) → T ((List ((Int × Int)) × List ((Int × Int)) × Int × Int) ⊕ (Bool ⊕ Unit)) := fun (a, b, t12, t13) =>
 (.test (decide (t13 < t12))
 (.test (decide ((0 ≤ t13) ∧ (t13 < (a.length : Int))))
 (.sub (a[(Int.toNat t13)]?) fun z0 =>
 (.test (decide ((0 ≤ t13) ∧ (t13 < (b.length : Int))))
 (.sub (b[(Int.toNat t13)]?) fun z1 =>
 (.test (! ((z0.1 == z1.1) && ((z0.2 == z1.2) && true)))
 (.ret (Sum.inr (Sum.inl false)))
 (.ret (Sum.inl (a, (b, (t12, (w64 (t13 + 1)))))))))
 .fail))
 .fail)
 (.ret (Sum.inr (Sum.inr ()))))
noncomputable def F112_L4 (v) := loopO (fun v => (F112_L4_step v).run) v
def F112_fo : List FO := [⟨[(.one .sb)], []⟩]
noncomputable def F112_t : (List ((Int × Int)) × List ((Int × Int))) → T Bool := fun (a, b) =>
 (.test ((a.length : Int) != (b.length : Int))
 (.ret false)
 (.sub (F112_L4 (a, (b, ((a.length : Int), (0 : Int))))) fun z0 =>
 (.test (Sum.isLeft z0)
 (.sub (Sum.getLeft? z0) fun z1 =>
 (.ret z1))
 (.sub (Sum.getRight? z0) fun z2 =>
 (.ret true)))))
noncomputable def F112 (v) := (F112_t v).run
noncomputable def F112_E : TEnv := E0
theorem F112_Eok : (F112_E).OK := E0ok
noncomputable def F112_told : Nat → Option SealT := fun id => if id = 4 then some (LSh.told F112_L4_sh 0 (F112_L4_step)) else none
theorem F112_L4_ok : ToldOK Tryz.prog 0 (loopAt (bodyOf fn_F112) [0]) (LSh.told F112_L4_sh 0 (F112_L4_step)) :=
 loop_ok (E := F112_E) (F112_Eok) (told := F112_told) (l := F112_L4_sh) (step := F112_L4_step) (loopsOK_of (ls := []) (by kernel_rfl) trivial) (by kernel_rfl) (fun v => by kernel_rfl)
theorem F112_ok : FOK Tryz.prog n_F112 F112_sh F112_fo F112 :=
 fn_ok (E := F112_E) (F112_Eok) (told := F112_told) (fl := []) (c := bodyOf fn_F112) (s := F112_sh) (l := F112_fo) (tree := F112_t) fnat_F112 (by kernel_rfl) (by kernel_rfl) (by kernel_rfl) (loopsOK_of (ls := [loopAt (bodyOf fn_F112) [0]]) (by kernel_rfl) ⟨.inr ⟨_, by kernel_rfl, F112_L4_ok⟩, trivial⟩) (fun v => by kernel_rfl)
theorem dCuts_val (a b : List (Int × Int)) (hl : a.length < 4611686018427387904) : F112 (a, b) = some (decide (a = b)) := by
 rw [F112, F112_t, T.run_test]
 by_cases he : a.length = b.length
 ·have h := cmp_loop (step := fun v => (F112_L4_step v).run) a b (fun k => (a, (b, ((a.length : Int), (k : Int))))) he
   (fun k x y hx hy => by
    have k1 := getElem?_lt hx
    have k2 := getElem?_lt hy
    have w1 : w64 ((k : Int) + 1) = ((k + 1 : Nat) : Int) := by rw [w64_id (by omega) (by omega)]; omega
    rw [F112_L4_step, T.run_test, if_pos (decide_eq_true (by omega)), T.run_test, if_pos (decide_eq_true (by omega)), T.run_sub, Int.toNat_natCast, hx, Option.bind_some, T.run_test, if_pos (decide_eq_true (by omega)), T.run_sub, hy, Option.bind_some, T.run_test]
    by_cases e : x = y
    ·rw [if_neg (by simp [e]), if_pos e, T.run_ret, w1]
    ·rw [if_pos (by
      obtain ⟨x1, x2⟩ := x
      obtain ⟨y1, y2⟩ := y
      simp only [Prod.mk.injEq] at e
      by_cases e1 : x1 = y1
      ·have e2 : x2 ≠ y2 := fun h => e ⟨e1, h⟩
       simp [e2]
      ·simp [e1]), if_neg e, T.run_ret])
   (by rw [F112_L4_step, T.run_test, if_neg (by simp), T.run_ret])
  have h' : F112_L4 (a, (b, ((a.length : Int), (0 : Int)))) = _ := h
  rw [if_neg (by simp [he]), T.run_sub, h', Option.bind_some]
  by_cases e : a = b
  ·rw [if_pos e, decide_eq_true e]; rfl
  ·rw [if_neg e, decide_eq_false e]; rfl
 ·rw [if_pos (by simp; omega), T.run_ret, decide_eq_false fun e => he (by rw [e])]
def F84_sh : FSh := ⟨[(.one (.sl (.pair (.int .i64) (.int .i64)) false false)), (.one (.sl (.pair (.int .i64) (.int .i64)) false false))], []⟩
def F84_L2_sh : LSh := ⟨(fun ex => match ex with | .norm => [(0, none), (1, none), (7, none), (8, none)] | .exit i => if i = 0 then [] else [] | .ret => [(4, none)]), [(0, (.one (.sl (.pair (.int .i64) (.int .i64)) false false))), (1, (.one (.sl (.pair (.int .i64) (.int .i64)) false false))), (7, (.one (.si .i64))), (8, (.one (.si .i64)))], [], [⟨.ret, [(4, (.one .sb))], []⟩, ⟨(.exit 0), [], []⟩], [], []⟩
noncomputable def F84_L2_step : (List ((Int × Int)) × List ((Int × Int)) × Int × Int) → T ((List ((Int × Int)) × List ((Int × Int)) × Int × Int) ⊕ (Bool ⊕ Unit)) := fun (a, b, t7, t8) =>
 (.test (decide (t8 < t7))
 (.test (decide ((0 ≤ t8) ∧ (t8 < (a.length : Int))))
 (.sub (a[(Int.toNat t8)]?) fun z0 =>
 (.test (decide ((0 ≤ t8) ∧ (t8 < (b.length : Int))))
 (.sub (b[(Int.toNat t8)]?) fun z1 =>
 (.test (! ((z0.1 == z1.1) && ((z0.2 == z1.2) && true)))
 (.test (decide ((0 ≤ t8) ∧ (t8 < (a.length : Int))))
 (.sub (a[(Int.toNat t8)]?) fun z2 =>
 (.test (decide ((0 ≤ t8) ∧ (t8 < (b.length : Int))))
 (.sub (b[(Int.toNat t8)]?) fun z3 =>
 (.test (decide (z2.1 < z3.1))
 (.ret (Sum.inr (Sum.inl true)))
 (.test (decide ((0 ≤ t8) ∧ (t8 < (a.length : Int))))
 (.sub (a[(Int.toNat t8)]?) fun z4 =>
 (.test (decide ((0 ≤ t8) ∧ (t8 < (b.length : Int))))
 (.sub (b[(Int.toNat t8)]?) fun z5 =>
 (.test (z4.1 == z5.1)
 (.test (decide ((0 ≤ t8) ∧ (t8 < (a.length : Int))))
 (.sub (a[(Int.toNat t8)]?) fun z6 =>
 (.test (decide ((0 ≤ t8) ∧ (t8 < (b.length : Int))))
 (.sub (b[(Int.toNat t8)]?) fun z7 =>
 (.ret (Sum.inr (Sum.inl (decide (z6.2 < z7.2))))))
 .fail))
 .fail)
 (.ret (Sum.inr (Sum.inl false)))))
 .fail))
 .fail)))
 .fail))
 .fail)
 (.ret (Sum.inl (a, (b, (t7, (w64 (t8 + 1)))))))))
 .fail))
 .fail)
 (.ret (Sum.inr (Sum.inr ()))))
noncomputable def F84_L2 (v) := loopO (fun v => (F84_L2_step v).run) v
def F84_fo : List FO := [⟨[(.one .sb)], []⟩]
noncomputable def F84_t : (List ((Int × Int)) × List ((Int × Int))) → T Bool := fun (a, b) =>
 (.sub (F84_L2 (a, (b, ((a.length : Int), (0 : Int))))) fun z0 =>
 (.test (Sum.isLeft z0)
 (.sub (Sum.getLeft? z0) fun z1 =>
 (.ret z1))
 (.sub (Sum.getRight? z0) fun z2 =>
 (.ret false))))
noncomputable def F84 (v) := (F84_t v).run
noncomputable def F84_E : TEnv := E0
theorem F84_Eok : (F84_E).OK := E0ok
noncomputable def F84_told : Nat → Option SealT := fun id => if id = 2 then some (LSh.told F84_L2_sh 0 (F84_L2_step)) else none
theorem F84_L2_ok : ToldOK Tryz.prog 0 (loopAt (bodyOf fn_F84) [0]) (LSh.told F84_L2_sh 0 (F84_L2_step)) :=
 loop_ok (E := F84_E) (F84_Eok) (told := F84_told) (l := F84_L2_sh) (step := F84_L2_step) (loopsOK_of (ls := []) (by kernel_rfl) trivial) (by kernel_rfl) (fun v => by kernel_rfl)
theorem F84_ok : FOK Tryz.prog n_F84 F84_sh F84_fo F84 :=
 fn_ok (E := F84_E) (F84_Eok) (told := F84_told) (fl := []) (c := bodyOf fn_F84) (s := F84_sh) (l := F84_fo) (tree := F84_t) fnat_F84 (by kernel_rfl) (by kernel_rfl) (by kernel_rfl) (loopsOK_of (ls := [loopAt (bodyOf fn_F84) [0]]) (by kernel_rfl) ⟨.inr ⟨_, by kernel_rfl, F84_L2_ok⟩, trivial⟩) (fun v => by kernel_rfl)
theorem dBefore_val : ∀ (m k : Nat) (a b : List Dg), a.length = b.length → a.length < 4611686018427387904 → k + m = a.length → ltLD (a.drop k) (b.drop k) = true → F84_L2 (a, (b, ((a.length : Int), (k : Int)))) = some (.inl true)
 | 0, k, a, b, hab, hl, hk, h => by
  rw [List.drop_of_length_le (by omega)] at h
  simp [ltLD] at h
 | m + 1, k, a, b, hab, hl, hk, h => by
  have k1 : k < a.length := by omega
  have k2 : k < b.length := by omega
  have ga := List.getElem?_eq_getElem k1
  have gb := List.getElem?_eq_getElem k2
  rw [List.drop_eq_getElem_cons k1, List.drop_eq_getElem_cons k2, ltLD] at h
  have w1 : w64 ((k : Int) + 1) = ((k + 1 : Nat) : Int) := by rw [w64_id (by omega) (by omega)]; omega
  by_cases e : a[k] = b[k]
  ·rw [if_pos e] at h
   rw [← dBefore_val m (k + 1) a b hab hl (by omega) h]
   simp only [F84_L2]
   refine loopO_next ?_
   rw [F84_L2_step, T.run_test, if_pos (decide_eq_true (by omega)), T.run_test, if_pos (decide_eq_true (by omega)), T.run_sub, Int.toNat_natCast, ga, Option.bind_some, T.run_test, if_pos (decide_eq_true (by omega)), T.run_sub, gb, Option.bind_some, T.run_test, if_neg (by simp [e]), T.run_ret, w1]
  ·rw [if_neg e] at h
   unfold ltD at h
   rw [decide_eq_true_eq] at h
   simp only [F84_L2]
   refine loopO_done ?_
   rw [F84_L2_step, T.run_test, if_pos (decide_eq_true (by omega)), T.run_test, if_pos (decide_eq_true (by omega)), T.run_sub, Int.toNat_natCast, ga, Option.bind_some, T.run_test, if_pos (decide_eq_true (by omega)), T.run_sub, gb, Option.bind_some, T.run_test, if_pos (by
     by_cases e1 : a[k].1 = b[k].1
     ·have e2 : a[k].2 ≠ b[k].2 := fun h => e (Prod.ext e1 h)
      simp [e2]
     ·simp [e1]),
    T.run_test, if_pos (decide_eq_true (by omega)), T.run_sub, Option.bind_some, T.run_test, if_pos (decide_eq_true (by omega)), T.run_sub, Option.bind_some, T.run_test]
   by_cases h1 : a[k].1 < b[k].1
   ·rw [if_pos (decide_eq_true h1), T.run_ret]
   ·rw [if_neg (by rw [decide_eq_true_eq]; exact h1), T.run_test, if_pos (decide_eq_true (by omega)), T.run_sub, Option.bind_some, T.run_test, if_pos (decide_eq_true (by omega)), T.run_sub, Option.bind_some, T.run_test, if_pos (by rw [beq_iff_eq]; omega), T.run_test, if_pos (decide_eq_true (by omega)), T.run_sub, Option.bind_some, T.run_test, if_pos (decide_eq_true (by omega)), T.run_sub, Option.bind_some, T.run_ret, decide_eq_true (by omega)]
theorem dBefore_yes (a b : List Dg) (hab : a.length = b.length) (hl : a.length < 4611686018427387904) (h : ltLD a b = true) : F84 (a, b) = some true := by
 have := dBefore_val a.length 0 a b hab hl (by omega) (by simpa using h)
 have h' : F84_L2 (a, (b, ((a.length : Int), (0 : Int)))) = _ := this
 rw [F84, F84_t, T.run_sub, h', Option.bind_some]
 rfl
end Go.Proofs.W
