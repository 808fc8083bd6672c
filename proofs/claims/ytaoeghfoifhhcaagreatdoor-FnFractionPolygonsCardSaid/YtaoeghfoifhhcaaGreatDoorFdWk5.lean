/- Functions of the program, walked, and what they compute. -/
import Derived.Test.YtaoeghfoifhhcaaGreatDoorFdWk4
set_option linter.unusedVariables false
set_option linter.unusedSimpArgs false
set_option maxRecDepth 100000
set_option maxHeartbeats 4000000
namespace Go.Proofs.W
open Go Go.Gm Go.Proofs
open Go.RowKit Go.Shelf
def F64_sh : FSh := ⟨[(.one (.sl (.pair (.int .i64) (.int .i64)) false false))], []⟩

def F64_L5_sh : LSh := ⟨(fun ex => match ex with | .norm => [(0, none), (3, none), (11, none), (12, none), (13, none)] | .exit i => if i = 0 then [(0, none), (3, none)] else [] | .ret => [(2, none)]), [(0, (.one (.sl (.pair (.int .i64) (.int .i64)) false false))), (3, (.one (.si .i64))), (11, (.one (.sl (.pair (.int .i64) (.int .i64)) false false))), (12, (.one (.si .i64))), (13, (.one (.si .i64)))], [], [⟨.ret, [(2, (.one .sb))], []⟩, ⟨(.exit 0), [(0, (.one (.sl (.pair (.int .i64) (.int .i64)) false false))), (3, (.one (.si .i64)))], []⟩], [], []⟩
noncomputable def F64_L5_step : (List ((Int × Int)) × Int × List ((Int × Int)) × Int × Int) → T ((List ((Int × Int)) × Int × List ((Int × Int)) × Int × Int) ⊕ (Bool ⊕ (List ((Int × Int)) × Int))) := fun (list, n, t11, t12, t13) =>
 (.test (decide (t13 < t12))
 (.test (decide ((0 ≤ t13) ∧ (t13 < ((List.length t11) : Int))))
 (.sub (t11[(Int.toNat t13)]?) fun z0 =>
 (.sub (F84 z0) fun z1 =>
 (.test (! z1)
 (.ret (Sum.inr (Sum.inl false)))
 (.test (decide (t13 > 0))
 (.test (decide ((0 ≤ (w64 (t13 - 1))) ∧ ((w64 (t13 - 1)) < ((List.length list) : Int))))
 (.sub (list[(Int.toNat (w64 (t13 - 1)))]?) fun z2 =>
 (.sub (F79 (z2, z0)) fun z3 =>
 (.test (z3 != 1)
 (.ret (Sum.inr (Sum.inl false)))
 (.ret (Sum.inl (list, (n, (t11, (t12, (w64 (t13 + 1)))))))))))
 .fail)
 (.ret (Sum.inl (list, (n, (t11, (t12, (w64 (t13 + 1))))))))))))
 .fail)
 (.ret (Sum.inr (Sum.inr (list, n)))))
noncomputable def F64_L5 (v : (List ((Int × Int)) × Int × List ((Int × Int)) × Int × Int)) : Option (Bool ⊕ (List ((Int × Int)) × Int)) := loopO (fun v => (F64_L5_step v).run) v

def F64_fo : List FO := [⟨[(.one .sb)], []⟩]
noncomputable def F64_t : List ((Int × Int)) → T Bool := fun list =>
 (.sub (F106 (((List.length list) : Int), ((3 : Int), (12 : Int)))) fun z0 =>
 (.test (! z0)
 (.ret false)
 (.sub (F64_L5 (list, (((List.length list) : Int), (list, (((List.length list) : Int), (0 : Int)))))) fun z1 =>
 (.test (Sum.isLeft z1)
 (.sub (Sum.getLeft? z1) fun z2 =>
 (.ret z2))
 (.sub (Sum.getRight? z1) fun z3 =>
 (.test (decide (((0 : Int) ≤ (0 : Int)) ∧ (0 < ((List.length z3.1) : Int))))
 (.sub (z3.1[0]?) fun z4 =>
 (.test ((z4.1 == 0) && ((z4.2 == 1) && true))
 (.test (decide ((0 ≤ (w64 (z3.2 - 1))) ∧ ((w64 (z3.2 - 1)) < ((List.length z3.1) : Int))))
 (.sub (z3.1[(Int.toNat (w64 (z3.2 - 1)))]?) fun z5 =>
 (.ret ((z5.1 == 1) && ((z5.2 == 0) && true))))
 .fail)
 (.ret false)))
 .fail))))))
noncomputable def F64 (v : List ((Int × Int))) : Option Bool := (F64_t v).run
noncomputable def F64_E : TEnv := (((E0.add1 n_F106 F106_sh F106_fo F106).add1 n_F84 F84_sh F84_fo F84).add1 n_F79 F79_sh F79_fo F79)
theorem F64_Eok : (F64_E).OK := (((E0ok.add1 F106_ok).add1 F84_ok).add1 F79_ok)
noncomputable def F64_told : Nat → Option SealT := fun id => if id = 5 then some (LSh.told F64_L5_sh 0 (F64_L5_step)) else none
theorem F64_L5_ok : ToldOK Tryz.prog 0 (loopAt (bodyOf fn_F64) [0]) (LSh.told F64_L5_sh 0 (F64_L5_step)) :=
  loop_ok (E := F64_E) (F64_Eok) (told := F64_told) (l := F64_L5_sh) (step := F64_L5_step) (loopsOK_of (ls := []) (by kernel_rfl) trivial) (by kernel_rfl) (fun v => by kernel_rfl)
theorem F64_ok : FOK Tryz.prog n_F64 F64_sh F64_fo F64 :=
  fn_ok (E := F64_E) (F64_Eok) (told := F64_told) (fl := []) (c := bodyOf fn_F64) (s := F64_sh) (l := F64_fo) (tree := F64_t) fnat_F64 (by kernel_rfl) (by kernel_rfl) (by kernel_rfl) (loopsOK_of (ls := [loopAt (bodyOf fn_F64) [0]]) (by kernel_rfl) ⟨.inr ⟨_, by kernel_rfl, F64_L5_ok⟩, trivial⟩) (fun v => by kernel_rfl)

theorem F64_eq (p : List Fr) (hl : p.length < 4611686018427387904) : F64 p = some (polyB p) := by
  rw [F64, F64_t, T.run_sub, F106_eq, Option.bind_some, T.run_test]
  unfold polyB
  cases h1 : inB 3 12 (p.length : Int) with
  | false => rw [if_pos (by rfl), T.run_ret]; rfl
  | true =>
    have hn := inB_iff.1 h1
    have hL := all_loop (step := fun v => (F64_L5_step v).run) (fun k => (p, ((p.length : Int), (p, ((p.length : Int), (k : Int)))))) (fun k => fracB (gF p k) && (decide (k = 0) || decide (crossW (gF p (k - 1)) (gF p k) = 1))) (p, (p.length : Int)) p.length
      (by rw [F64_L5_step, T.run_test, if_neg (by simp), T.run_ret])
      (fun k hk => by
        have v2 : w64 ((k : Int) + 1) = ((k + 1 : Nat) : Int) := by rw [w64_id (by omega) (by omega)]; omega
        rw [F64_L5_step, T.run_test, if_pos (decide_eq_true (by omega)), T.run_test, if_pos (decide_eq_true (by omega)), T.run_sub, Int.toNat_natCast, gF_some (p := p) (i := k) hk, Option.bind_some, T.run_sub, F84_eq, Option.bind_some, T.run_test]
        cases h3 : fracB (gF p k) with
        | false => rw [if_pos (by rfl), T.run_ret]; rfl
        | true =>
          rw [if_neg (by decide), T.run_test]
          by_cases k0 : k = 0
          · rw [if_neg (by simp [k0]), T.run_ret, v2, decide_eq_true k0]; rfl
          · have v1 : w64 ((k : Int) - 1) = ((k - 1 : Nat) : Int) := by rw [w64_id (by omega) (by omega)]; omega
            rw [if_pos (decide_eq_true (by omega)), T.run_test, v1, if_pos (decide_eq_true (by omega)), T.run_sub, Int.toNat_natCast, gF_some (p := p) (i := k - 1) (by omega), Option.bind_some, T.run_sub, F79_eq, Option.bind_some, T.run_test, v2, T.run_ret, T.run_ret, decide_eq_false k0]
            by_cases e : crossW (gF p (k - 1)) (gF p k) = 1
            · rw [if_neg (by simp [e]), decide_eq_true e]; rfl
            · rw [if_pos (by simp [e]), decide_eq_false e]; rfl)
      p.length 0 (by omega)
    have hL' : F64_L5 (p, ((p.length : Int), (p, ((p.length : Int), (0 : Int))))) = _ := hL
    have hall : (List.range' 0 p.length).all (fun k => fracB (gF p k) && (decide (k = 0) || decide (crossW (gF p (k - 1)) (gF p k) = 1))) = (p.all fracB && (List.range (p.length - 1)).all fun i => decide (crossF (gF p i) (gF p (i + 1)) = 1)) := by
      rw [Bool.eq_iff_iff, Bool.and_eq_true]
      simp only [List.all_eq_true, Bool.and_eq_true, Bool.or_eq_true, decide_eq_true_eq, List.mem_range, List.mem_range'_1]
      constructor
      · intro h
        refine ⟨fun f hf => ?_, fun i hi => ?_⟩
        · obtain ⟨i, hi, rfl⟩ := List.mem_iff_getElem.1 hf
          have e : p[i] = gF p i := by
            have := gF_some (p := p) hi
            rw [List.getElem?_eq_getElem hi] at this
            exact Option.some.inj this
          rw [e]
          exact (h i (by omega)).1
        · have a1 := h i (by omega)
          have a2 := h (i + 1) (by omega)
          rw [Nat.add_sub_cancel] at a2
          rw [← (crossW_eq a1.1 a2.1).1]
          exact a2.2.resolve_left (by omega)
      · rintro ⟨g1, g2⟩ k hk
        refine ⟨g1 _ (gF_mem (by omega)), ?_⟩
        by_cases k0 : k = 0
        · exact .inl k0
        · have := g2 (k - 1) (by omega)
          rw [show k - 1 + 1 = k by omega] at this
          rw [(crossW_eq (g1 _ (gF_mem (i := k - 1) (by omega))) (g1 _ (gF_mem (i := k) (by omega)))).1]
          exact .inr this
    rw [hall] at hL'
    rw [if_neg (by decide), T.run_sub, hL', Option.bind_some]
    have w1 : w64 ((p.length : Int) - 1) = ((p.length - 1 : Nat) : Int) := by rw [w64_id (by omega) (by omega)]; omega
    have fin : (T.test (decide (((0 : Int) ≤ (0 : Int)) ∧ (0 < ((List.length p) : Int)))) (T.sub (p[0]?) fun z4 => (T.test ((z4.1 == 0) && ((z4.2 == 1) && true)) (T.test (decide ((0 ≤ (w64 ((p.length : Int) - 1))) ∧ ((w64 ((p.length : Int) - 1)) < ((List.length p) : Int)))) (T.sub (p[(Int.toNat (w64 ((p.length : Int) - 1)))]?) fun z5 => (T.ret ((z5.1 == 1) && ((z5.2 == 0) && true)))) T.fail) (T.ret false))) T.fail).run = some (decide (gF p 0 = (0, 1)) && decide (gF p (p.length - 1) = (1, 0))) := by
      rw [T.run_test, if_pos (decide_eq_true (by omega)), T.run_sub, gF_some (p := p) (i := 0) (by omega), Option.bind_some, T.run_test, frEq]
      by_cases c0 : gF p 0 = (0, 1)
      · rw [decide_eq_true c0, if_pos rfl, T.run_test, w1, if_pos (decide_eq_true (by omega)), T.run_sub, Int.toNat_natCast, gF_some (p := p) (i := p.length - 1) (by omega), Option.bind_some, T.run_ret, frEq]; rfl
      · rw [decide_eq_false c0, if_neg (by decide), T.run_ret]; rfl
    cases h2 : p.all fracB with
    | false =>
      rw [Bool.false_and, Bool.false_and, if_neg (by decide), Bool.and_false]; rfl
    | true =>
      cases h3 : ((List.range (p.length - 1)).all fun i => decide (crossF (gF p i) (gF p (i + 1)) = 1)) with
      | false =>
        simp only [Bool.and_false, Bool.false_eq_true, if_false]; rfl
      | true =>
        have e : ∀ a b : Bool, (true && (true && (a && (b && true)))) = (a && b) := by decide
        rw [e, if_pos (by rfl)]
        exact fin


def F56_sh : FSh := ⟨[(.one (.sl (.pair (.int .i64) (.int .i64)) false false))], []⟩

def F56_L5_sh : LSh := ⟨(fun ex => match ex with | .norm => [(0, none), (3, none), (4, none), (5, none), (6, none)] | .exit i => if i = 0 then [(3, none), (4, none), (5, none)] else [] | .ret => [(2, none)]), [(0, (.one (.sl (.pair (.int .i64) (.int .i64)) false false))), (3, (.one (.si .i64))), (4, (.one (.rw 0 0))), (5, (.one (.si .i64))), (6, (.one (.si .i64)))], [(.row 0 (.int .i64))], [⟨(.exit 0), [(3, (.one (.si .i64))), (4, (.one (.rw 0 0))), (5, (.one (.si .i64)))], [(.row 0 (.int .i64))]⟩], [], []⟩
noncomputable def F56_L5_step : ((List ((Int × Int)) × Int × Unit × Int × Int) × List (Int)) → T (((List ((Int × Int)) × Int × Unit × Int × Int) × List (Int)) ⊕ ((Int × Unit × Int) × List (Int))) := fun ((list, n, (), sum, i), out) =>
 (.test (decide ((w64 (i + 1)) < n))
 (.test (decide (i > 0))
 (.test (decide ((0 ≤ (w64 (i - 1))) ∧ ((w64 (i - 1)) < ((List.length list) : Int))))
 (.sub (list[(Int.toNat (w64 (i - 1)))]?) fun z0 =>
 (.test (decide ((0 ≤ (w64 (i + 1))) ∧ ((w64 (i + 1)) < ((List.length list) : Int))))
 (.sub (list[(Int.toNat (w64 (i + 1)))]?) fun z1 =>
 (.test (decide ((0 ≤ i) ∧ (i < ((List.length list) : Int))))
 (.sub (list[(Int.toNat i)]?) fun z2 =>
 (.test (decide (z2.2 ≠ 0))
 (.test (decide ((0 ≤ (w64 (i + 1))) ∧ ((w64 (i + 1)) < ((List.length out) : Int))))
 (.sub (out[(0 + (Int.toNat (w64 (i + 1))))]?) fun z3 =>
 (.test (decide ((0 ≤ (w64 (i + 1))) ∧ ((w64 (i + 1)) < ((List.length out) : Int))))
 (.sub ((List.set out (0 + (Int.toNat (w64 (i + 1)))) (w64 (Int.tdiv (w64 (z0.2 + z1.2)) z2.2)))[(0 + (Int.toNat (w64 (i + 1))))]?) fun z4 =>
 (.test (decide ((0 = 0) ∧ ((List.length out) = (List.length (List.set out (0 + (Int.toNat (w64 (i + 1)))) (w64 (Int.tdiv (w64 (z0.2 + z1.2)) z2.2)))))))
 (.ret (Sum.inl ((list, (n, ((), ((w64 (sum + z4)), (w64 (i + 1)))))), (List.set out (0 + (Int.toNat (w64 (i + 1)))) (w64 (Int.tdiv (w64 (z0.2 + z1.2)) z2.2))))))
 .fail))
 .fail))
 .fail)
 .fail))
 .fail))
 .fail))
 .fail)
 (.test (decide ((0 ≤ (w64 (i + 1))) ∧ ((w64 (i + 1)) < ((List.length list) : Int))))
 (.sub (list[(Int.toNat (w64 (i + 1)))]?) fun z5 =>
 (.test (decide ((0 ≤ i) ∧ (i < ((List.length list) : Int))))
 (.sub (list[(Int.toNat i)]?) fun z6 =>
 (.test (decide (z6.2 ≠ 0))
 (.test (decide ((0 ≤ (w64 (i + 1))) ∧ ((w64 (i + 1)) < ((List.length out) : Int))))
 (.sub (out[(0 + (Int.toNat (w64 (i + 1))))]?) fun z7 =>
 (.test (decide ((0 ≤ (w64 (i + 1))) ∧ ((w64 (i + 1)) < ((List.length out) : Int))))
 (.sub ((List.set out (0 + (Int.toNat (w64 (i + 1)))) (w64 (Int.tdiv (w64 (0 + z5.2)) z6.2)))[(0 + (Int.toNat (w64 (i + 1))))]?) fun z8 =>
 (.test (decide ((0 = 0) ∧ ((List.length out) = (List.length (List.set out (0 + (Int.toNat (w64 (i + 1)))) (w64 (Int.tdiv (w64 (0 + z5.2)) z6.2)))))))
 (.ret (Sum.inl ((list, (n, ((), ((w64 (sum + z8)), (w64 (i + 1)))))), (List.set out (0 + (Int.toNat (w64 (i + 1)))) (w64 (Int.tdiv (w64 (0 + z5.2)) z6.2))))))
 .fail))
 .fail))
 .fail)
 .fail))
 .fail))
 .fail))
 (.test (decide ((0 = 0) ∧ ((List.length out) = (List.length out))))
 (.ret (Sum.inr ((n, ((), sum)), out)))
 .fail))
noncomputable def F56_L5 (v : ((List ((Int × Int)) × Int × Unit × Int × Int) × List (Int))) : Option ((Int × Unit × Int) × List (Int)) := loopO (fun v => (F56_L5_step v).run) v

def F56_fo : List FO := [⟨[(.one (.rw 0 0))], [(.row 0 (.int .i64))]⟩]
noncomputable def F56_t : List ((Int × Int)) → T (Unit × List (Int)) := fun list =>
 (.test (decide ((0 ≤ ((List.length list) : Int)) ∧ ((((List.length list) : Int) ≤ ((List.length list) : Int)) ∧ (((Int.toNat ((List.length list) : Int)) * 9) ≤ 140737488355328))))
 (.test (decide ((0 = 0) ∧ ((Int.toNat ((List.length list) : Int)) = (List.length (List.replicate (Int.toNat ((List.length list) : Int)) (0 : Int))))))
 (.sub (F56_L5 ((list, (((List.length list) : Int), ((), ((0 : Int), (0 : Int))))), (List.replicate (Int.toNat ((List.length list) : Int)) (0 : Int)))) fun z0 =>
 (.test (decide (((0 : Int) ≤ (0 : Int)) ∧ (0 < ((List.length z0.2) : Int))))
 (.sub (z0.2[0]?) fun z1 =>
 (.test (decide ((0 = 0) ∧ ((List.length z0.2) = (List.length (List.set z0.2 0 (w64 ((w64 ((w64 (3 * z0.1.1)) - 6)) - z0.1.2.2)))))))
 (.ret ((), (List.set z0.2 0 (w64 ((w64 ((w64 (3 * z0.1.1)) - 6)) - z0.1.2.2)))))
 .fail))
 .fail))
 .fail)
 .fail)
noncomputable def F56 (v : List ((Int × Int))) : Option (Unit × List (Int)) := (F56_t v).run
noncomputable def F56_E : TEnv := E0
theorem F56_Eok : (F56_E).OK := E0ok
noncomputable def F56_told : Nat → Option SealT := fun id => if id = 5 then some (LSh.told F56_L5_sh 0 (F56_L5_step)) else none
theorem F56_L5_ok : ToldOK Tryz.prog 0 (loopAt (bodyOf fn_F56) [0]) (LSh.told F56_L5_sh 0 (F56_L5_step)) :=
  loop_ok (E := F56_E) (F56_Eok) (told := F56_told) (l := F56_L5_sh) (step := F56_L5_step) (loopsOK_of (ls := []) (by kernel_rfl) trivial) (by kernel_rfl) (fun v => by kernel_rfl)
theorem F56_ok : FOK Tryz.prog n_F56 F56_sh F56_fo F56 :=
  fn_ok (E := F56_E) (F56_Eok) (told := F56_told) (fl := []) (c := bodyOf fn_F56) (s := F56_sh) (l := F56_fo) (tree := F56_t) fnat_F56 (by kernel_rfl) (by kernel_rfl) (by kernel_rfl) (loopsOK_of (ls := [loopAt (bodyOf fn_F56) [0]]) (by kernel_rfl) ⟨.inr ⟨_, by kernel_rfl, F56_L5_ok⟩, trivial⟩) (fun v => by kernel_rfl)

def outQ (q : List Int) (i : Nat) : List Int := (List.range q.length).map fun j => if 1 ≤ j ∧ j ≤ i then q.getD j 0 else 0
theorem outQ_len (q : List Int) (i : Nat) : (outQ q i).length = q.length := by simp [outQ]
theorem outQ_get {q : List Int} {i j : Nat} (h : j < q.length) : (outQ q i)[j]? = some (if 1 ≤ j ∧ j ≤ i then q.getD j 0 else 0) := by simp [outQ, h]
theorem outQ_set {q : List Int} {i : Nat} (h : i + 1 < q.length) : (outQ q i).set (i + 1) (q.getD (i + 1) 0) = outQ q (i + 1) := by
  apply List.ext_getElem?
  intro j
  rw [List.getElem?_set, outQ_len]
  by_cases hj : j < q.length
  · rw [outQ_get hj, outQ_get hj]
    by_cases e : i + 1 = j
    · subst e
      rw [if_pos rfl, if_pos hj, if_pos (by omega)]
    · rw [if_neg e]
      congr 1
      by_cases c : 1 ≤ j ∧ j ≤ i
      · rw [if_pos c, if_pos (by omega)]
      · rw [if_neg c, if_neg (by omega)]
  · rw [if_neg (by omega), List.getElem?_eq_none (by rw [outQ_len]; omega), List.getElem?_eq_none (by rw [outQ_len]; omega)]
def sumQ (q : List Int) (i : Nat) : Int := ((List.range i).map fun t => q.getD (t + 1) 0).sum
theorem sumQ_succ (q : List Int) (i : Nat) : sumQ q (i + 1) = sumQ q i + q.getD (i + 1) 0 := sum_range_succ' _ i
theorem sumQ_all : ∀ (q : List Int), 1 ≤ q.length → q.getD 0 0 + sumQ q (q.length - 1) = q.sum
  | [], h => by simp at h
  | a :: t, _ => by
    rw [List.length_cons, Nat.add_sub_cancel, List.sum_cons]
    unfold sumQ
    have : ∀ t : List Int, ((List.range t.length).map fun i => (a :: t).getD (i + 1) 0).sum = t.sum := by
      intro t
      congr 1
      apply List.ext_getElem?
      intro i
      by_cases hi : i < t.length
      · rw [List.getElem?_map, List.getElem?_range hi, List.getElem?_eq_getElem hi]
        simp [hi]
      · rw [List.getElem?_eq_none (by simp; omega), List.getElem?_eq_none (by omega)]
    rw [this t]; rfl
theorem numQ {p : List Fr} {ds : List Dg} (h : polyB p = true) (hds : trOf (qsF p) = some ds) {i : Nat} (hi : i + 1 < p.length) :
    1 ≤ (gF p i).2 ∧ (gF p i).2 ≤ 1000000 ∧ (gF p (i + 1)).2 + (if i = 0 then 0 else (gF p (i - 1)).2) = (qsF p).getD (i + 1) 0 * (gF p i).2 ∧ 0 ≤ (gF p (i + 1)).2 ∧ (gF p (i + 1)).2 ≤ 1000000 ∧ (1 ≤ (qsF p).getD (i + 1) 0 ∧ (qsF p).getD (i + 1) 0 ≤ 12) := by
  obtain ⟨⟨n3, n12⟩, hfr, h0, _, hc⟩ := polyB_iff.1 h
  have hpf := poly_frs (polyB_F h)
  have hql := qsF_length (polyB_F h)
  have hw : ∀ i, i < p.length → (0 ≤ (gF p i).2 ∧ (gF p i).2 ≤ 1000000) := fun i hi => (fracB_iff.1 (hfr _ (gF_mem hi))).2.1
  have h1 : 1 ≤ (gF p i).2 := by
    have e := frsF_get (q := qsF p) (i := i) (by omega)
    rw [hpf] at e
    rw [gF_of e]
    exact (en_pos hds 0 (k := i + 1) (by omega) (by omega)).1
  have hq : (qsF p).getD (i + 1) 0 = crossF ((((-1, 0) :: p)[i]?).getD (0, 0)) (gF p (i + 1)) := by
    have := cs_get p (-1, 0) i (gF p i) (gF p (i + 1)) (gF_some (by omega)) (gF_some hi)
    unfold qsF
    rw [List.getD_eq_getElem?_getD, List.getElem?_cons_succ, this]; rfl
  have hb := trOf_bounds (l := qsF p) (by rw [hds]; rfl)
  have hqb : 1 ≤ (qsF p).getD (i + 1) 0 ∧ (qsF p).getD (i + 1) 0 ≤ 12 := by
    have hlt : i + 1 < (qsF p).length := by omega
    have := hb.2 _ (List.getElem_mem hlt)
    rw [List.getD_eq_getElem?_getD, List.getElem?_eq_getElem hlt, Option.getD_some]
    omega
  refine ⟨h1, (hw i (by omega)).2, ?_, (hw (i + 1) hi).1, (hw (i + 1) hi).2, hqb⟩
  rw [hq]
  by_cases c : i = 0
  · subst c
    have e2 := hc 0 (by omega)
    have e1 : crossF (-1, 0) (gF p 0) = 1 := by rw [h0]; decide
    have := (three_F e1 e2).2
    rw [if_pos rfl, List.getElem?_cons_zero, Option.getD_some]
    dsimp only at this
    omega
  · have e1 := hc (i - 1) (by omega)
    rw [show i - 1 + 1 = i by omega] at e1
    have e2 := hc i hi
    have := (three_F e1 e2).2
    rw [if_neg c, show i = (i - 1) + 1 by omega, List.getElem?_cons_succ, Nat.add_sub_cancel, gF_some (p := p) (i := i - 1) (by omega), Option.getD_some, show i - 1 + 1 = i by omega]
    omega
theorem F56_eq {p : List Fr} (h : polyB p = true) : F56 p = some ((), qsF p) := by
  obtain ⟨ds, hds⟩ := polyB_tr h
  obtain ⟨⟨n3, n12⟩, hfr, h0, _, hc⟩ := polyB_iff.1 h
  have hql := qsF_length (polyB_F h)
  have hsum := quid_sum (l := qsF p) (by rw [hds]; rfl)
  have hall := sumQ_all (qsF p) (by omega)
  have hsb : ∀ i, i < p.length → 0 ≤ sumQ (qsF p) i ∧ sumQ (qsF p) i ≤ 12 * (i : Int) := by
    intro i
    induction i with
    | zero => intro _; exact ⟨Int.le_refl 0, Int.le_refl 0⟩
    | succ i ih =>
      intro hi
      have a := ih (by omega)
      have b := (numQ h hds (i := i) hi).2.2.2.2.2
      rw [sumQ_succ]
      omega
  generalize hq : qsF p = q at *
  have key : ∀ (m i : Nat), i + 1 + m = p.length → F56_L5 ((p, ((p.length : Int), ((), (sumQ q i, (i : Int))))), outQ q i) = some (((p.length : Int), ((), sumQ q (p.length - 1))), outQ q (p.length - 1)) := by
    intro m
    induction m with
    | zero =>
      intro i hi
      have v1 : w64 ((i : Int) + 1) = ((i + 1 : Nat) : Int) := by rw [w64_id (by omega) (by omega)]; omega
      rw [show i = p.length - 1 by omega] at v1 ⊢
      simp only [F56_L5]
      refine loopO_done ?_
      rw [F56_L5_step, T.run_test, v1, if_neg (by rw [decide_eq_true_eq]; omega), T.run_test, if_pos (by simp), T.run_ret]
    | succ m ih =>
      intro i hi
      have v1 : w64 ((i : Int) + 1) = ((i + 1 : Nat) : Int) := by rw [w64_id (by omega) (by omega)]; omega
      obtain ⟨a1, a2, a3, a4, a5, a6⟩ := numQ h (by rw [hq]; exact hds) (i := i) (by omega)
      rw [hq] at a3 a6
      have ol := outQ_len q i
      have og := outQ_get (q := q) (i := i) (j := i + 1) (by omega)
      have os := outQ_set (q := q) (i := i) (by omega)
      have og2 : (outQ q (i + 1))[i + 1]? = some (q.getD (i + 1) 0) := by rw [outQ_get (by omega), if_pos (by omega)]
      have hsi := hsb i (by omega)
      have vs : w64 (sumQ q i + q.getD (i + 1) 0) = sumQ q (i + 1) := by rw [w64_id (by omega) (by omega), sumQ_succ]
      have hdiv : ∀ x : Int, x = q.getD (i + 1) 0 * (gF p i).2 → w64 (Int.tdiv x (gF p i).2) = q.getD (i + 1) 0 := by
        intro x hx
        rw [hx, Int.mul_tdiv_cancel _ (by omega), w64_id (by omega) (by omega)]
      rw [← ih (i + 1) (by omega)]
      simp only [F56_L5]
      refine loopO_next ?_
      rw [F56_L5_step, T.run_test, v1, if_pos (decide_eq_true (by omega)), T.run_test]
      simp only [v1, Int.toNat_natCast, Nat.zero_add, ol]
      by_cases c : i = 0
      · have hx : w64 (0 + (gF p (i + 1)).2) = q.getD (i + 1) 0 * (gF p i).2 := by
          rw [if_pos c] at a3
          rw [w64_id (by omega) (by omega)]; omega
        rw [if_neg (by rw [decide_eq_true_eq]; omega), T.run_test, if_pos (decide_eq_true (by omega)), T.run_sub, gF_some (p := p) (i := i + 1) (by omega), Option.bind_some, T.run_test, if_pos (decide_eq_true (by omega)), T.run_sub, gF_some (p := p) (i := i) (by omega), Option.bind_some, T.run_test, if_pos (decide_eq_true (by omega)), T.run_test, if_pos (decide_eq_true (by omega)), T.run_sub, og, Option.bind_some, T.run_test, if_pos (decide_eq_true (by omega))]
        simp only [hdiv _ hx, os, og2, vs, outQ_len]
        rw [T.run_sub, Option.bind_some, T.run_test, if_pos (by simp), T.run_ret, vs]
      · have v0 : w64 ((i : Int) - 1) = ((i - 1 : Nat) : Int) := by rw [w64_id (by omega) (by omega)]; omega
        have a7 := numQ h (by rw [hq]; exact hds) (i := i - 1) (by omega)
        have hx : w64 ((gF p (i - 1)).2 + (gF p (i + 1)).2) = q.getD (i + 1) 0 * (gF p i).2 := by
          rw [if_neg c] at a3
          rw [w64_id (by omega) (by omega)]; omega
        rw [if_pos (decide_eq_true (by omega)), T.run_test, v0, if_pos (decide_eq_true (by omega)), T.run_sub, Int.toNat_natCast, gF_some (p := p) (i := i - 1) (by omega), Option.bind_some, T.run_test, if_pos (decide_eq_true (by omega)), T.run_sub, gF_some (p := p) (i := i + 1) (by omega), Option.bind_some, T.run_test, if_pos (decide_eq_true (by omega)), T.run_sub, gF_some (p := p) (i := i) (by omega), Option.bind_some, T.run_test, if_pos (decide_eq_true (by omega)), T.run_test, if_pos (decide_eq_true (by omega)), T.run_sub, og, Option.bind_some, T.run_test, if_pos (decide_eq_true (by omega))]
        simp only [hdiv _ hx, os, og2, vs, outQ_len]
        rw [T.run_sub, Option.bind_some, T.run_test, if_pos (by simp), T.run_ret, vs]
  have hk := key (p.length - 1) 0 (by omega)
  have hz : outQ q 0 = List.replicate p.length (0 : Int) := by
    apply List.ext_getElem?
    intro j
    by_cases hj : j < q.length
    · rw [outQ_get hj, if_neg (by omega), List.getElem?_replicate, if_pos (by omega)]
    · rw [List.getElem?_eq_none (by rw [outQ_len]; omega), List.getElem?_eq_none (by simp; omega)]
  rw [hz] at hk
  have hk' : F56_L5 ((p, ((p.length : Int), ((), ((0 : Int), (0 : Int))))), List.replicate p.length (0 : Int)) = some (((p.length : Int), ((), sumQ q (p.length - 1))), outQ q (p.length - 1)) := hk
  have hs1 := hsb (p.length - 1) (by omega)
  rw [hql] at hall hsum
  have w1 : w64 (3 * (p.length : Int)) = 3 * (p.length : Int) := w64_id (by omega) (by omega)
  have w2 : w64 (3 * (p.length : Int) - 6) = 3 * (p.length : Int) - 6 := w64_id (by omega) (by omega)
  have w3 : w64 (3 * (p.length : Int) - 6 - sumQ q (p.length - 1)) = q.getD 0 0 := by rw [w64_id (by omega) (by omega)]; omega
  have hfin : (outQ q (p.length - 1)).set 0 (q.getD 0 0) = q := by
    apply List.ext_getElem?
    intro j
    rw [List.getElem?_set, outQ_len]
    by_cases hj : j < q.length
    · have e : q[j]? = some (q.getD j 0) := by rw [List.getD_eq_getElem?_getD, List.getElem?_eq_getElem hj]; rfl
      rw [outQ_get hj]
      by_cases c : 0 = j
      · subst c; rw [if_pos rfl, if_pos hj, e]
      · rw [if_neg c, if_pos (by omega), e]
    · rw [if_neg (by omega), List.getElem?_eq_none (by rw [outQ_len]; omega), List.getElem?_eq_none (by omega)]
  rw [F56, F56_t, T.run_test, if_pos (decide_eq_true (by omega)), T.run_test, if_pos (by simp), Int.toNat_natCast, T.run_sub, hk', Option.bind_some]
  have og0 := outQ_get (q := q) (i := p.length - 1) (j := 0) (by omega)
  have ol := outQ_len q (p.length - 1)
  rw [T.run_test, if_pos (decide_eq_true (by dsimp only; omega)), T.run_sub, og0, Option.bind_some]
  simp only [w1, w2, w3, hfin]
  rw [T.run_test, if_pos (by simp [outQ_len]), T.run_ret]


def F17_sh : FSh := ⟨[(.one (.sl (.pair (.int .i64) (.int .i64)) false false))], []⟩

def F17_fo : List FO := [⟨[(.one (.rw 0 0)), (.one .sb)], [(.row 0 (.int .i64))]⟩]
noncomputable def F17_t : List ((Int × Int)) → T ((Unit × Bool) × List (Int)) := fun list =>
 (.sub (F64 list) fun z0 =>
 (.test (! z0)
 (.test true
 (.ret (((), false), ([] : List (Int))))
 .fail)
 (.sub (F56 list) fun z1 =>
 (.test (decide ((0 = 0) ∧ ((List.length z1.2) = (List.length z1.2))))
 (.ret (((), true), z1.2))
 .fail))))
noncomputable def F17 (v : List ((Int × Int))) : Option ((Unit × Bool) × List (Int)) := (F17_t v).run
noncomputable def F17_E : TEnv := ((E0.add1 n_F64 F64_sh F64_fo F64).add1 n_F56 F56_sh F56_fo F56)
theorem F17_Eok : (F17_E).OK := ((E0ok.add1 F64_ok).add1 F56_ok)
noncomputable def F17_told : Nat → Option SealT := fun id => none
theorem F17_ok : FOK Tryz.prog n_F17 F17_sh F17_fo F17 :=
  fn_ok (E := F17_E) (F17_Eok) (told := F17_told) (fl := []) (c := bodyOf fn_F17) (s := F17_sh) (l := F17_fo) (tree := F17_t) fnat_F17 (by kernel_rfl) (by kernel_rfl) (by kernel_rfl) (loopsOK_of (ls := []) (by kernel_rfl) trivial) (fun v => by kernel_rfl)

theorem F17_eq (p : List Fr) (hl : p.length < 4611686018427387904) : F17 p = some (if polyB p = true then (((), true), qsF p) else (((), false), [])) := by
  rw [F17, F17_t, T.run_sub, F64_eq p hl, Option.bind_some, T.run_test]
  cases h : polyB p with
  | false => rw [if_pos (by rfl), T.run_test, if_pos rfl, T.run_ret]; rfl
  | true => rw [if_neg (by decide), T.run_sub, F56_eq h, Option.bind_some, T.run_test, if_pos (by simp), T.run_ret]; rfl


def F96_sh : FSh := ⟨[(.one (.si .i64))], []⟩

def F96_fo : List FO := [⟨[(.one (.si .i64))], []⟩]
noncomputable def F96_t : Int → T Int := fun n =>
 (.sub (F82 (n, (w64 (0 - n)))) fun z0 =>
 (.ret z0))
noncomputable def F96 (v : Int) : Option Int := (F96_t v).run
noncomputable def F96_E : TEnv := (E0.add1 n_F82 F82_sh F82_fo F82)
theorem F96_Eok : (F96_E).OK := (E0ok.add1 F82_ok)
noncomputable def F96_told : Nat → Option SealT := fun id => none
theorem F96_ok : FOK Tryz.prog n_F96 F96_sh F96_fo F96 :=
  fn_ok (E := F96_E) (F96_Eok) (told := F96_told) (fl := []) (c := bodyOf fn_F96) (s := F96_sh) (l := F96_fo) (tree := F96_t) fnat_F96 (by kernel_rfl) (by kernel_rfl) (by kernel_rfl) (loopsOK_of (ls := []) (by kernel_rfl) trivial) (fun v => by kernel_rfl)

theorem F96_val (x : Int) (h : -9000000000000000000 ≤ x ∧ x ≤ 9000000000000000000) : F96 x = some (if x > -x then x else -x) := by
  have w : w64 (0 - x) = -x := by rw [w64_id (by omega) (by omega)]; omega
  rw [F96, F96_t, T.run_sub, w, F82, F82_t, T.run_test]
  by_cases h : x > -x
  · rw [if_pos (decide_eq_true h), T.run_ret, Option.bind_some, T.run_ret, if_pos h]
  · rw [if_neg (by rw [decide_eq_true_eq]; exact h), T.run_ret, Option.bind_some, T.run_ret, if_neg h]


def F85_sh : FSh := ⟨[(.ag [(.si .i64), (.si .i64)]), (.ag [(.si .i64), (.si .i64)])], []⟩

def F85_fo : List FO := [⟨[(.one .sb)], []⟩]
noncomputable def F85_t : ((Int × Int) × (Int × Int)) → T Bool := fun ((f_0, f_1), (g_0, g_1)) =>
 (.sub (F79 ((f_0, f_1), (g_0, g_1))) fun z0 =>
 (.sub (F96 z0) fun z1 =>
 (.ret (z1 == 1))))
noncomputable def F85 (v : ((Int × Int) × (Int × Int))) : Option Bool := (F85_t v).run
noncomputable def F85_E : TEnv := ((E0.add1 n_F79 F79_sh F79_fo F79).add1 n_F96 F96_sh F96_fo F96)
theorem F85_Eok : (F85_E).OK := ((E0ok.add1 F79_ok).add1 F96_ok)
noncomputable def F85_told : Nat → Option SealT := fun id => none
theorem F85_ok : FOK Tryz.prog n_F85 F85_sh F85_fo F85 :=
  fn_ok (E := F85_E) (F85_Eok) (told := F85_told) (fl := []) (c := bodyOf fn_F85) (s := F85_sh) (l := F85_fo) (tree := F85_t) fnat_F85 (by kernel_rfl) (by kernel_rfl) (by kernel_rfl) (loopsOK_of (ls := []) (by kernel_rfl) trivial) (fun v => by kernel_rfl)

theorem F85_eq {f g : Fr} (hf : fracB f = true) (hg : fracB g = true) : F85 (f, g) = some (nearB f g) := by
  obtain ⟨h1, h2, h3⟩ := crossW_eq hf hg
  obtain ⟨a, b⟩ := f
  obtain ⟨c, d⟩ := g
  rw [F85, F85_t, T.run_sub, F79_eq, Option.bind_some, T.run_sub, h1, F96_val _ (by omega), Option.bind_some, T.run_ret]
  unfold nearB
  congr 1
  rw [Bool.eq_iff_iff, beq_iff_eq, decide_eq_true_eq]
  split <;> omega


def F65_sh : FSh := ⟨[(.one (.sl (.pair (.int .i64) (.int .i64)) false false))], []⟩

def F65_L9_sh : LSh := ⟨(fun ex => match ex with | .norm => [(0, none), (4, none), (5, none), (6, none), (7, none)] | .exit i => if i = 2 then [(0, none), (4, none), (5, none), (6, none)] else if i = 1 then [(0, none), (4, none), (5, none), (6, none)] else if i = 0 then [(5, none)] else [] | .ret => [(2, none), (3, none)]), [(0, (.one (.sl (.pair (.int .i64) (.int .i64)) false false))), (4, (.one (.si .i64))), (5, (.one (.rw 0 0))), (6, (.one (.si .i64))), (7, (.one (.si .i64)))], [(.row 0 (.pair (.int .i64) (.int .i64)))], [⟨(.exit 2), [(0, (.one (.sl (.pair (.int .i64) (.int .i64)) false false))), (4, (.one (.si .i64))), (5, (.one (.rw 0 0))), (6, (.one (.si .i64)))], [(.row 0 (.pair (.int .i64) (.int .i64)))]⟩], [], []⟩
noncomputable def F65_L9_step : ((List ((Int × Int)) × Int × Unit × Int × Int) × List ((Int × Int))) → T (((List ((Int × Int)) × Int × Unit × Int × Int) × List ((Int × Int))) ⊕ ((List ((Int × Int)) × Int × Unit × Int) × List ((Int × Int)))) := fun ((list, n, (), a, b), out) =>
 (.test (decide (b < n))
 (.test (decide (n ≠ 0))
 (.test (decide ((0 ≤ (Int.tmod (w64 ((w64 (a + n)) - 1)) n)) ∧ ((Int.tmod (w64 ((w64 (a + n)) - 1)) n) < ((List.length list) : Int))))
 (.sub (list[(Int.toNat (Int.tmod (w64 ((w64 (a + n)) - 1)) n))]?) fun z0 =>
 (.test (decide ((0 ≤ (w64 (b - 1))) ∧ ((w64 (b - 1)) < ((List.length list) : Int))))
 (.sub (list[(Int.toNat (w64 (b - 1)))]?) fun z1 =>
 (.test (decide ((w64 (b - a)) ≤ (w64 (n - 2))))
 (.sub (F85 (z0, z1)) fun z2 =>
 (.test z2
 (.test (decide (1 ≤ 1))
 (.test (decide ((0 + (List.length out)) ≤ (List.length out)))
 (.test (decide ((2 * (((List.length out) + 1) * 17)) ≤ 140737488355328))
 (.test (decide ((0 = 0) ∧ (((List.length out) + 1) = (List.length ((win out 0 (List.length out)) ++ [(a, b)])))))
 (.ret (Sum.inl ((list, (n, ((), (a, (w64 (b + 1)))))), ((win out 0 (List.length out)) ++ [(a, b)]))))
 .fail)
 .fail)
 .fail)
 .fail)
 (.test (decide ((0 = 0) ∧ ((List.length out) = (List.length out))))
 (.ret (Sum.inl ((list, (n, ((), (a, (w64 (b + 1)))))), out)))
 .fail)))
 (.test (decide ((0 = 0) ∧ ((List.length out) = (List.length out))))
 (.ret (Sum.inl ((list, (n, ((), (a, (w64 (b + 1)))))), out)))
 .fail)))
 .fail))
 .fail)
 .fail)
 (.test (decide ((0 = 0) ∧ ((List.length out) = (List.length out))))
 (.ret (Sum.inr ((list, (n, ((), a))), out)))
 .fail))
noncomputable def F65_L9 (v : ((List ((Int × Int)) × Int × Unit × Int × Int) × List ((Int × Int)))) : Option ((List ((Int × Int)) × Int × Unit × Int) × List ((Int × Int))) := loopO (fun v => (F65_L9_step v).run) v

def F65_L6_sh : LSh := ⟨(fun ex => match ex with | .norm => [(0, none), (4, none), (5, none), (6, none)] | .exit i => if i = 0 then [(5, none)] else [] | .ret => [(2, none), (3, none)]), [(0, (.one (.sl (.pair (.int .i64) (.int .i64)) false false))), (4, (.one (.si .i64))), (5, (.one (.rw 0 0))), (6, (.one (.si .i64)))], [(.row 0 (.pair (.int .i64) (.int .i64)))], [⟨(.exit 0), [(5, (.one (.rw 0 0)))], [(.row 0 (.pair (.int .i64) (.int .i64)))]⟩], [], []⟩
noncomputable def F65_L6_step : ((List ((Int × Int)) × Int × Unit × Int) × List ((Int × Int))) → T (((List ((Int × Int)) × Int × Unit × Int) × List ((Int × Int))) ⊕ (Unit × List ((Int × Int)))) := fun ((list, n, (), a), out) =>
 (.test (decide (a < n))
 (.test (decide ((0 = 0) ∧ ((List.length out) = (List.length out))))
 (.sub (F65_L9 ((list, (n, ((), (a, (w64 (a + 2)))))), out)) fun z0 =>
 (.test (decide ((0 = 0) ∧ ((List.length z0.2) = (List.length z0.2))))
 (.ret (Sum.inl ((z0.1.1, (z0.1.2.1, ((), (w64 (z0.1.2.2.2 + 1))))), z0.2)))
 .fail))
 .fail)
 (.test (decide ((0 = 0) ∧ ((List.length out) = (List.length out))))
 (.ret (Sum.inr ((), out)))
 .fail))
noncomputable def F65_L6 (v : ((List ((Int × Int)) × Int × Unit × Int) × List ((Int × Int)))) : Option (Unit × List ((Int × Int))) := loopO (fun v => (F65_L6_step v).run) v

def F65_fo : List FO := [⟨[(.one (.rw 0 0)), (.one .sb)], [(.row 0 (.pair (.int .i64) (.int .i64)))]⟩]
noncomputable def F65_t : List ((Int × Int)) → T ((Unit × Bool) × List ((Int × Int))) := fun list =>
 (.sub (F64 list) fun z0 =>
 (.test (! z0)
 (.test true
 (.ret (((), false), ([] : List (Int × Int))))
 .fail)
 (.test true
 (.sub (F65_L6 ((list, (((List.length list) : Int), ((), (0 : Int)))), ([] : List (Int × Int)))) fun z1 =>
 (.test (decide ((0 = 0) ∧ ((List.length z1.2) = (List.length z1.2))))
 (.ret (((), true), z1.2))
 .fail))
 .fail)))
noncomputable def F65 (v : List ((Int × Int))) : Option ((Unit × Bool) × List ((Int × Int))) := (F65_t v).run
noncomputable def F65_E : TEnv := ((E0.add1 n_F64 F64_sh F64_fo F64).add1 n_F85 F85_sh F85_fo F85)
theorem F65_Eok : (F65_E).OK := ((E0ok.add1 F64_ok).add1 F85_ok)
noncomputable def F65_told : Nat → Option SealT := fun id => if id = 9 then some (LSh.told F65_L9_sh 0 (F65_L9_step)) else if id = 6 then some (LSh.told F65_L6_sh 0 (F65_L6_step)) else none
theorem F65_L9_ok : ToldOK Tryz.prog 0 (loopAt (bodyOf fn_F65) [0, 0]) (LSh.told F65_L9_sh 0 (F65_L9_step)) :=
  loop_ok (E := F65_E) (F65_Eok) (told := F65_told) (l := F65_L9_sh) (step := F65_L9_step) (loopsOK_of (ls := []) (by kernel_rfl) trivial) (by kernel_rfl) (fun v => by kernel_rfl)
theorem F65_L6_ok : ToldOK Tryz.prog 0 (loopAt (bodyOf fn_F65) [0]) (LSh.told F65_L6_sh 0 (F65_L6_step)) :=
  loop_ok (E := F65_E) (F65_Eok) (told := F65_told) (l := F65_L6_sh) (step := F65_L6_step) (loopsOK_of (ls := [loopAt (bodyOf fn_F65) [0, 0]]) (by kernel_rfl) ⟨.inr ⟨_, by kernel_rfl, F65_L9_ok⟩, trivial⟩) (by kernel_rfl) (fun v => by kernel_rfl)
theorem F65_ok : FOK Tryz.prog n_F65 F65_sh F65_fo F65 :=
  fn_ok (E := F65_E) (F65_Eok) (told := F65_told) (fl := []) (c := bodyOf fn_F65) (s := F65_sh) (l := F65_fo) (tree := F65_t) fnat_F65 (by kernel_rfl) (by kernel_rfl) (by kernel_rfl) (loopsOK_of (ls := [loopAt (bodyOf fn_F65) [0]]) (by kernel_rfl) ⟨.inr ⟨_, by kernel_rfl, F65_L6_ok⟩, trivial⟩) (fun v => by kernel_rfl)

theorem F65_eq (p : List Fr) (hl : p.length < 4611686018427387904) : F65 p = some (if polyB p = true then (((), true), (trOf (qsF p)).getD []) else (((), false), [])) := by
  rw [F65, F65_t, T.run_sub, F64_eq p hl, Option.bind_some, T.run_test]
  cases h : polyB p with
  | false => rw [if_pos (by rfl), T.run_test, if_pos rfl, T.run_ret]; rfl
  | true =>
    obtain ⟨ds, hds⟩ := polyB_tr h
    obtain ⟨⟨n3, n12⟩, hfr, _, _, _⟩ := polyB_iff.1 h
    have hn := near_S hds
    rw [poly_frs (polyB_F h), nearS_flat n12] at hn
    have hgF : ∀ i, i < p.length → fracB (gF p i) = true := fun i hi => hfr _ (gF_mem hi)
    have inner : ∀ i : Nat, i < p.length → ∀ out : List Dg, out.length ≤ 12 * i → F65_L9 ((p, ((p.length : Int), ((), ((i : Int), (((i + 2 : Nat) : Int)))))), out) = some ((p, ((p.length : Int), ((), ((i : Int))))), out ++ (List.range' (i + 2) (p.length - (i + 2))).flatMap (sN p i)) := by
      intro i hi out ho
      refine app_loop (step := fun v => (F65_L9_step v).run) (fun k o => ((p, ((p.length : Int), ((), ((i : Int), ((k : Int)))))), o)) (sN p i) (fun o => ((p, ((p.length : Int), ((), ((i : Int))))), o)) p.length 1 (12 * i) (i + 2) (fun j => sN_len p i j) ?_ ?_ (p.length - (i + 2)) (i + 2) out (by omega) rfl (by omega)
      · intro o j hj
        rw [F65_L9_step, T.run_test, if_neg (by simp; omega), T.run_test, if_pos (by simp), T.run_ret]
      · intro k o hk2 hk ho
        · have v1 : w64 ((k : Int) + 1) = ((k + 1 : Nat) : Int) := by rw [w64_id (by omega) (by omega)]; omega
          have v2 : w64 ((i : Int) + (p.length : Int)) = ((i + p.length : Nat) : Int) := by rw [w64_id (by omega) (by omega)]; omega
          have v3 : w64 (((i + p.length : Nat) : Int) - 1) = ((i + p.length - 1 : Nat) : Int) := by rw [w64_id (by omega) (by omega)]; omega
          have v4 : w64 ((k : Int) - 1) = ((k - 1 : Nat) : Int) := by rw [w64_id (by omega) (by omega)]; omega
          have v5 : w64 ((k : Int) - (i : Int)) = ((k - i : Nat) : Int) := by rw [w64_id (by omega) (by omega)]; omega
          have v6 : w64 ((p.length : Int) - 2) = ((p.length - 2 : Nat) : Int) := by rw [w64_id (by omega) (by omega)]; omega
          have t1 : Int.tmod ((i + p.length - 1 : Nat) : Int) (p.length : Int) = (((i + p.length - 1) % p.length : Nat) : Int) := by
            rw [Int.tmod_eq_emod_of_nonneg (by omega)]; rfl
          have t2 : (i + p.length - 1) % p.length < p.length := Nat.mod_lt _ (by omega)
          rw [F65_L9_step, T.run_test, if_pos (decide_eq_true (by omega)), T.run_test, if_pos (decide_eq_true (by omega))]
          simp only [v1, v2, v3, v4, v5, v6, t1]
          rw [T.run_test, if_pos (decide_eq_true (by omega)), T.run_sub, Int.toNat_natCast, gF_some (p := p) t2, Option.bind_some, T.run_test, if_pos (decide_eq_true (by omega)), T.run_sub, Int.toNat_natCast, gF_some (p := p) (i := k - 1) (by omega), Option.bind_some, T.run_test]
          unfold sN
          by_cases c1 : k - i ≤ p.length - 2
          · rw [if_pos (decide_eq_true (by omega)), T.run_sub, F85_eq (hgF _ t2) (hgF (k - 1) (by omega)), Option.bind_some, T.run_test, decide_eq_true c1, Bool.true_and]
            cases c2 : nearB (gF p ((i + p.length - 1) % p.length)) (gF p (k - 1)) with
            | false =>
              rw [if_neg (by decide), T.run_test, if_pos (by simp), T.run_ret, if_neg (by decide), List.append_nil]
            | true =>
              rw [if_pos rfl, T.run_test, if_pos (by simp), T.run_test, if_pos (by simp), T.run_test, if_pos (decide_eq_true (by omega)), win_all, T.run_test, if_pos (by simp), T.run_ret]
              rfl
          · rw [if_neg (by rw [decide_eq_true_eq]; omega), T.run_test, if_pos (by simp), T.run_ret, decide_eq_false c1, Bool.false_and, if_neg (by decide), List.append_nil]
    have outer := app_loop (step := fun v => (F65_L6_step v).run) (fun k o => ((p, ((p.length : Int), ((), ((k : Int))))), o)) (fun i => (List.range' (i + 2) (p.length - (i + 2))).flatMap (sN p i)) (fun o => ((), o)) p.length 12 0 0
      (fun j => by
        have := flat_len (sN p j) 1 (sN_len p j) (List.range' (j + 2) (p.length - (j + 2)))
        rw [List.length_range'] at this
        omega)
      (fun o j hj => by
        rw [F65_L6_step, T.run_test, if_neg (by simp; omega), T.run_test, if_pos (by simp), T.run_ret])
      (fun j o _ hj ho => by
        have v1 : w64 ((j : Int) + 1) = ((j + 1 : Nat) : Int) := by rw [w64_id (by omega) (by omega)]; omega
        have v2 : w64 ((j : Int) + 2) = ((j + 2 : Nat) : Int) := by rw [w64_id (by omega) (by omega)]; omega
        rw [F65_L6_step, T.run_test, if_pos (decide_eq_true (by omega)), T.run_test, if_pos (by simp), T.run_sub, v2, inner j hj o (by omega), Option.bind_some, T.run_test, if_pos (by simp), T.run_ret, v1])
      p.length 0 [] (Nat.le_refl 0) rfl (by simp)
    have ho : F65_L6 ((p, ((p.length : Int), ((), ((0 : Int))))), ([] : List (Int × Int))) = some ((), ds) := by
      rw [← hn, List.range_eq_range']
      exact outer
    rw [if_neg (by decide), T.run_test, if_pos rfl, T.run_sub, ho, Option.bind_some, T.run_test, if_pos (by simp), T.run_ret, hds]; rfl


def F37_sh : FSh := ⟨[(.one (.sl (.int .u8) false true))], []⟩

def F37_fo : List FO := [⟨[(.ag [(.si .i64), (.si .i64)])], []⟩]
noncomputable def F37_t : List (Int) → T (Int × Int) := fun code =>
 (.sub (F58 (((), (3 : Int)), (code, ((0 : Int), (0 : Int))))) fun z0 =>
 (.test z0.1
 (.sub (F50 (((), (9 : Int)), z0.2)) fun z1 =>
 (.sub (F50 (((), (9 : Int)), z1.2)) fun z2 =>
 (.ret (z1.1, z2.1))))
 (.sub (F36 ((), z0.2)) fun z3 =>
 (.ret z3.1))))
noncomputable def F37 (v : List (Int)) : Option (Int × Int) := (F37_t v).run
noncomputable def F37_E : TEnv := (((E0.add1 n_F58 F58_sh F58_fo F58).add1 n_F50 F50_sh F50_fo F50).add1 n_F36 F36_sh F36_fo F36)
theorem F37_Eok : (F37_E).OK := (((E0ok.add1 F58_ok).add1 F50_ok).add1 F36_ok)
noncomputable def F37_told : Nat → Option SealT := fun id => none
theorem F37_ok : FOK Tryz.prog n_F37 F37_sh F37_fo F37 :=
  fn_ok (E := F37_E) (F37_Eok) (told := F37_told) (fl := []) (c := bodyOf fn_F37) (s := F37_sh) (l := F37_fo) (tree := F37_t) fnat_F37 (by kernel_rfl) (by kernel_rfl) (by kernel_rfl) (loopsOK_of (ls := []) (by kernel_rfl) trivial) (fun v => by kernel_rfl)

theorem F37_some {code : List Int} (h : bytesOK code) : ∃ f, F37 code = some f := by
  obtain ⟨b, ⟨d0, d1, d2⟩, e, hc⟩ := one_ok 3 (cur0 h) (by omega)
  rw [F37, F37_t, T.run_sub, e, Option.bind_some, T.run_test]
  dsimp only
  by_cases hb : b = true
  · obtain ⟨x, c2, e2, _, _, _, hc2⟩ := pick_ok 9 hc (by omega)
    obtain ⟨y, c3, e3, _, _, _, hc3⟩ := pick_ok 9 hc2 (by omega)
    rw [if_pos hb, T.run_sub, e2, Option.bind_some, T.run_sub, e3, Option.bind_some, T.run_ret]
    exact ⟨_, rfl⟩
  · obtain ⟨f, c2, e2, _⟩ := fraction_ok hc (by omega)
    rw [if_neg hb, T.run_sub, e2, Option.bind_some, T.run_ret]
    exact ⟨_, rfl⟩


def F24_sh : FSh := ⟨[(.one (.sl (.int .u8) false true))], []⟩

def F24_fo : List FO := [⟨[(.ag [(.si .i64), (.si .i64)])], []⟩]
noncomputable def F24_t : List (Int) → T (Int × Int) := fun code =>
 (.sub (F37 code) fun z0 =>
 (.ret z0))
noncomputable def F24 (v : List (Int)) : Option (Int × Int) := (F24_t v).run
noncomputable def F24_E : TEnv := (E0.add1 n_F37 F37_sh F37_fo F37)
theorem F24_Eok : (F24_E).OK := (E0ok.add1 F37_ok)
noncomputable def F24_told : Nat → Option SealT := fun id => none
theorem F24_ok : FOK Tryz.prog n_F24 F24_sh F24_fo F24 :=
  fn_ok (E := F24_E) (F24_Eok) (told := F24_told) (fl := []) (c := bodyOf fn_F24) (s := F24_sh) (l := F24_fo) (tree := F24_t) fnat_F24 (by kernel_rfl) (by kernel_rfl) (by kernel_rfl) (loopsOK_of (ls := []) (by kernel_rfl) trivial) (fun v => by kernel_rfl)

theorem F24_some {code : List Int} (h : bytesOK code) : ∃ f, F24 code = some f := by
  obtain ⟨f, e⟩ := F37_some h
  rw [F24, F24_t, T.run_sub, e, Option.bind_some, T.run_ret]
  exact ⟨_, rfl⟩


def F57_sh : FSh := ⟨[.one (.si .i64)], []⟩
def F57_fo : List FO := [⟨[.one .ss], []⟩]
def F57 (x : Int) : Option (List UInt8) := if -9223372036854775808 ≤ x ∧ x ≤ 9223372036854775807 then some (Lib.itoa x) else none
def F57_ren : Shelf.Ren := ⟨fun k => if k = 171 then 125 else if k = 243 then 171 else if k = 246 then 202 else if k = 283 then 230 else if k = 284 then 231 else if k = 285 then 232 else if k = 286 then 233 else if k = 129 then 218 else if k = 317 then 247 else if k = 318 then 248 else if k = 319 then 249 else if k = 320 then 250 else if k = 337 then 257 else if k = 338 then 258 else k, fun k => if k = 3 then 3 else if k = 9 then 9 else if k = 2 then 2 else if k = 4 then 4 else if k = 171 then 194 else if k = 0 then 0 else if k = 53 then 89 else if k = 37 then 22 else if k = 5 then 5 else if k = 173 then 196 else if k = 212 then 211 else if k = 51 then 153 else if k = 20 then 20 else if k = 213 then 212 else if k = 46 then 129 else if k = 232 then 224 else if k = 233 then 225 else k, fun k => if k = 17 then 0 else if k = 18 then 4 else if k = 19 then 5 else k⟩
theorem F57_lay : LaysM.n171 Tryz.prog F57_ren :=
  { mixed := by kernel_rfl, f129 := by kernel_rfl, f171 := by kernel_rfl, f243 := by kernel_rfl, f246 := by kernel_rfl, f283 := by kernel_rfl, f284 := by kernel_rfl, f285 := by kernel_rfl, f286 := by kernel_rfl, f317 := by kernel_rfl, f318 := by kernel_rfl, f319 := by kernel_rfl, f320 := by kernel_rfl, f337 := by kernel_rfl, f338 := by kernel_rfl, t0 := by kernel_rfl, a0 := fun w => by kernel_rfl, z0 := fun w => by kernel_rfl, v0 := fun w => by kernel_rfl, t2 := by kernel_rfl, a2 := fun w => by kernel_rfl, z2 := fun w => by kernel_rfl, v2 := fun w => by kernel_rfl, t3 := by kernel_rfl, a3 := fun w => by kernel_rfl, z3 := fun w => by kernel_rfl, v3 := fun w => by kernel_rfl, t4 := by kernel_rfl, a4 := fun w => by kernel_rfl, z4 := fun w => by kernel_rfl, v4 := fun w => by kernel_rfl, t5 := by kernel_rfl, a5 := fun w => by kernel_rfl, z5 := fun w => by kernel_rfl, v5 := fun w => by kernel_rfl, t9 := by kernel_rfl, a9 := fun w => by kernel_rfl, z9 := fun w => by kernel_rfl, v9 := fun w => by kernel_rfl, t20 := by kernel_rfl, a20 := fun w => by kernel_rfl, z20 := fun w => by kernel_rfl, v20 := fun w => by kernel_rfl, t37 := by kernel_rfl, a37 := fun w => by kernel_rfl, z37 := fun w => by kernel_rfl, v37 := fun w => by kernel_rfl, t46 := by kernel_rfl, a46 := fun w => by kernel_rfl, z46 := fun w => by kernel_rfl, v46 := fun w => by kernel_rfl, t51 := by kernel_rfl, a51 := fun w => by kernel_rfl, z51 := fun w => by kernel_rfl, v51 := fun w => by kernel_rfl, t53 := by kernel_rfl, a53 := fun w => by kernel_rfl, z53 := fun w => by kernel_rfl, v53 := fun w => by kernel_rfl, t171 := by kernel_rfl, a171 := fun w => by kernel_rfl, z171 := fun w => by kernel_rfl, v171 := fun w => by kernel_rfl, t173 := by kernel_rfl, a173 := fun w => by kernel_rfl, z173 := fun w => by kernel_rfl, v173 := fun w => by kernel_rfl, t212 := by kernel_rfl, a212 := fun w => by kernel_rfl, z212 := fun w => by kernel_rfl, v212 := fun w => by kernel_rfl, t213 := by kernel_rfl, a213 := fun w => by kernel_rfl, z213 := fun w => by kernel_rfl, t232 := by kernel_rfl, a232 := fun w => by kernel_rfl, z232 := fun w => by kernel_rfl, v232 := fun w => by kernel_rfl, t233 := by kernel_rfl, a233 := fun w => by kernel_rfl, z233 := fun w => by kernel_rfl, v233 := fun w => by kernel_rfl, g17 := by kernel_rfl, g18 := by kernel_rfl, g19 := by kernel_rfl, i0 := by kernel_rfl, i2 := by kernel_rfl, i3 := by kernel_rfl, i4 := by kernel_rfl, i5 := by kernel_rfl, i9 := by kernel_rfl, i20 := by kernel_rfl, i37 := by kernel_rfl, i46 := by kernel_rfl, i51 := by kernel_rfl, i53 := by kernel_rfl, i171 := by kernel_rfl, i173 := by kernel_rfl, i212 := by kernel_rfl, i232 := by kernel_rfl, i233 := by kernel_rfl, m17 := by kernel_rfl, m18 := by kernel_rfl, m19 := by kernel_rfl }
theorem F57_ok : FOK Tryz.prog n_F57 F57_sh F57_fo F57 :=
  strItoaAll_ok ⟨_, fnat_F57, by kernel_rfl, by kernel_rfl⟩ (ρr := F57_ren) rfl F57_lay (by kernel_rfl) (.head _)

def F97_sh : FSh := ⟨[(.one (.si .i64))], []⟩

def F97_fo : List FO := [⟨[(.one .ss)], []⟩]

noncomputable def F97_t (recv : Int → Option (List UInt8)) : Int → T (List UInt8) := fun n =>
 (.test (decide (n < 10))
 (.test (decide (1 ≤ (List.length (List.set (List.replicate 1 (0 : Int)) 0 (wu8 (w64 (48 + n)))))))
 (.ret (List.map (fun z => UInt8.ofNat z.toNat) (win (List.set (List.replicate 1 (0 : Int)) 0 (wu8 (w64 (48 + n)))) 0 1)))
 .fail)
 (.test true
 (.sub (recv (w64 (Int.tdiv n (10 : Int)))) fun z0 =>
 (.test true
 (.test (decide (1 ≤ (List.length (List.set (List.replicate 1 (0 : Int)) 0 (wu8 (w64 (48 + (Int.tmod n (10 : Int)))))))))
 (.test (decide (((List.length z0) + (List.length (List.map (fun z => UInt8.ofNat z.toNat) (win (List.set (List.replicate 1 (0 : Int)) 0 (wu8 (w64 (48 + (Int.tmod n (10 : Int)))))) 0 1)))) ≤ 140737488355328))
 (.ret (z0 ++ (List.map (fun z => UInt8.ofNat z.toNat) (win (List.set (List.replicate 1 (0 : Int)) 0 (wu8 (w64 (48 + (Int.tmod n (10 : Int)))))) 0 1))))
 .fail)
 .fail)
 .fail))
 .fail))
noncomputable def F97_f (recv : Int → Option (List UInt8)) (v : Int) : Option (List UInt8) := (F97_t recv v).run
noncomputable def F97 : Int → Option (List UInt8) := recF F97_f
noncomputable def F97_E (recv : Int → Option (List UInt8)) : TEnv := (E0.add1 n_F97 F97_sh F97_fo recv)
theorem F97_Eok (recv : Int → Option (List UInt8)) (hrec : FOK Tryz.prog n_F97 F97_sh F97_fo recv) : (F97_E recv).OK := (E0ok.add1 hrec)
noncomputable def F97_told (recv : Int → Option (List UInt8)) : Nat → Option SealT := fun id => none
theorem F97_okr (recv : Int → Option (List UInt8)) (hrec : FOK Tryz.prog n_F97 F97_sh F97_fo recv) : FOK Tryz.prog n_F97 F97_sh F97_fo (F97_f recv) :=
  fn_ok (E := F97_E recv) (F97_Eok recv hrec) (told := F97_told recv) (fl := []) (c := bodyOf fn_F97) (s := F97_sh) (l := F97_fo) (tree := F97_t recv) fnat_F97 (by kernel_rfl) (by kernel_rfl) (by kernel_rfl) (loopsOK_of (ls := []) (by kernel_rfl) trivial) (fun v => by kernel_rfl)
theorem F97_ok : FOK Tryz.prog n_F97 F97_sh F97_fo F97 := FOK.rec (fun F h => F97_okr F h) recLim

theorem F97_len (u : Nat) : (Lib.decDigits u).length ≤ u + 1 := by
  induction u using Nat.strongRecOn with
  | ind u ih =>
    rw [Lib.decDigits]
    split
    · simp
    · have := ih (u / 10) (by omega)
      simp only [List.length_append, List.length_cons, List.length_nil]; omega
theorem F97_dig (d : Nat) (h : d < 10) : List.map (fun (z : Int) => UInt8.ofNat z.toNat) (win (List.set (List.replicate 1 (0 : Int)) 0 (wu8 (w64 (48 + (d : Int))))) 0 1) = [UInt8.ofNat (48 + d)] := by
  have : d = 0 ∨ d = 1 ∨ d = 2 ∨ d = 3 ∨ d = 4 ∨ d = 5 ∨ d = 6 ∨ d = 7 ∨ d = 8 ∨ d = 9 := by omega
  rcases this with rfl | rfl | rfl | rfl | rfl | rfl | rfl | rfl | rfl | rfl <;> rfl
theorem F97_key : ∀ (k u : Nat), u < 10 ^ (k + 1) → u < 10000000000 → recN F97_f (k + 1) (u : Int) = some (Lib.decDigits u) := by
  intro k
  induction k with
  | zero =>
    intro u hu hb
    show F97_f (recN F97_f 0) u = _
    rw [F97_f, F97_t, T.run_test, Lib.decDigits, dif_pos (by omega), if_pos (decide_eq_true (by omega)), T.run_test, if_pos (by simp), T.run_ret, F97_dig u (by omega)]
  | succ k ih =>
    intro u hu hb
    show F97_f (recN F97_f (k + 1)) u = _
    rw [F97_f, F97_t, T.run_test, Lib.decDigits]
    by_cases h : u < 10
    · rw [dif_pos h, if_pos (decide_eq_true (by omega)), T.run_test, if_pos (by simp), T.run_ret, F97_dig u h]
    · have e1 : w64 (Int.tdiv (u : Int) 10) = ((u / 10 : Nat) : Int) := by
        have : Int.tdiv (u : Int) 10 = ((u / 10 : Nat) : Int) := rfl
        rw [this, w64_id (by omega) (by omega)]
      have e2 : Int.tmod (u : Int) 10 = ((u % 10 : Nat) : Int) := rfl
      have hp : u / 10 < 10 ^ (k + 1) := by
        rw [Nat.pow_succ] at hu; omega
      have hl := F97_len (u / 10)
      rw [dif_neg h, if_neg (by rw [decide_eq_true_eq]; omega), T.run_test, if_pos rfl, T.run_sub, e1, ih (u / 10) hp (by omega), Option.bind_some, T.run_test, if_pos rfl, T.run_test, if_pos (by simp), e2, F97_dig _ (by omega), T.run_test, if_pos (decide_eq_true (by simp only [List.length_cons, List.length_nil]; omega)), T.run_ret]
theorem F97_all (u : Nat) (h : u < 10000000000) : F97 (u : Int) = some (Lib.decDigits u) := by
  have := F97_key (recLim - 1) u (Nat.lt_of_lt_of_le h (Nat.le_trans (by decide : 10000000000 ≤ 10 ^ 10) (Nat.pow_le_pow_right (by omega) (by decide)))) h
  exact this


def F41_sh : FSh := ⟨[(.ag [(.si .i64), (.si .i64)])], []⟩

def F41_fo : List FO := [⟨[(.one .ss), (.one .sb)], []⟩]
noncomputable def F41_t : (Int × Int) → T (List UInt8 × Bool) := fun (f_0, f_1) =>
 (.sub (F84 (f_0, f_1)) fun z0 =>
 (.test (! z0)
 (.ret (([] : List (UInt8)), false))
 (.sub (F97 f_0) fun z1 =>
 (.test (decide (((List.length z1) + 1) ≤ 140737488355328))
 (.sub (F97 f_1) fun z2 =>
 (.test (decide (((List.length (z1 ++ [(47 : UInt8)])) + (List.length z2)) ≤ 140737488355328))
 (.ret (((z1 ++ [(47 : UInt8)]) ++ z2), true))
 .fail))
 .fail))))
noncomputable def F41 (v : (Int × Int)) : Option (List UInt8 × Bool) := (F41_t v).run
noncomputable def F41_E : TEnv := ((E0.add1 n_F84 F84_sh F84_fo F84).add1 n_F97 F97_sh F97_fo F97)
theorem F41_Eok : (F41_E).OK := ((E0ok.add1 F84_ok).add1 F97_ok)
noncomputable def F41_told : Nat → Option SealT := fun id => none
theorem F41_ok : FOK Tryz.prog n_F41 F41_sh F41_fo F41 :=
  fn_ok (E := F41_E) (F41_Eok) (told := F41_told) (fl := []) (c := bodyOf fn_F41) (s := F41_sh) (l := F41_fo) (tree := F41_t) fnat_F41 (by kernel_rfl) (by kernel_rfl) (by kernel_rfl) (loopsOK_of (ls := []) (by kernel_rfl) trivial) (fun v => by kernel_rfl)

def txF (f : Fr) : List UInt8 := Lib.itoa f.1 ++ [47] ++ Lib.itoa f.2
theorem F41_eq (f : Fr) : F41 f = some (if fracB f = true then (txF f, true) else ([], false)) := by
  obtain ⟨a, b⟩ := f
  rw [F41, F41_t, T.run_sub, F84_eq, Option.bind_some, T.run_test]
  cases h : fracB (a, b) with
  | false => rw [if_pos (by rfl), T.run_ret]; rfl
  | true =>
    obtain ⟨h1, h2, _⟩ := fracB_iff.1 h
    dsimp only at h1 h2
    obtain ⟨a, rfl⟩ := Int.eq_ofNat_of_zero_le h1.1
    obtain ⟨b, rfl⟩ := Int.eq_ofNat_of_zero_le h2.1
    have ea : Lib.itoa (a : Int) = Lib.decDigits a := by unfold Lib.itoa; rw [if_neg (by omega), Int.toNat_natCast]
    have eb : Lib.itoa (b : Int) = Lib.decDigits b := by unfold Lib.itoa; rw [if_neg (by omega), Int.toNat_natCast]
    have la := F97_len a
    have lb := F97_len b
    rw [if_neg (by decide), T.run_sub, F97_all a (by omega), Option.bind_some, T.run_test, if_pos (decide_eq_true (by omega)), T.run_sub, F97_all b (by omega), Option.bind_some, T.run_test, if_pos (decide_eq_true (by simp; omega)), T.run_ret, if_pos rfl]
    unfold txF
    dsimp only
    rw [ea, eb]


def F42_sh : FSh := ⟨[(.ag [(.si .i64), (.si .i64)])], []⟩

def F42_fo : List FO := [⟨[(.one .ss), (.one .sb)], []⟩]
noncomputable def F42_t : (Int × Int) → T (List UInt8 × Bool) := fun (f_0, f_1) =>
 (.sub (F55 (f_0, f_1)) fun z0 =>
 (.test (! z0)
 (.ret (([] : List (UInt8)), false))
 (.sub (F57 f_0) fun z1 =>
 (.test (decide (((List.length z1) + 1) ≤ 140737488355328))
 (.sub (F57 f_1) fun z2 =>
 (.test (decide (((List.length (z1 ++ [(47 : UInt8)])) + (List.length z2)) ≤ 140737488355328))
 (.ret (((z1 ++ [(47 : UInt8)]) ++ z2), true))
 .fail))
 .fail))))
noncomputable def F42 (v : (Int × Int)) : Option (List UInt8 × Bool) := (F42_t v).run
noncomputable def F42_E : TEnv := ((E0.add1 n_F55 F55_sh F55_fo F55).add1 n_F57 F57_sh F57_fo F57)
theorem F42_Eok : (F42_E).OK := ((E0ok.add1 F55_ok).add1 F57_ok)
noncomputable def F42_told : Nat → Option SealT := fun id => none
theorem F42_ok : FOK Tryz.prog n_F42 F42_sh F42_fo F42 :=
  fn_ok (E := F42_E) (F42_Eok) (told := F42_told) (fl := []) (c := bodyOf fn_F42) (s := F42_sh) (l := F42_fo) (tree := F42_t) fnat_F42 (by kernel_rfl) (by kernel_rfl) (by kernel_rfl) (loopsOK_of (ls := []) (by kernel_rfl) trivial) (fun v => by kernel_rfl)

theorem F42_eq (f : Fr) : F42 f = some (if fracB f = true then (txF f, true) else ([], false)) := by
  obtain ⟨a, b⟩ := f
  rw [F42, F42_t, T.run_sub, F55_eq, Option.bind_some, T.run_test]
  cases h : fracB (a, b) with
  | false => rw [if_pos (by rfl), T.run_ret]; rfl
  | true =>
    obtain ⟨h1, h2, _⟩ := fracB_iff.1 h
    dsimp only at h1 h2
    obtain ⟨a, rfl⟩ := Int.eq_ofNat_of_zero_le h1.1
    obtain ⟨b, rfl⟩ := Int.eq_ofNat_of_zero_le h2.1
    have ea : Lib.itoa (a : Int) = Lib.decDigits a := by unfold Lib.itoa; rw [if_neg (by omega), Int.toNat_natCast]
    have eb : Lib.itoa (b : Int) = Lib.decDigits b := by unfold Lib.itoa; rw [if_neg (by omega), Int.toNat_natCast]
    have la := F97_len a
    have lb := F97_len b
    have ia : F57 (a : Int) = some (Lib.itoa a) := by unfold F57; rw [if_pos (by omega)]
    have ib : F57 (b : Int) = some (Lib.itoa b) := by unfold F57; rw [if_pos (by omega)]
    rw [if_neg (by decide), T.run_sub, ia, Option.bind_some, T.run_test, if_pos (decide_eq_true (by rw [ea]; omega)), T.run_sub, ib, Option.bind_some, T.run_test, if_pos (decide_eq_true (by rw [ea, eb]; simp; omega)), T.run_ret, if_pos rfl]
    rfl


def F21_sh : FSh := ⟨[(.one (.sl (.pair (.int .i64) (.int .i64)) false false))], []⟩

def F21_fo : List FO := [⟨[(.one .sb)], []⟩]
noncomputable def F21_t : List ((Int × Int)) → T Bool := fun list =>
 (.sub (F64 list) fun z0 =>
 (.ret z0))
noncomputable def F21 (v : List ((Int × Int))) : Option Bool := (F21_t v).run
noncomputable def F21_E : TEnv := (E0.add1 n_F64 F64_sh F64_fo F64)
theorem F21_Eok : (F21_E).OK := (E0ok.add1 F64_ok)
noncomputable def F21_told : Nat → Option SealT := fun id => none
theorem F21_ok : FOK Tryz.prog n_F21 F21_sh F21_fo F21 :=
  fn_ok (E := F21_E) (F21_Eok) (told := F21_told) (fl := []) (c := bodyOf fn_F21) (s := F21_sh) (l := F21_fo) (tree := F21_t) fnat_F21 (by kernel_rfl) (by kernel_rfl) (by kernel_rfl) (loopsOK_of (ls := []) (by kernel_rfl) trivial) (fun v => by kernel_rfl)

theorem F21_eq (p : List Fr) (hl : p.length < 4611686018427387904) : F21 p = some (polyB p) := by
  rw [F21, F21_t, T.run_sub, F64_eq p hl, Option.bind_some, T.run_ret]


def l_FnFractionPolygons_sh : FSh := ⟨[(.one (.sl (.int .u8) false true)), (.one (.sl (.int .u8) false true))], []⟩

def l_FnFractionPolygons_R6_sh : LSh := ⟨(fun ex => match ex with | .norm => [(1, none), (5, none), (6, none), (7, none), (70, none)] | .exit i => [] | .ret => [(4, none)]), [(1, (.one (.sl (.int .u8) false true))), (5, (.one (.sl (.int .i64) false true))), (6, (.one (.rw 0 0))), (7, (.one .sb)), (8, (.one (.rw 1 0))), (9, (.one .sb))], [(.row 0 (.pair (.int .i64) (.int .i64))), (.row 0 (.pair (.int .i64) (.int .i64)))], [⟨.norm, [(1, (.one (.sl (.int .u8) false true))), (5, (.one (.sl (.int .i64) false true))), (6, (.one (.rw 0 0))), (7, (.one .sb)), (70, (.one .sb))], [(.row 0 (.pair (.int .i64) (.int .i64)))]⟩], [], []⟩
noncomputable def l_FnFractionPolygons_R6_step : ((List (Int) × List (Int) × Unit × Bool × Unit × Bool) × (List ((Int × Int)) × List ((Int × Int)))) → T ((List (Int) × List (Int) × Unit × Bool × Bool) × List ((Int × Int))) := fun ((more, quiddity, (), ok, (), fine), (list, right)) =>
 (.test (! (ok == fine))
 (.test (decide ((0 = 0) ∧ ((List.length list) = (List.length list))))
 (.ret ((more, (quiddity, ((), (ok, true)))), list))
 .fail)
 (.test (decide ((0 + (List.length list)) ≤ (List.length list)))
 (.test (decide ((0 + (List.length right)) ≤ (List.length right)))
 (.sub (F54 ((win list 0 (List.length list)), (win right 0 (List.length right)))) fun z0 =>
 (.test (! z0)
 (.test (decide ((0 = 0) ∧ ((List.length list) = (List.length list))))
 (.ret ((more, (quiddity, ((), (ok, true)))), list))
 .fail)
 (.sub (F52 quiddity) fun z1 =>
 (.test (decide ((0 = 0) ∧ ((List.length list) = (List.length list))))
 (.ret ((more, (quiddity, ((), (ok, (! (ok == z1)))))), list))
 .fail))))
 .fail)
 .fail))
noncomputable def l_FnFractionPolygons_R6 (v : ((List (Int) × List (Int) × Unit × Bool × Unit × Bool) × (List ((Int × Int)) × List ((Int × Int))))) : Option ((List (Int) × List (Int) × Unit × Bool × Bool) × List ((Int × Int))) := (l_FnFractionPolygons_R6_step v).run

def l_FnFractionPolygons_R14_sh : LSh := ⟨(fun ex => match ex with | .norm => [(1, none), (5, none), (6, none), (10, none), (17, none), (130, none)] | .exit i => [] | .ret => [(4, none)]), [(1, (.one (.sl (.int .u8) false true))), (5, (.one (.sl (.int .i64) false true))), (6, (.one (.rw 0 0))), (10, (.one (.si .i64))), (11, (.one (.rw 1 0))), (12, (.one .sb)), (13, (.one (.rw 2 0))), (14, (.one .sb)), (15, (.one (.rw 3 0))), (16, (.one .sb)), (17, (.one (.rw 4 0))), (18, (.one .sb))], [(.row 0 (.pair (.int .i64) (.int .i64))), (.row 0 (.int .i64)), (.row 0 (.pair (.int .i64) (.int .i64))), (.row 0 (.pair (.int .i64) (.int .i64))), (.row 0 (.int .i64))], [⟨.norm, [(1, (.one (.sl (.int .u8) false true))), (5, (.one (.sl (.int .i64) false true))), (6, (.one (.rw 0 0))), (10, (.one (.si .i64))), (17, (.one (.rw 1 0))), (130, (.one .sb))], [(.row 0 (.pair (.int .i64) (.int .i64))), (.row 0 (.int .i64))]⟩], [], []⟩
noncomputable def l_FnFractionPolygons_R14_step : ((List (Int) × List (Int) × Unit × Int × Unit × Bool × Unit × Bool × Unit × Bool × Unit × Bool) × (List ((Int × Int)) × List (Int) × List ((Int × Int)) × List ((Int × Int)) × List (Int))) → T ((List (Int) × List (Int) × Unit × Int × Unit × Bool) × (List ((Int × Int)) × List (Int))) := fun ((more, quiddity, (), n, (), one, (), two, (), three, (), four), (list, back, pairs, ds, diagonal)) =>
 (.test (decide ((0 + (List.length list)) ≤ (List.length list)))
 (.sub (F20 (win list 0 (List.length list))) fun z0 =>
 (.test (! z0)
 (.test (decide ((0 = 0) ∧ ((List.length list) = (List.length list))))
 (.test (decide ((0 = 0) ∧ ((List.length diagonal) = (List.length diagonal))))
 (.ret ((more, (quiddity, ((), (n, ((), true))))), (list, diagonal)))
 .fail)
 .fail)
 (.test (((List.length list) : Int) != n)
 (.test (decide ((0 = 0) ∧ ((List.length list) = (List.length list))))
 (.test (decide ((0 = 0) ∧ ((List.length diagonal) = (List.length diagonal))))
 (.ret ((more, (quiddity, ((), (n, ((), true))))), (list, diagonal)))
 .fail)
 .fail)
 (.test (! one)
 (.test (decide ((0 = 0) ∧ ((List.length list) = (List.length list))))
 (.test (decide ((0 = 0) ∧ ((List.length diagonal) = (List.length diagonal))))
 (.ret ((more, (quiddity, ((), (n, ((), true))))), (list, diagonal)))
 .fail)
 .fail)
 (.test (decide ((0 + (List.length back)) ≤ (List.length back)))
 (.sub (F93 ((win back 0 (List.length back)), quiddity)) fun z1 =>
 (.test (! z1)
 (.test (decide ((0 = 0) ∧ ((List.length list) = (List.length list))))
 (.test (decide ((0 = 0) ∧ ((List.length diagonal) = (List.length diagonal))))
 (.ret ((more, (quiddity, ((), (n, ((), true))))), (list, diagonal)))
 .fail)
 .fail)
 (.test (! two)
 (.test (decide ((0 = 0) ∧ ((List.length list) = (List.length list))))
 (.test (decide ((0 = 0) ∧ ((List.length diagonal) = (List.length diagonal))))
 (.ret ((more, (quiddity, ((), (n, ((), true))))), (list, diagonal)))
 .fail)
 .fail)
 (.test (! three)
 (.test (decide ((0 = 0) ∧ ((List.length list) = (List.length list))))
 (.test (decide ((0 = 0) ∧ ((List.length diagonal) = (List.length diagonal))))
 (.ret ((more, (quiddity, ((), (n, ((), true))))), (list, diagonal)))
 .fail)
 .fail)
 (.test (decide ((0 + (List.length pairs)) ≤ (List.length pairs)))
 (.test (decide ((0 + (List.length ds)) ≤ (List.length ds)))
 (.sub (F94 ((win pairs 0 (List.length pairs)), (win ds 0 (List.length ds)))) fun z2 =>
 (.test (! z2)
 (.test (decide ((0 = 0) ∧ ((List.length list) = (List.length list))))
 (.test (decide ((0 = 0) ∧ ((List.length diagonal) = (List.length diagonal))))
 (.ret ((more, (quiddity, ((), (n, ((), true))))), (list, diagonal)))
 .fail)
 .fail)
 (.test (decide ((0 = 0) ∧ ((List.length list) = (List.length list))))
 (.test (decide ((0 = 0) ∧ ((List.length diagonal) = (List.length diagonal))))
 (.ret ((more, (quiddity, ((), (n, ((), (! four)))))), (list, diagonal)))
 .fail)
 .fail)))
 .fail)
 .fail)))))
 .fail)))))
 .fail)
noncomputable def l_FnFractionPolygons_R14 (v : ((List (Int) × List (Int) × Unit × Int × Unit × Bool × Unit × Bool × Unit × Bool × Unit × Bool) × (List ((Int × Int)) × List (Int) × List ((Int × Int)) × List ((Int × Int)) × List (Int)))) : Option ((List (Int) × List (Int) × Unit × Int × Unit × Bool) × (List ((Int × Int)) × List (Int))) := (l_FnFractionPolygons_R14_step v).run

def l_FnFractionPolygons_R26_sh : LSh := ⟨(fun ex => match ex with | .norm => [(1, none), (5, none), (6, none), (10, none), (17, none), (19, none), (20, none), (186, none)] | .exit i => if i = 3 then [(1, none), (5, none), (6, none), (10, none), (17, none), (19, none), (20, none)] else if i = 2 then [(1, none), (5, none), (6, none), (10, none), (17, none), (19, none)] else if i = 1 then [(1, none), (5, none), (6, none), (10, none), (17, none), (19, none)] else if i = 0 then [(1, none)] else [] | .ret => [(4, none)]), [(1, (.one (.sl (.int .u8) false true))), (5, (.one (.sl (.int .i64) false true))), (6, (.one (.rw 0 0))), (10, (.one (.si .i64))), (17, (.one (.rw 1 0))), (19, (.one (.si .i64))), (20, (.one (.si .i64))), (21, (.one (.si .i64))), (22, (.one .sb)), (23, (.one (.si .i64))), (24, (.one .sb))], [(.row 0 (.pair (.int .i64) (.int .i64))), (.row 0 (.int .i64))], [⟨.norm, [(1, (.one (.sl (.int .u8) false true))), (5, (.one (.sl (.int .i64) false true))), (6, (.one (.rw 0 0))), (10, (.one (.si .i64))), (17, (.one (.rw 1 0))), (19, (.one (.si .i64))), (20, (.one (.si .i64))), (186, (.one .sb))], [(.row 0 (.pair (.int .i64) (.int .i64))), (.row 0 (.int .i64))]⟩], [], []⟩
noncomputable def l_FnFractionPolygons_R26_step : ((List (Int) × List (Int) × Unit × Int × Unit × Int × Int × Int × Bool × Int × Bool) × (List ((Int × Int)) × List (Int))) → T ((List (Int) × List (Int) × Unit × Int × Unit × Int × Int × Bool) × (List ((Int × Int)) × List (Int))) := fun ((more, quiddity, (), n, (), i, j, cross, five, entry, six), (list, diagonal)) =>
 (.test (! five)
 (.test (decide ((0 = 0) ∧ ((List.length list) = (List.length list))))
 (.test (decide ((0 = 0) ∧ ((List.length diagonal) = (List.length diagonal))))
 (.ret ((more, (quiddity, ((), (n, ((), (i, (j, true))))))), (list, diagonal)))
 .fail)
 .fail)
 (.test (! six)
 (.test (decide ((0 = 0) ∧ ((List.length list) = (List.length list))))
 (.test (decide ((0 = 0) ∧ ((List.length diagonal) = (List.length diagonal))))
 (.ret ((more, (quiddity, ((), (n, ((), (i, (j, true))))))), (list, diagonal)))
 .fail)
 .fail)
 (.test (decide ((0 = 0) ∧ ((List.length list) = (List.length list))))
 (.test (decide ((0 = 0) ∧ ((List.length diagonal) = (List.length diagonal))))
 (.ret ((more, (quiddity, ((), (n, ((), (i, (j, (cross != entry)))))))), (list, diagonal)))
 .fail)
 .fail)))
noncomputable def l_FnFractionPolygons_R26 (v : ((List (Int) × List (Int) × Unit × Int × Unit × Int × Int × Int × Bool × Int × Bool) × (List ((Int × Int)) × List (Int)))) : Option ((List (Int) × List (Int) × Unit × Int × Unit × Int × Int × Bool) × (List ((Int × Int)) × List (Int))) := (l_FnFractionPolygons_R26_step v).run

def l_FnFractionPolygons_L22_sh : LSh := ⟨(fun ex => match ex with | .norm => [(1, none), (5, none), (6, none), (10, none), (17, none), (19, none), (20, none)] | .exit i => if i = 2 then [(1, none), (5, none), (6, none), (10, none), (17, none), (19, none)] else if i = 1 then [(1, none), (5, none), (6, none), (10, none), (17, none), (19, none)] else if i = 0 then [(1, none)] else [] | .ret => [(4, none)]), [(1, (.one (.sl (.int .u8) false true))), (5, (.one (.sl (.int .i64) false true))), (6, (.one (.rw 0 0))), (10, (.one (.si .i64))), (17, (.one (.rw 1 0))), (19, (.one (.si .i64))), (20, (.one (.si .i64)))], [(.row 0 (.pair (.int .i64) (.int .i64))), (.row 0 (.int .i64))], [⟨.ret, [(4, (.one .sb))], []⟩, ⟨(.exit 2), [(1, (.one (.sl (.int .u8) false true))), (5, (.one (.sl (.int .i64) false true))), (6, (.one (.rw 0 0))), (10, (.one (.si .i64))), (17, (.one (.rw 1 0))), (19, (.one (.si .i64)))], [(.row 0 (.pair (.int .i64) (.int .i64))), (.row 0 (.int .i64))]⟩], [], []⟩
noncomputable def l_FnFractionPolygons_L22_step : ((List (Int) × List (Int) × Unit × Int × Unit × Int × Int) × (List ((Int × Int)) × List (Int))) → T (((List (Int) × List (Int) × Unit × Int × Unit × Int × Int) × (List ((Int × Int)) × List (Int))) ⊕ (Bool ⊕ ((List (Int) × List (Int) × Unit × Int × Unit × Int) × (List ((Int × Int)) × List (Int))))) := fun ((more, quiddity, (), n, (), i, j), (list, diagonal)) =>
 (.test (decide (j < n))
 (.test (decide ((0 ≤ (w64 (i - 1))) ∧ ((w64 (i - 1)) < ((List.length list) : Int))))
 (.sub (list[(0 + (Int.toNat (w64 (i - 1))))]?) fun z0 =>
 (.test (decide ((0 ≤ (w64 (j - 1))) ∧ ((w64 (j - 1)) < ((List.length list) : Int))))
 (.sub (list[(0 + (Int.toNat (w64 (j - 1))))]?) fun z1 =>
 (.sub (F76 (z0, z1)) fun z2 =>
 (.sub (F78 (quiddity, (i, j))) fun z3 =>
 (.test (decide ((0 = 0) ∧ ((List.length list) = (List.length list))))
 (.test (decide ((0 = 0) ∧ ((List.length diagonal) = (List.length diagonal))))
 (.sub (l_FnFractionPolygons_R26 ((more, (quiddity, ((), (n, ((), (i, (j, (z2.1, (z2.2, z3))))))))), (list, diagonal))) fun z4 =>
 (.test z4.1.2.2.2.2.2.2.2
 (.ret (Sum.inr (Sum.inl false)))
 (.test (decide ((0 = 0) ∧ ((List.length z4.2.1) = (List.length z4.2.1))))
 (.test (decide ((0 = 0) ∧ ((List.length z4.2.2) = (List.length z4.2.2))))
 (.ret (Sum.inl ((z4.1.1, (z4.1.2.1, ((), (z4.1.2.2.2.1, ((), (z4.1.2.2.2.2.2.1, (w64 (z4.1.2.2.2.2.2.2.1 + 1)))))))), z4.2)))
 .fail)
 .fail)))
 .fail)
 .fail))))
 .fail))
 .fail)
 (.test (decide ((0 = 0) ∧ ((List.length list) = (List.length list))))
 (.test (decide ((0 = 0) ∧ ((List.length diagonal) = (List.length diagonal))))
 (.ret (Sum.inr (Sum.inr ((more, (quiddity, ((), (n, ((), i))))), (list, diagonal)))))
 .fail)
 .fail))
noncomputable def l_FnFractionPolygons_L22 (v : ((List (Int) × List (Int) × Unit × Int × Unit × Int × Int) × (List ((Int × Int)) × List (Int)))) : Option (Bool ⊕ ((List (Int) × List (Int) × Unit × Int × Unit × Int) × (List ((Int × Int)) × List (Int)))) := loopO (fun v => (l_FnFractionPolygons_L22_step v).run) v

def l_FnFractionPolygons_L17_sh : LSh := ⟨(fun ex => match ex with | .norm => [(1, none), (5, none), (6, none), (10, none), (17, none), (19, none)] | .exit i => if i = 0 then [(1, none)] else [] | .ret => [(4, none)]), [(1, (.one (.sl (.int .u8) false true))), (5, (.one (.sl (.int .i64) false true))), (6, (.one (.rw 0 0))), (10, (.one (.si .i64))), (17, (.one (.rw 1 0))), (19, (.one (.si .i64)))], [(.row 0 (.pair (.int .i64) (.int .i64))), (.row 0 (.int .i64))], [⟨.ret, [(4, (.one .sb))], []⟩, ⟨(.exit 0), [(1, (.one (.sl (.int .u8) false true)))], []⟩], [], []⟩
noncomputable def l_FnFractionPolygons_L17_step : ((List (Int) × List (Int) × Unit × Int × Unit × Int) × (List ((Int × Int)) × List (Int))) → T (((List (Int) × List (Int) × Unit × Int × Unit × Int) × (List ((Int × Int)) × List (Int))) ⊕ (Bool ⊕ List (Int))) := fun ((more, quiddity, (), n, (), i), (list, diagonal)) =>
 (.test (decide (i < n))
 (.test (decide ((0 ≤ (w64 (i - 1))) ∧ ((w64 (i - 1)) < ((List.length list) : Int))))
 (.sub (list[(0 + (Int.toNat (w64 (i - 1))))]?) fun z0 =>
 (.test (decide ((0 ≤ (w64 (i - 1))) ∧ ((w64 (i - 1)) < ((List.length diagonal) : Int))))
 (.sub (diagonal[(0 + (Int.toNat (w64 (i - 1))))]?) fun z1 =>
 (.test (z0.2 != z1)
 (.ret (Sum.inr (Sum.inl false)))
 (.test (decide ((0 = 0) ∧ ((List.length list) = (List.length list))))
 (.test (decide ((0 = 0) ∧ ((List.length diagonal) = (List.length diagonal))))
 (.sub (l_FnFractionPolygons_L22 ((more, (quiddity, ((), (n, ((), (i, (w64 (i + 1)))))))), (list, diagonal))) fun z2 =>
 (.test (Sum.isLeft z2)
 (.sub (Sum.getLeft? z2) fun z3 =>
 (.ret (Sum.inr (Sum.inl z3))))
 (.sub (Sum.getRight? z2) fun z4 =>
 (.test (decide ((0 = 0) ∧ ((List.length z4.2.1) = (List.length z4.2.1))))
 (.test (decide ((0 = 0) ∧ ((List.length z4.2.2) = (List.length z4.2.2))))
 (.ret (Sum.inl ((z4.1.1, (z4.1.2.1, ((), (z4.1.2.2.2.1, ((), (w64 (z4.1.2.2.2.2.2 + 1))))))), z4.2)))
 .fail)
 .fail))))
 .fail)
 .fail)))
 .fail))
 .fail)
 (.ret (Sum.inr (Sum.inr more))))
noncomputable def l_FnFractionPolygons_L17 (v : ((List (Int) × List (Int) × Unit × Int × Unit × Int) × (List ((Int × Int)) × List (Int)))) : Option (Bool ⊕ List (Int)) := loopO (fun v => (l_FnFractionPolygons_L17_step v).run) v

def l_FnFractionPolygons_C9_sh : LSh := ⟨(fun ex => match ex with | .norm => [(1, none)] | .exit i => [] | .ret => [(4, none)]), [(1, (.one (.sl (.int .u8) false true))), (5, (.one (.sl (.int .i64) false true))), (6, (.one (.rw 0 0))), (7, (.one .sb))], [(.row 0 (.pair (.int .i64) (.int .i64)))], [⟨.ret, [(4, (.one .sb))], []⟩, ⟨.norm, [(1, (.one (.sl (.int .u8) false true)))], []⟩], [], []⟩
noncomputable def l_FnFractionPolygons_C9_step : ((List (Int) × List (Int) × Unit × Bool) × List ((Int × Int))) → T (Bool ⊕ List (Int)) := fun ((more, quiddity, (), ok), list) =>
 (.test ok
 (.test (decide ((0 + (List.length list)) ≤ (List.length list)))
 (.sub (F16 (win list 0 (List.length list))) fun z0 =>
 (.test (decide ((0 + (List.length list)) ≤ (List.length list)))
 (.sub (F62 (win list 0 (List.length list))) fun z1 =>
 (.sub (F29 quiddity) fun z2 =>
 (.sub (F23 (quiddity, (0 : Int))) fun z3 =>
 (.test (decide ((0 = 0) ∧ ((List.length list) = (List.length list))))
 (.test (decide ((0 = 0) ∧ ((List.length z0.2) = (List.length z0.2))))
 (.test (decide ((0 = 0) ∧ ((List.length z1.2) = (List.length z1.2))))
 (.test (decide ((0 = 0) ∧ ((List.length z2.2) = (List.length z2.2))))
 (.test (decide ((0 = 0) ∧ ((List.length z3.2) = (List.length z3.2))))
 (.sub (l_FnFractionPolygons_R14 ((more, (quiddity, ((), (((List.length quiddity) : Int), ((), (z0.1.2, ((), (z1.1.2, ((), (z2.1.2, ((), z3.1.2))))))))))), (list, (z0.2, (z1.2, (z2.2, z3.2)))))) fun z4 =>
 (.test z4.1.2.2.2.2.2
 (.ret (Sum.inl false))
 (.test (decide ((0 = 0) ∧ ((List.length z4.2.1) = (List.length z4.2.1))))
 (.test (decide ((0 = 0) ∧ ((List.length z4.2.2) = (List.length z4.2.2))))
 (.sub (l_FnFractionPolygons_L17 ((z4.1.1, (z4.1.2.1, ((), (z4.1.2.2.2.1, ((), (1 : Int)))))), z4.2)) fun z5 =>
 (.test (Sum.isLeft z5)
 (.sub (Sum.getLeft? z5) fun z6 =>
 (.ret (Sum.inl z6)))
 (.sub (Sum.getRight? z5) fun z7 =>
 (.ret (Sum.inr z7)))))
 .fail)
 .fail)))
 .fail)
 .fail)
 .fail)
 .fail)
 .fail))))
 .fail))
 .fail)
 (.ret (Sum.inr more)))
noncomputable def l_FnFractionPolygons_C9 (v : ((List (Int) × List (Int) × Unit × Bool) × List ((Int × Int)))) : Option (Bool ⊕ List (Int)) := (l_FnFractionPolygons_C9_step v).run

def l_FnFractionPolygons_R36_sh : LSh := ⟨(fun ex => match ex with | .norm => [(25, none), (26, none), (27, none), (274, none)] | .exit i => [] | .ret => [(4, none)]), [(25, (.one (.sl (.pair (.int .i64) (.int .i64)) false true))), (26, (.one (.rw 0 0))), (27, (.one .sb)), (28, (.one (.rw 1 0))), (29, (.one .sb)), (30, (.one (.rw 2 0))), (31, (.one .sb)), (32, (.one (.rw 3 0))), (33, (.one .sb)), (34, (.one (.pf 4 0 0))), (35, (.one .ss)), (36, (.one .sb)), (37, (.one .ss)), (38, (.one .sb))], [(.row 0 (.int .i64)), (.row 0 (.int .i64)), (.row 0 (.pair (.int .i64) (.int .i64))), (.row 0 (.pair (.int .i64) (.int .i64))), (.rcd 0 [(.si .i64), (.si .i64)])], [⟨.norm, [(25, (.one (.sl (.pair (.int .i64) (.int .i64)) false true))), (26, (.one (.rw 0 0))), (27, (.one .sb)), (274, (.one .sb))], [(.row 0 (.int .i64))]⟩], [], []⟩
noncomputable def l_FnFractionPolygons_R36_step : ((List ((Int × Int)) × Unit × Bool × Unit × Bool × Unit × Bool × Unit × Bool × Unit × List UInt8 × Bool × List UInt8 × Bool) × (List (Int) × List (Int) × List ((Int × Int)) × List ((Int × Int)) × (Int × Int))) → T ((List ((Int × Int)) × Unit × Bool × Bool) × List (Int)) := fun ((p, (), one, (), two, (), three, (), four, (), text, five, shown, six), (made, want, pairs, model, (f_0, f_1))) =>
 (.test (! (one == two))
 (.test (decide ((0 = 0) ∧ ((List.length made) = (List.length made))))
 (.ret ((p, ((), (one, true))), made))
 .fail)
 (.test (decide ((0 + (List.length made)) ≤ (List.length made)))
 (.test (decide ((0 + (List.length want)) ≤ (List.length want)))
 (.sub (F93 ((win made 0 (List.length made)), (win want 0 (List.length want)))) fun z0 =>
 (.test (! z0)
 (.test (decide ((0 = 0) ∧ ((List.length made) = (List.length made))))
 (.ret ((p, ((), (one, true))), made))
 .fail)
 (.test (! (three == four))
 (.test (decide ((0 = 0) ∧ ((List.length made) = (List.length made))))
 (.ret ((p, ((), (one, true))), made))
 .fail)
 (.test (decide ((0 + (List.length pairs)) ≤ (List.length pairs)))
 (.test (decide ((0 + (List.length model)) ≤ (List.length model)))
 (.sub (F94 ((win pairs 0 (List.length pairs)), (win model 0 (List.length model)))) fun z1 =>
 (.test (! z1)
 (.test (decide ((0 = 0) ∧ ((List.length made) = (List.length made))))
 (.ret ((p, ((), (one, true))), made))
 .fail)
 (.sub (F20 p) fun z2 =>
 (.test (! (one == z2))
 (.test (decide ((0 = 0) ∧ ((List.length made) = (List.length made))))
 (.ret ((p, ((), (one, true))), made))
 .fail)
 (.sub (F20 p) fun z3 =>
 (.sub (F21 p) fun z4 =>
 (.test (! (z3 == z4))
 (.test (decide ((0 = 0) ∧ ((List.length made) = (List.length made))))
 (.ret ((p, ((), (one, true))), made))
 .fail)
 (.test (! (three == one))
 (.test (decide ((0 = 0) ∧ ((List.length made) = (List.length made))))
 (.ret ((p, ((), (one, true))), made))
 .fail)
 (.test (! (five == six))
 (.test (decide ((0 = 0) ∧ ((List.length made) = (List.length made))))
 (.ret ((p, ((), (one, true))), made))
 .fail)
 (.test (! (text == shown))
 (.test (decide ((0 = 0) ∧ ((List.length made) = (List.length made))))
 (.ret ((p, ((), (one, true))), made))
 .fail)
 (.sub (F55 (f_0, f_1)) fun z5 =>
 (.test (decide ((0 = 0) ∧ ((List.length made) = (List.length made))))
 (.ret ((p, ((), (one, (! (five == z5))))), made))
 .fail))))))))))))
 .fail)
 .fail))))
 .fail)
 .fail))
noncomputable def l_FnFractionPolygons_R36 (v : ((List ((Int × Int)) × Unit × Bool × Unit × Bool × Unit × Bool × Unit × Bool × Unit × List UInt8 × Bool × List UInt8 × Bool) × (List (Int) × List (Int) × List ((Int × Int)) × List ((Int × Int)) × (Int × Int)))) : Option ((List ((Int × Int)) × Unit × Bool × Bool) × List (Int)) := (l_FnFractionPolygons_R36_step v).run

def l_FnFractionPolygons_fo : List FO := [⟨[(.one .sb)], []⟩]
noncomputable def l_FnFractionPolygons_t : (List (Int) × List (Int)) → T Bool := fun (code, more) =>
 (.sub (F110 (code, more)) fun z0 =>
 (.test z0
 (.ret true)
 (.sub (F25 code) fun z1 =>
 (.sub (F47 z1) fun z2 =>
 (.sub (F48 z1) fun z3 =>
 (.test (decide ((0 = 0) ∧ ((List.length z2.2) = (List.length z2.2))))
 (.test (decide ((0 = 0) ∧ ((List.length z3.2) = (List.length z3.2))))
 (.sub (l_FnFractionPolygons_R6 ((more, (z1, ((), (z2.1.2, ((), z3.1.2))))), (z2.2, z3.2))) fun z4 =>
 (.test z4.1.2.2.2.2
 (.ret false)
 (.test (decide ((0 = 0) ∧ ((List.length z4.2) = (List.length z4.2))))
 (.sub (l_FnFractionPolygons_C9 ((z4.1.1, (z4.1.2.1, ((), z4.1.2.2.2.1))), z4.2)) fun z5 =>
 (.test (Sum.isLeft z5)
 (.sub (Sum.getLeft? z5) fun z6 =>
 (.ret z6))
 (.sub (Sum.getRight? z5) fun z7 =>
 (.sub (F14 z7) fun z8 =>
 (.sub (F16 z8) fun z9 =>
 (.sub (F17 z8) fun z10 =>
 (.sub (F62 z8) fun z11 =>
 (.sub (F65 z8) fun z12 =>
 (.sub (F24 z7) fun z13 =>
 (.sub (F42 z13) fun z14 =>
 (.sub (F41 z13) fun z15 =>
 (.test (decide ((0 = 0) ∧ ((List.length z9.2) = (List.length z9.2))))
 (.test (decide ((0 = 0) ∧ ((List.length z10.2) = (List.length z10.2))))
 (.test (decide ((0 = 0) ∧ ((List.length z11.2) = (List.length z11.2))))
 (.test (decide ((0 = 0) ∧ ((List.length z12.2) = (List.length z12.2))))
 (.sub (l_FnFractionPolygons_R36 ((z8, ((), (z9.1.2, ((), (z10.1.2, ((), (z11.1.2, ((), (z12.1.2, ((), (z14.1, (z14.2, z15)))))))))))), (z9.2, (z10.2, (z11.2, (z12.2, z13)))))) fun z16 =>
 (.test z16.1.2.2.2
 (.ret false)
 (.test z16.1.2.2.1
 (.test (decide ((0 + (List.length z16.2)) ≤ (List.length z16.2)))
 (.sub (F47 (win z16.2 0 (List.length z16.2))) fun z17 =>
 (.test (decide ((0 + (List.length z16.2)) ≤ (List.length z16.2)))
 (.sub (F52 (win z16.2 0 (List.length z16.2))) fun z18 =>
 (.test z18
 (.test z17.1.2
 (.test (decide ((0 + (List.length z17.2)) ≤ (List.length z17.2)))
 (.sub (F54 ((win z17.2 0 (List.length z17.2)), z16.1.1)) fun z19 =>
 (.ret z19))
 .fail)
 (.ret false))
 (.ret false)))
 .fail))
 .fail)
 (.ret true))))
 .fail)
 .fail)
 .fail)
 .fail))))))))))))
 .fail)))
 .fail)
 .fail))))))
noncomputable def l_FnFractionPolygons (v : (List (Int) × List (Int))) : Option Bool := (l_FnFractionPolygons_t v).run
noncomputable def l_FnFractionPolygons_E : TEnv := (((((((((((((((((((((((E0.add1 n_F110 F110_sh F110_fo F110).add1 n_F25 F25_sh F25_fo F25).add1 n_F47 F47_sh F47_fo F47).add1 n_F48 F48_sh F48_fo F48).add1 n_F54 F54_sh F54_fo F54).add1 n_F52 F52_sh F52_fo F52).add1 n_F16 F16_sh F16_fo F16).add1 n_F62 F62_sh F62_fo F62).add1 n_F29 F29_sh F29_fo F29).add1 n_F23 F23_sh F23_fo F23).add1 n_F20 F20_sh F20_fo F20).add1 n_F93 F93_sh F93_fo F93).add1 n_F94 F94_sh F94_fo F94).add1 n_F76 F76_sh F76_fo F76).add1 n_F78 F78_sh F78_fo F78).add1 n_F14 F14_sh F14_fo F14).add1 n_F17 F17_sh F17_fo F17).add1 n_F65 F65_sh F65_fo F65).add1 n_F24 F24_sh F24_fo F24).add1 n_F42 F42_sh F42_fo F42).add1 n_F41 F41_sh F41_fo F41).add1 n_F21 F21_sh F21_fo F21).add1 n_F55 F55_sh F55_fo F55)
theorem l_FnFractionPolygons_Eok : (l_FnFractionPolygons_E).OK := (((((((((((((((((((((((E0ok.add1 F110_ok).add1 F25_ok).add1 F47_ok).add1 F48_ok).add1 F54_ok).add1 F52_ok).add1 F16_ok).add1 F62_ok).add1 F29_ok).add1 F23_ok).add1 F20_ok).add1 F93_ok).add1 F94_ok).add1 F76_ok).add1 F78_ok).add1 F14_ok).add1 F17_ok).add1 F65_ok).add1 F24_ok).add1 F42_ok).add1 F41_ok).add1 F21_ok).add1 F55_ok)
noncomputable def l_FnFractionPolygons_told : Nat → Option SealT := fun id => if id = 2000006 then some (LSh.cut l_FnFractionPolygons_R6_sh 0 [(1, none), (5, none), (6, none), (7, none), (8, none), (9, none)] (l_FnFractionPolygons_R6)) else if id = 2000014 then some (LSh.cut l_FnFractionPolygons_R14_sh 0 [(1, none), (5, none), (6, none), (10, none), (11, none), (12, none), (13, none), (14, none), (15, none), (16, none), (17, none), (18, none)] (l_FnFractionPolygons_R14)) else if id = 2000026 then some (LSh.cut l_FnFractionPolygons_R26_sh 0 [(1, none), (5, none), (6, none), (10, none), (17, none), (19, none), (20, none), (21, none), (22, none), (23, none), (24, none)] (l_FnFractionPolygons_R26)) else if id = 22 then some (LSh.told l_FnFractionPolygons_L22_sh 0 (l_FnFractionPolygons_L22_step)) else if id = 17 then some (LSh.told l_FnFractionPolygons_L17_sh 0 (l_FnFractionPolygons_L17_step)) else if id = 1000009 then some (LSh.cut l_FnFractionPolygons_C9_sh 0 [(1, none), (5, none), (6, none), (7, none)] (l_FnFractionPolygons_C9)) else if id = 2000036 then some (LSh.cut l_FnFractionPolygons_R36_sh 0 [(25, none), (26, none), (27, none), (28, none), (29, none), (30, none), (31, none), (32, none), (33, none), (34, none), (35, none), (36, none), (37, none), (38, none)] (l_FnFractionPolygons_R36)) else none
theorem l_FnFractionPolygons_R6_ok : CutOK Tryz.prog 0 (cutAt (loopAt (bodyOf fn_l_FnFractionPolygons) []) 8) (LSh.cut l_FnFractionPolygons_R6_sh 0 [(1, none), (5, none), (6, none), (7, none), (8, none), (9, none)] (l_FnFractionPolygons_R6)) :=
  cut_ok (E := l_FnFractionPolygons_E) (l_FnFractionPolygons_Eok) (told := l_FnFractionPolygons_told) (l := l_FnFractionPolygons_R6_sh) (head := [(1, none), (5, none), (6, none), (7, none), (8, none), (9, none)]) (F := l_FnFractionPolygons_R6_step) (loopsOK_of2 (ls := []) (cs := []) (by kernel_rfl) trivial (by kernel_rfl) trivial) (fun v => by kernel_rfl)
theorem l_FnFractionPolygons_R14_ok : CutOK Tryz.prog 0 (cutAt (loopAt (bodyOf fn_l_FnFractionPolygons) []) 18) (LSh.cut l_FnFractionPolygons_R14_sh 0 [(1, none), (5, none), (6, none), (10, none), (11, none), (12, none), (13, none), (14, none), (15, none), (16, none), (17, none), (18, none)] (l_FnFractionPolygons_R14)) :=
  cut_ok (E := l_FnFractionPolygons_E) (l_FnFractionPolygons_Eok) (told := l_FnFractionPolygons_told) (l := l_FnFractionPolygons_R14_sh) (head := [(1, none), (5, none), (6, none), (10, none), (11, none), (12, none), (13, none), (14, none), (15, none), (16, none), (17, none), (18, none)]) (F := l_FnFractionPolygons_R14_step) (loopsOK_of2 (ls := []) (cs := []) (by kernel_rfl) trivial (by kernel_rfl) trivial) (fun v => by kernel_rfl)
theorem l_FnFractionPolygons_R26_ok : CutOK Tryz.prog 0 (cutAt (loopAt (bodyOf fn_l_FnFractionPolygons) [0, 0]) 4) (LSh.cut l_FnFractionPolygons_R26_sh 0 [(1, none), (5, none), (6, none), (10, none), (17, none), (19, none), (20, none), (21, none), (22, none), (23, none), (24, none)] (l_FnFractionPolygons_R26)) :=
  cut_ok (E := l_FnFractionPolygons_E) (l_FnFractionPolygons_Eok) (told := l_FnFractionPolygons_told) (l := l_FnFractionPolygons_R26_sh) (head := [(1, none), (5, none), (6, none), (10, none), (17, none), (19, none), (20, none), (21, none), (22, none), (23, none), (24, none)]) (F := l_FnFractionPolygons_R26_step) (loopsOK_of2 (ls := []) (cs := []) (by kernel_rfl) trivial (by kernel_rfl) trivial) (fun v => by kernel_rfl)
theorem l_FnFractionPolygons_L22_ok : ToldOK Tryz.prog 0 (loopAt (bodyOf fn_l_FnFractionPolygons) [0, 0]) (LSh.told l_FnFractionPolygons_L22_sh 0 (l_FnFractionPolygons_L22_step)) :=
  loop_ok (E := l_FnFractionPolygons_E) (l_FnFractionPolygons_Eok) (told := l_FnFractionPolygons_told) (l := l_FnFractionPolygons_L22_sh) (step := l_FnFractionPolygons_L22_step) (loopsOK_of2 (ls := []) (cs := [cutAt (loopAt (bodyOf fn_l_FnFractionPolygons) [0, 0]) 0, cutAt (loopAt (bodyOf fn_l_FnFractionPolygons) [0, 0]) 1, cutAt (loopAt (bodyOf fn_l_FnFractionPolygons) [0, 0]) 2, cutAt (loopAt (bodyOf fn_l_FnFractionPolygons) [0, 0]) 3, cutAt (loopAt (bodyOf fn_l_FnFractionPolygons) [0, 0]) 4, cutAt (loopAt (bodyOf fn_l_FnFractionPolygons) [0, 0]) 5]) (by kernel_rfl) trivial (by kernel_rfl) ⟨.inl (by kernel_rfl), ⟨.inl (by kernel_rfl), ⟨.inl (by kernel_rfl), ⟨.inl (by kernel_rfl), ⟨.inr ⟨_, by kernel_rfl, l_FnFractionPolygons_R26_ok⟩, ⟨.inl (by kernel_rfl), trivial⟩⟩⟩⟩⟩⟩) (by kernel_rfl) (fun v => by kernel_rfl)
theorem l_FnFractionPolygons_L17_ok : ToldOK Tryz.prog 0 (loopAt (bodyOf fn_l_FnFractionPolygons) [0]) (LSh.told l_FnFractionPolygons_L17_sh 0 (l_FnFractionPolygons_L17_step)) :=
  loop_ok (E := l_FnFractionPolygons_E) (l_FnFractionPolygons_Eok) (told := l_FnFractionPolygons_told) (l := l_FnFractionPolygons_L17_sh) (step := l_FnFractionPolygons_L17_step) (loopsOK_of2 (ls := [loopAt (bodyOf fn_l_FnFractionPolygons) [0, 0]]) (cs := [cutAt (loopAt (bodyOf fn_l_FnFractionPolygons) [0]) 0, cutAt (loopAt (bodyOf fn_l_FnFractionPolygons) [0]) 1, cutAt (loopAt (bodyOf fn_l_FnFractionPolygons) [0]) 2, cutAt (loopAt (bodyOf fn_l_FnFractionPolygons) [0]) 3, cutAt (loopAt (bodyOf fn_l_FnFractionPolygons) [0]) 4, cutAt (loopAt (bodyOf fn_l_FnFractionPolygons) [0]) 5]) (by kernel_rfl) ⟨.inr ⟨_, by kernel_rfl, l_FnFractionPolygons_L22_ok⟩, trivial⟩ (by kernel_rfl) ⟨.inl (by kernel_rfl), ⟨.inl (by kernel_rfl), ⟨.inl (by kernel_rfl), ⟨.inl (by kernel_rfl), ⟨.inl (by kernel_rfl), ⟨.inl (by kernel_rfl), trivial⟩⟩⟩⟩⟩⟩) (by kernel_rfl) (fun v => by kernel_rfl)
theorem l_FnFractionPolygons_C9_ok : CutOK Tryz.prog 0 (cutAt (loopAt (bodyOf fn_l_FnFractionPolygons) []) 10) (LSh.cut l_FnFractionPolygons_C9_sh 0 [(1, none), (5, none), (6, none), (7, none)] (l_FnFractionPolygons_C9)) :=
  cut_ok (E := l_FnFractionPolygons_E) (l_FnFractionPolygons_Eok) (told := l_FnFractionPolygons_told) (l := l_FnFractionPolygons_C9_sh) (head := [(1, none), (5, none), (6, none), (7, none)]) (F := l_FnFractionPolygons_C9_step) (loopsOK_of2 (ls := [loopAt (bodyOf fn_l_FnFractionPolygons) [0]]) (cs := [cutAt (loopAt (bodyOf fn_l_FnFractionPolygons) []) 11, cutAt (loopAt (bodyOf fn_l_FnFractionPolygons) []) 12, cutAt (loopAt (bodyOf fn_l_FnFractionPolygons) []) 13, cutAt (loopAt (bodyOf fn_l_FnFractionPolygons) []) 14, cutAt (loopAt (bodyOf fn_l_FnFractionPolygons) []) 15, cutAt (loopAt (bodyOf fn_l_FnFractionPolygons) []) 16, cutAt (loopAt (bodyOf fn_l_FnFractionPolygons) []) 17, cutAt (loopAt (bodyOf fn_l_FnFractionPolygons) []) 18, cutAt (loopAt (bodyOf fn_l_FnFractionPolygons) []) 19, cutAt (loopAt (bodyOf fn_l_FnFractionPolygons) []) 20]) (by kernel_rfl) ⟨.inr ⟨_, by kernel_rfl, l_FnFractionPolygons_L17_ok⟩, trivial⟩ (by kernel_rfl) ⟨.inl (by kernel_rfl), ⟨.inl (by kernel_rfl), ⟨.inl (by kernel_rfl), ⟨.inl (by kernel_rfl), ⟨.inl (by kernel_rfl), ⟨.inl (by kernel_rfl), ⟨.inl (by kernel_rfl), ⟨.inr ⟨_, by kernel_rfl, l_FnFractionPolygons_R14_ok⟩, ⟨.inl (by kernel_rfl), ⟨.inl (by kernel_rfl), trivial⟩⟩⟩⟩⟩⟩⟩⟩⟩⟩) (fun v => by kernel_rfl)
theorem l_FnFractionPolygons_R36_ok : CutOK Tryz.prog 0 (cutAt (loopAt (bodyOf fn_l_FnFractionPolygons) []) 30) (LSh.cut l_FnFractionPolygons_R36_sh 0 [(25, none), (26, none), (27, none), (28, none), (29, none), (30, none), (31, none), (32, none), (33, none), (34, none), (35, none), (36, none), (37, none), (38, none)] (l_FnFractionPolygons_R36)) :=
  cut_ok (E := l_FnFractionPolygons_E) (l_FnFractionPolygons_Eok) (told := l_FnFractionPolygons_told) (l := l_FnFractionPolygons_R36_sh) (head := [(25, none), (26, none), (27, none), (28, none), (29, none), (30, none), (31, none), (32, none), (33, none), (34, none), (35, none), (36, none), (37, none), (38, none)]) (F := l_FnFractionPolygons_R36_step) (loopsOK_of2 (ls := []) (cs := []) (by kernel_rfl) trivial (by kernel_rfl) trivial) (fun v => by kernel_rfl)
theorem l_FnFractionPolygons_ok : FOK Tryz.prog n_l_FnFractionPolygons l_FnFractionPolygons_sh l_FnFractionPolygons_fo l_FnFractionPolygons :=
  fn_ok (E := l_FnFractionPolygons_E) (l_FnFractionPolygons_Eok) (told := l_FnFractionPolygons_told) (fl := []) (c := bodyOf fn_l_FnFractionPolygons) (s := l_FnFractionPolygons_sh) (l := l_FnFractionPolygons_fo) (tree := l_FnFractionPolygons_t) fnat_l_FnFractionPolygons (by kernel_rfl) (by kernel_rfl) (by kernel_rfl) (loopsOK_of2 (ls := [loopAt (bodyOf fn_l_FnFractionPolygons) [0]]) (cs := [cutAt (loopAt (bodyOf fn_l_FnFractionPolygons) []) 0, cutAt (loopAt (bodyOf fn_l_FnFractionPolygons) []) 1, cutAt (loopAt (bodyOf fn_l_FnFractionPolygons) []) 2, cutAt (loopAt (bodyOf fn_l_FnFractionPolygons) []) 3, cutAt (loopAt (bodyOf fn_l_FnFractionPolygons) []) 4, cutAt (loopAt (bodyOf fn_l_FnFractionPolygons) []) 5, cutAt (loopAt (bodyOf fn_l_FnFractionPolygons) []) 6, cutAt (loopAt (bodyOf fn_l_FnFractionPolygons) []) 7, cutAt (loopAt (bodyOf fn_l_FnFractionPolygons) []) 8, cutAt (loopAt (bodyOf fn_l_FnFractionPolygons) []) 9, cutAt (loopAt (bodyOf fn_l_FnFractionPolygons) []) 10, cutAt (loopAt (bodyOf fn_l_FnFractionPolygons) []) 11, cutAt (loopAt (bodyOf fn_l_FnFractionPolygons) []) 12, cutAt (loopAt (bodyOf fn_l_FnFractionPolygons) []) 13, cutAt (loopAt (bodyOf fn_l_FnFractionPolygons) []) 14, cutAt (loopAt (bodyOf fn_l_FnFractionPolygons) []) 15, cutAt (loopAt (bodyOf fn_l_FnFractionPolygons) []) 16, cutAt (loopAt (bodyOf fn_l_FnFractionPolygons) []) 17, cutAt (loopAt (bodyOf fn_l_FnFractionPolygons) []) 18, cutAt (loopAt (bodyOf fn_l_FnFractionPolygons) []) 19, cutAt (loopAt (bodyOf fn_l_FnFractionPolygons) []) 20, cutAt (loopAt (bodyOf fn_l_FnFractionPolygons) []) 21, cutAt (loopAt (bodyOf fn_l_FnFractionPolygons) []) 22, cutAt (loopAt (bodyOf fn_l_FnFractionPolygons) []) 23, cutAt (loopAt (bodyOf fn_l_FnFractionPolygons) []) 24, cutAt (loopAt (bodyOf fn_l_FnFractionPolygons) []) 25, cutAt (loopAt (bodyOf fn_l_FnFractionPolygons) []) 26, cutAt (loopAt (bodyOf fn_l_FnFractionPolygons) []) 27, cutAt (loopAt (bodyOf fn_l_FnFractionPolygons) []) 28, cutAt (loopAt (bodyOf fn_l_FnFractionPolygons) []) 29, cutAt (loopAt (bodyOf fn_l_FnFractionPolygons) []) 30, cutAt (loopAt (bodyOf fn_l_FnFractionPolygons) []) 31, cutAt (loopAt (bodyOf fn_l_FnFractionPolygons) []) 32, cutAt (loopAt (bodyOf fn_l_FnFractionPolygons) []) 33, cutAt (loopAt (bodyOf fn_l_FnFractionPolygons) []) 34, cutAt (loopAt (bodyOf fn_l_FnFractionPolygons) []) 35, cutAt (loopAt (bodyOf fn_l_FnFractionPolygons) []) 36]) (by kernel_rfl) ⟨.inr ⟨_, by kernel_rfl, l_FnFractionPolygons_L17_ok⟩, trivial⟩ (by kernel_rfl) ⟨.inl (by kernel_rfl), ⟨.inl (by kernel_rfl), ⟨.inl (by kernel_rfl), ⟨.inl (by kernel_rfl), ⟨.inl (by kernel_rfl), ⟨.inl (by kernel_rfl), ⟨.inl (by kernel_rfl), ⟨.inl (by kernel_rfl), ⟨.inr ⟨_, by kernel_rfl, l_FnFractionPolygons_R6_ok⟩, ⟨.inl (by kernel_rfl), ⟨.inr ⟨_, by kernel_rfl, l_FnFractionPolygons_C9_ok⟩, ⟨.inl (by kernel_rfl), ⟨.inl (by kernel_rfl), ⟨.inl (by kernel_rfl), ⟨.inl (by kernel_rfl), ⟨.inl (by kernel_rfl), ⟨.inl (by kernel_rfl), ⟨.inl (by kernel_rfl), ⟨.inr ⟨_, by kernel_rfl, l_FnFractionPolygons_R14_ok⟩, ⟨.inl (by kernel_rfl), ⟨.inl (by kernel_rfl), ⟨.inl (by kernel_rfl), ⟨.inl (by kernel_rfl), ⟨.inl (by kernel_rfl), ⟨.inl (by kernel_rfl), ⟨.inl (by kernel_rfl), ⟨.inl (by kernel_rfl), ⟨.inl (by kernel_rfl), ⟨.inl (by kernel_rfl), ⟨.inl (by kernel_rfl), ⟨.inr ⟨_, by kernel_rfl, l_FnFractionPolygons_R36_ok⟩, ⟨.inl (by kernel_rfl), ⟨.inl (by kernel_rfl), ⟨.inl (by kernel_rfl), ⟨.inl (by kernel_rfl), ⟨.inl (by kernel_rfl), ⟨.inl (by kernel_rfl), trivial⟩⟩⟩⟩⟩⟩⟩⟩⟩⟩⟩⟩⟩⟩⟩⟩⟩⟩⟩⟩⟩⟩⟩⟩⟩⟩⟩⟩⟩⟩⟩⟩⟩⟩⟩⟩⟩) (fun v => by kernel_rfl)

theorem l_FnFractionPolygons_R6_eq (more q : List Int) (ok : Bool) (list : List Fr) (hq : F52 q = some ok) (hl : list.length < 4611686018427387904) :
    l_FnFractionPolygons_R6 ((more, (q, ((), (ok, ((), ok))))), (list, list)) = some ((more, (q, ((), (ok, false)))), list) := by
  have e := uFractions_val list list hl
  rw [l_FnFractionPolygons_R6, l_FnFractionPolygons_R6_step, T.run_test, if_neg (by simp), T.run_test, if_pos (by simp), T.run_test, if_pos (by simp), win_all, T.run_sub, e, Option.bind_some, T.run_test, if_neg (by simp), T.run_sub, hq, Option.bind_some, T.run_test, if_pos (by simp), T.run_ret, beq_self_eq_true]
  rfl
theorem l_FnFractionPolygons_R14_eq (more q : List Int) (list : List Fr) (ds : List Dg) (dl : List Int) (hp : F20 list = some true) (hn : list.length = q.length) (hl : q.length ≤ 1000) (hd : ds.length ≤ 1000) :
    l_FnFractionPolygons_R14 ((more, (q, ((), ((q.length : Int), ((), (true, ((), (true, ((), (true, ((), true))))))))))), (list, (q, (ds, (ds, dl))))) = some ((more, (q, ((), ((q.length : Int), ((), false))))), (list, dl)) := by
  rw [l_FnFractionPolygons_R14, l_FnFractionPolygons_R14_step, T.run_test, if_pos (by simp), win_all, T.run_sub, hp, Option.bind_some, T.run_test, if_neg (by simp), T.run_test, if_neg (by simp [hn]), T.run_test, if_neg (by simp), T.run_test, if_pos (by simp), win_all, T.run_sub, uSame_val q q (by omega), Option.bind_some, T.run_test, if_neg (by simp),
    T.run_test, if_neg (by simp), T.run_test, if_neg (by simp), T.run_test, if_pos (by simp), T.run_test, if_pos (by simp), win_all, T.run_sub, uCuts_val ds ds (by omega), Option.bind_some, T.run_test, if_neg (by simp), T.run_test, if_pos (by simp), T.run_test, if_pos (by simp), T.run_ret]
  rfl
theorem l_FnFractionPolygons_L22_eq (more q : List Int) {ds : List Dg} (h : trOf q = some ds) (dl : List Int) (i : Nat) (h1 : 1 ≤ i) (hi : i < q.length) : ∀ m j : Nat, i < j → j + m = q.length →
    l_FnFractionPolygons_L22 ((more, (q, ((), ((q.length : Int), ((), ((i : Int), (j : Int))))))), (frsF q, dl)) = some (.inr ((more, (q, ((), ((q.length : Int), ((), (i : Int)))))), (frsF q, dl))) := by
  have hb := (trOf_bounds (l := q) (by rw [h]; rfl)).1
  have hlen := frsF_length (q := q) (by omega)
  have hc := quid_clo (l := q) (by rw [h]; rfl)
  have hfr := (polyB_iff.1 (frs_B h)).2.1
  intro m
  induction m with
  | zero =>
    intro j hj hm
    simp only [l_FnFractionPolygons_L22]
    refine loopO_done ?_
    rw [l_FnFractionPolygons_L22_step, T.run_test, if_neg (by rw [decide_eq_true_eq]; omega), T.run_test, if_pos (by simp), T.run_test, if_pos (by simp), T.run_ret]
  | succ m ih =>
    intro j hj hm
    rw [← ih (j + 1) (by omega) (by omega)]
    simp only [l_FnFractionPolygons_L22]
    refine loopO_next ?_
    have v1 : w64 ((i : Int) - 1) = ((i - 1 : Nat) : Int) := by rw [w64_id (by omega) (by omega)]; omega
    have v2 : w64 ((j : Int) - 1) = ((j - 1 : Nat) : Int) := by rw [w64_id (by omega) (by omega)]; omega
    have v3 : w64 ((j : Int) + 1) = ((j + 1 : Nat) : Int) := by rw [w64_id (by omega) (by omega)]; omega
    have g1 := gF_some (p := frsF q) (i := i - 1) (by omega)
    have g2 := gF_some (p := frsF q) (i := j - 1) (by omega)
    have hcr := frs_cross hc (by omega) (i := i - 1) (k := j - 1) (by omega) (by omega) g1 g2
    rw [if_pos (by omega), show i - 1 + 1 = i by omega, show j - 1 + 1 = j by omega, eE_en (by omega) (by omega)] at hcr
    have hX := F76_eq (hfr _ (gF_mem (p := frsF q) (i := i - 1) (by omega))) (hfr _ (gF_mem (p := frsF q) (i := j - 1) (by omega)))
    rw [hcr] at hX
    have hE := F78_eq q (by omega) (i : Int) (j : Int)
    have hent : entR q (i : Int) (j : Int) = (en (qa q) (i : Int) (j - i), true) := by
      unfold entR
      rw [if_pos (by rw [h]; simp only [Option.isSome_some, Bool.true_and, Bool.and_eq_true, inB_iff]; omega), show ((j : Int) - (i : Int)).toNat = j - i by omega]
    rw [hent] at hE
    rw [l_FnFractionPolygons_L22_step, T.run_test, if_pos (decide_eq_true (by omega)), v1, v2, T.run_test, if_pos (decide_eq_true (by omega)), T.run_sub, Int.toNat_natCast, Nat.zero_add, g1, Option.bind_some, T.run_test, if_pos (decide_eq_true (by omega)), T.run_sub, Int.toNat_natCast, Nat.zero_add, g2, Option.bind_some, T.run_sub, hX, Option.bind_some, T.run_sub, hE, Option.bind_some,
      T.run_test, if_pos (by simp), T.run_test, if_pos (by simp), T.run_sub]
    have hR : l_FnFractionPolygons_R26 ((more, (q, ((), ((q.length : Int), ((), ((i : Int), ((j : Int), (en (qa q) (i : Int) (j - i), (true, (en (qa q) (i : Int) (j - i), true)))))))))), (frsF q, dl)) = some ((more, (q, ((), ((q.length : Int), ((), ((i : Int), ((j : Int), false))))))), (frsF q, dl)) := by
      rw [l_FnFractionPolygons_R26, l_FnFractionPolygons_R26_step, T.run_test, if_neg (by simp), T.run_test, if_neg (by simp), T.run_test, if_pos (by simp), T.run_test, if_pos (by simp), T.run_ret]
      simp
    rw [hR, Option.bind_some, T.run_test, if_neg (by simp), T.run_test, if_pos (by simp), T.run_test, if_pos (by simp), T.run_ret]
    dsimp only
    rw [v3]
theorem l_FnFractionPolygons_L17_eq (more q : List Int) {ds : List Dg} (h : trOf q = some ds) : ∀ m i : Nat, 1 ≤ i → i + m = q.length →
    l_FnFractionPolygons_L17 ((more, (q, ((), ((q.length : Int), ((), (i : Int)))))), (frsF q, (List.range (q.length - 1)).map fun (i : Nat) => en (qa q) 0 (i + 1))) = some (.inr more) := by
  have hb := (trOf_bounds (l := q) (by rw [h]; rfl)).1
  have hlen := frsF_length (q := q) (by omega)
  intro m
  induction m with
  | zero =>
    intro i h1 hm
    simp only [l_FnFractionPolygons_L17]
    refine loopO_done ?_
    rw [l_FnFractionPolygons_L17_step, T.run_test, if_neg (by rw [decide_eq_true_eq]; omega), T.run_ret]
  | succ m ih =>
    intro i h1 hm
    rw [← ih (i + 1) (by omega) (by omega)]
    have h22 := l_FnFractionPolygons_L22_eq more q h ((List.range (q.length - 1)).map fun (i : Nat) => en (qa q) 0 (i + 1)) i h1 (by omega) m (i + 1) (by omega) (by omega)
    have dln : ((List.range (q.length - 1)).map fun (i : Nat) => en (qa q) 0 (i + 1)).length = q.length - 1 := by simp
    have dg : ((List.range (q.length - 1)).map fun (i : Nat) => en (qa q) 0 (i + 1))[i - 1]? = some (en (qa q) 0 (i - 1 + 1)) := by
      rw [List.getElem?_map, List.getElem?_range (by omega)]; rfl
    generalize ((List.range (q.length - 1)).map fun (i : Nat) => en (qa q) 0 (i + 1)) = dl at *
    simp only [l_FnFractionPolygons_L17]
    refine loopO_next ?_
    have v1 : w64 ((i : Int) - 1) = ((i - 1 : Nat) : Int) := by rw [w64_id (by omega) (by omega)]; omega
    have v3 : w64 ((i : Int) + 1) = ((i + 1 : Nat) : Int) := by rw [w64_id (by omega) (by omega)]; omega
    have g1 := frsF_get (q := q) (i := i - 1) (by omega)
    rw [l_FnFractionPolygons_L17_step, T.run_test, if_pos (decide_eq_true (by omega)), v1, T.run_test, if_pos (decide_eq_true (by omega)), T.run_sub, Int.toNat_natCast, Nat.zero_add, g1, Option.bind_some, T.run_test, if_pos (decide_eq_true (by omega)), T.run_sub, dg, Option.bind_some, T.run_test, if_neg (by simp), T.run_test, if_pos (by simp), T.run_test, if_pos (by simp), T.run_sub, v3, h22, Option.bind_some, T.run_test, if_neg (by simp [Sum.isLeft]), T.run_sub]
    simp only [Sum.getRight?, Option.bind_some]
    rw [T.run_test, if_pos (by simp), T.run_test, if_pos (by simp), T.run_ret, v3]
theorem l_FnFractionPolygons_C9_eq (more q : List Int) (hl : q.length ≤ 1000) (ok : Bool) (hok : ok = (trOf q).isSome) (list : List Fr) (hlist : ok = true → list = frsF q) :
    l_FnFractionPolygons_C9 ((more, (q, ((), ok))), list) = some (.inr more) := by
  rw [l_FnFractionPolygons_C9, l_FnFractionPolygons_C9_step, T.run_test]
  cases h : trOf q with
  | none =>
    rw [h] at hok
    subst hok
    rw [if_neg (by simp), T.run_ret]
  | some ds =>
    rw [h] at hok
    obtain rfl : ok = true := hok
    obtain rfl := hlist rfl
    have hb := (trOf_bounds (l := q) (by rw [h]; rfl)).1
    have hlen := frsF_length (q := q) (by omega)
    have hB := frs_B h
    have hqs := (quid_poly h).2
    have e1 := F16_eq (frsF q) (by omega)
    rw [if_pos hB, hqs] at e1
    have e2 := F62_eq (frsF q) (by omega)
    rw [if_pos hB, hqs, h, Option.getD_some] at e2
    have e3 := F29_eq q (by omega)
    rw [h] at e3
    have e4 := F23_at h (by omega)
    have e5 := F20_eq (frsF q) (by omega)
    rw [hB] at e5
    have hdl := (tri_rng (trOf_tri h).1).2.2.1
    have r14 := l_FnFractionPolygons_R14_eq more q (frsF q) ds ((List.range (q.length - 1)).map fun (i : Nat) => en (qa q) 0 (i + 1)) e5 hlen hl (by omega)
    have l17 := l_FnFractionPolygons_L17_eq more q h (q.length - 1) 1 (by omega) (by omega)
    rw [if_pos rfl, T.run_test, if_pos (by simp), win_all, T.run_sub, e1, Option.bind_some, T.run_test, if_pos (by simp), T.run_sub, e2, Option.bind_some, T.run_sub, e3, Option.bind_some, T.run_sub, e4, Option.bind_some, T.run_test, if_pos (by simp), T.run_test, if_pos (by simp), T.run_test, if_pos (by simp), T.run_test, if_pos (by simp), T.run_test, if_pos (by simp), T.run_sub, r14, Option.bind_some, T.run_test, if_neg (by simp), T.run_test, if_pos (by simp), T.run_test, if_pos (by simp), T.run_sub]
    have l17' : l_FnFractionPolygons_L17 ((more, (q, ((), ((q.length : Int), ((), (1 : Int)))))), (frsF q, (List.range (q.length - 1)).map fun (i : Nat) => en (qa q) 0 (i + 1))) = some (.inr more) := l17
    rw [l17', Option.bind_some, T.run_test, if_neg (by simp [Sum.isLeft]), T.run_sub]
    simp only [Sum.getRight?, Option.bind_some]
    rw [T.run_ret]
theorem l_FnFractionPolygons_R36_eq (p : List Fr) (hl : p.length ≤ 1000) (one five : Bool) (ho : one = polyB p) (text : List UInt8) (made : List Int) (pairs : List Dg) (f : Fr) (h5 : five = fracB f) (hm : made.length ≤ 1000) (hpl : pairs.length ≤ 1000) :
    l_FnFractionPolygons_R36 ((p, ((), (one, ((), (one, ((), (one, ((), (one, ((), (text, (five, (text, five))))))))))))), (made, (made, (pairs, (pairs, f))))) = some ((p, ((), (one, false))), made) := by
  obtain ⟨a, b⟩ := f
  subst ho h5
  rw [l_FnFractionPolygons_R36, l_FnFractionPolygons_R36_step, T.run_test, if_neg (by simp), T.run_test, if_pos (by simp), T.run_test, if_pos (by simp), win_all, T.run_sub, uSame_val made made (by omega), Option.bind_some, T.run_test, if_neg (by simp), T.run_test, if_neg (by simp), T.run_test, if_pos (by simp), T.run_test, if_pos (by simp), win_all, T.run_sub, uCuts_val pairs pairs (by omega), Option.bind_some, T.run_test, if_neg (by simp),
    T.run_sub, F20_eq p (by omega), Option.bind_some, T.run_test, if_neg (by simp), T.run_sub, Option.bind_some, T.run_sub, F21_eq p (by omega), Option.bind_some, T.run_test, if_neg (by simp), T.run_test, if_neg (by simp), T.run_test, if_neg (by simp), T.run_test, if_neg (by simp), T.run_sub, F55_eq, Option.bind_some, T.run_test, if_pos (by simp), T.run_ret]
  simp
theorem l_FnFractionPolygons_true (v : List Int × List Int) (hs : smallL ASh.small [.one (.sl (.int .u8) false true), .one (.sl (.int .u8) false true)] v) : l_FnFractionPolygons v = some true := by
  obtain ⟨code, more⟩ := v
  have hb : ∀ l : List Int, (∀ x ∈ l, wfE (.int .u8) x) → bytesOK l := fun l h x hx => by
    have := h x hx
    simp [wfE, Lit.wf, IntKind.min, IntKind.max, IntKind.signed, IntKind.bits] at this
    omega
  have b1 : bytesOK code := hb code hs.1.2
  have b2 : bytesOK more := hb more hs.2.2
  obtain ⟨b, hbig⟩ : ∃ b, F110 (code, more) = some b := by
    rw [F110, F110_t, T.run_test]
    split
    · exact ⟨_, rfl⟩
    · exact ⟨_, rfl⟩
  obtain ⟨q, d1, hq⟩ := F25_some b1
  obtain ⟨list, hlist, fi, fs⟩ : ∃ list, ((trOf q).isSome = true → list = frsF q) ∧ F47 q = some (((), (trOf q).isSome), list) ∧ F48 q = some (((), (trOf q).isSome), list) := by
    rw [F47_eq q (by omega), F48_eq q (by omega)]
    cases (trOf q).isSome with
    | true => exact ⟨_, fun _ => rfl, rfl, rfl⟩
    | false => exact ⟨_, fun h => by simp at h, rfl, rfl⟩
  have hll : list.length ≤ 1000 := by
    have : ∀ x, F47 q = some x → x.2.length ≤ 1000 := by
      rw [F47_eq q (by omega)]
      intro x hx
      obtain rfl := Option.some.inj hx
      split
      · rename_i h
        have := (trOf_bounds h).1
        have := frsF_length (q := q) (by omega)
        dsimp only; omega
      · simp
    exact this _ fi
  have r6 := l_FnFractionPolygons_R6_eq more q (trOf q).isSome list (F52_eq q (by omega)) (by omega)
  have c9 := l_FnFractionPolygons_C9_eq more q (by omega) (trOf q).isSome rfl list hlist
  obtain ⟨p, d2, hp⟩ := F14_some b2
  obtain ⟨f, d3⟩ := F24_some b2
  obtain ⟨made, hmade, hml, qi, qs⟩ : ∃ made, (polyB p = true → made = qsF p) ∧ made.length ≤ 1000 ∧ F16 p = some (((), polyB p), made) ∧ F17 p = some (((), polyB p), made) := by
    rw [F16_eq p (by omega), F17_eq p (by omega)]
    cases h : polyB p with
    | true =>
      have := qsF_length (polyB_F h)
      exact ⟨_, fun _ => rfl, by omega, rfl, rfl⟩
    | false => exact ⟨[], fun h => by simp at h, by simp, rfl, rfl⟩
  obtain ⟨pairs, hpl, ni, ns⟩ : ∃ pairs : List Dg, pairs.length ≤ 1000 ∧ F62 p = some (((), polyB p), pairs) ∧ F65 p = some (((), polyB p), pairs) := by
    rw [F62_eq p (by omega), F65_eq p (by omega)]
    cases h : polyB p with
    | true =>
      obtain ⟨ds, hds⟩ := polyB_tr h
      have := (tri_rng (trOf_tri hds).1).2.2
      have := qsF_length (polyB_F h)
      rw [hds]
      exact ⟨ds, by omega, rfl, rfl⟩
    | false => exact ⟨[], by simp, rfl, rfl⟩
  obtain ⟨text, ti, ts⟩ : ∃ text, F42 f = some (text, fracB f) ∧ F41 f = some (text, fracB f) := by
    rw [F42_eq f, F41_eq f]
    cases fracB f with
    | true => exact ⟨_, rfl, rfl⟩
    | false => exact ⟨_, rfl, rfl⟩
  have r36 := l_FnFractionPolygons_R36_eq p (by omega) (polyB p) (fracB f) rfl text made pairs f rfl hml hpl
  rw [l_FnFractionPolygons, l_FnFractionPolygons_t, T.run_sub, hbig, Option.bind_some, T.run_test]
  cases b with
  | true => rfl
  | false =>
    rw [if_neg (by simp), T.run_sub, d1, Option.bind_some, T.run_sub, fi, Option.bind_some, T.run_sub, fs, Option.bind_some, T.run_test, if_pos (by simp), T.run_test, if_pos (by simp), T.run_sub, r6, Option.bind_some, T.run_test, if_neg (by simp), T.run_test, if_pos (by simp), T.run_sub, c9, Option.bind_some, T.run_test, if_neg (by simp [Sum.isLeft]), T.run_sub]
    simp only [Sum.getRight?, Option.bind_some]
    rw [T.run_sub, d2, Option.bind_some, T.run_sub, qi, Option.bind_some, T.run_sub, qs, Option.bind_some, T.run_sub, ni, Option.bind_some, T.run_sub, ns, Option.bind_some, T.run_sub, d3, Option.bind_some, T.run_sub, ti, Option.bind_some, T.run_sub, ts, Option.bind_some,
      T.run_test, if_pos (by simp), T.run_test, if_pos (by simp), T.run_test, if_pos (by simp), T.run_test, if_pos (by simp), T.run_sub, r36, Option.bind_some, T.run_test, if_neg (by simp), T.run_test]
    cases h : polyB p with
    | false => rfl
    | true =>
      obtain rfl := hmade h
      obtain ⟨ds, hds⟩ := polyB_tr h
      have fm := F47_eq (qsF p) (by omega)
      rw [hds, if_pos (by rfl), poly_frs (polyB_F h)] at fm
      have im := F52_eq (qsF p) (by omega)
      rw [hds] at im
      rw [if_pos (by rfl)]
      dsimp only
      rw [T.run_test, if_pos (by simp), win_all, T.run_sub, fm, Option.bind_some, T.run_test, if_pos (by simp), T.run_sub, im, Option.bind_some, T.run_test, if_pos (by rfl), T.run_test, if_pos (by rfl), T.run_test, if_pos (by simp), win_all, T.run_sub, uFractions_val p p (by omega), Option.bind_some, T.run_ret]
      simp


end Go.Proofs.W
