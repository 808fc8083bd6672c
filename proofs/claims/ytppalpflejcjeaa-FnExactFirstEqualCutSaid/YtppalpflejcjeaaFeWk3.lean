/- Functions of the program, walked, and what they compute. -/
import Derived.Test.YtppalpflejcjeaaFeWk2
set_option linter.unusedVariables false
set_option linter.unusedSimpArgs false
set_option maxRecDepth 100000
set_option maxHeartbeats 4000000
namespace Go.Proofs.W
open Go Go.Gm Go.Proofs
open Go.RowKit Go.Shelf
def F38_sh : FSh := ⟨[(.one (.si .i64)), (.one (.sl (.pair (.int .i64) (.int .i64)) false false)), (.one (.si .i64))], []⟩

def F38_L2_sh : LSh := ⟨(fun ex => match ex with | .norm => [(2, none), (11, none), (12, none), (13, none)] | .exit i => if i = 0 then [] else [] | .ret => [(6, none)]), [(2, (.one (.si .i64))), (11, (.one (.rw 0 0))), (12, (.one (.si .i64))), (13, (.one (.si .i64)))], [(.row 0 (.list true (.int .i64)))], [⟨.ret, [(6, (.one .sb))], []⟩, ⟨(.exit 0), [], []⟩], [], []⟩
noncomputable def F38_L2_step : ((Int × Unit × Int × Int) × List (List (Int))) → T (((Int × Unit × Int × Int) × List (List (Int))) ⊕ (Bool ⊕ Unit)) := fun ((size, (), t12, t13), t11) =>
 (.test (decide (t13 < t12))
 (.test (decide ((0 ≤ t13) ∧ (t13 < ((List.length t11) : Int))))
 (.sub (t11[(0 + (Int.toNat t13))]?) fun z0 =>
 (.test (((List.length z0) : Int) != size)
 (.ret (Sum.inr (Sum.inl false)))
 (.test (decide ((0 = 0) ∧ ((List.length t11) = (List.length t11))))
 (.ret (Sum.inl ((size, ((), (t12, (w64 (t13 + 1))))), t11)))
 .fail)))
 .fail)
 (.ret (Sum.inr (Sum.inr ()))))
noncomputable def F38_L2 (v : ((Int × Unit × Int × Int) × List (List (Int)))) : Option (Bool ⊕ Unit) := loopO (fun v => (F38_L2_step v).run) v

def F38_fo : List FO := [⟨[(.one .sb)], []⟩]
noncomputable def F38_t : (Int × List ((Int × Int)) × Int) → T Bool := fun (n, ds, size) =>
 (.sub (F36 (n, ds)) fun z0 =>
 (.test (decide ((0 = 0) ∧ ((List.length z0.2) = (List.length z0.2))))
 (.sub (F38_L2 ((size, ((), (((List.length z0.2) : Int), (0 : Int)))), z0.2)) fun z1 =>
 (.test (Sum.isLeft z1)
 (.sub (Sum.getLeft? z1) fun z2 =>
 (.ret z2))
 (.sub (Sum.getRight? z1) fun z3 =>
 (.ret true))))
 .fail))
noncomputable def F38 (v : (Int × List ((Int × Int)) × Int)) : Option Bool := (F38_t v).run
noncomputable def F38_E : TEnv := (E0.add1 n_F36 F36_sh F36_fo F36)
theorem F38_Eok : (F38_E).OK := (E0ok.add1 F36_ok)
noncomputable def F38_told : Nat → Option SealT := fun id => if id = 2 then some (LSh.told F38_L2_sh 0 (F38_L2_step)) else none
theorem F38_L2_ok : ToldOK Try.prog 0 (loopAt (bodyOf fn_F38) [0]) (LSh.told F38_L2_sh 0 (F38_L2_step)) :=
  loop_ok (E := F38_E) (F38_Eok) (told := F38_told) (l := F38_L2_sh) (step := F38_L2_step) (loopsOK_of (ls := []) (by kernel_rfl) trivial) (by kernel_rfl) (fun v => by kernel_rfl)
theorem F38_ok : FOK Try.prog n_F38 F38_sh F38_fo F38 :=
  fn_ok (E := F38_E) (F38_Eok) (told := F38_told) (fl := []) (c := bodyOf fn_F38) (s := F38_sh) (l := F38_fo) (tree := F38_t) fnat_F38 (by kernel_rfl) (by kernel_rfl) (by kernel_rfl) (loopsOK_of (ls := [loopAt (bodyOf fn_F38) [0]]) (by kernel_rfl) ⟨.inr ⟨_, by kernel_rfl, F38_L2_ok⟩, trivial⟩) (fun v => by kernel_rfl)

theorem F38_L2_eq (t11 : List (List Int)) (size : Int) (hl : t11.length ≤ 100) : F38_L2 ((size, ((), ((t11.length : Int), (0 : Int)))), t11) = some (if t11.any fun p => ((p.length : Int) != size) then .inl false else .inr ()) := by
  have h := loop_any (step := fun v => (F38_L2_step v).run) (xs := t11) (fun p => ((p.length : Int) != size)) (fun k => ((size, ((), ((t11.length : Int), (k : Int)))), t11)) (.inl false) (.inr ())
    (fun k x hx => by
      have hlt := getElem?_lt hx
      have w1 : w64 ((k : Int) + 1) = ((k + 1 : Nat) : Int) := by rw [w64_id (by omega) (by omega)]; omega
      rw [F38_L2_step, T.run_test, if_pos (decide_eq_true (by omega)), T.run_test, if_pos (decide_eq_true (by omega)), T.run_sub, Nat.zero_add, Int.toNat_natCast, hx, Option.bind_some, T.run_test, ← w1]
      cases hc : ((x.length : Int) != size) with
      | true => rfl
      | false => rw [if_neg (by simp), if_neg (by simp), T.run_test, if_pos (by simp), T.run_ret])
    (by rw [F38_L2_step, T.run_test, if_neg (by simp), T.run_ret])
  simp only [Int.natCast_zero] at h
  exact h
theorem F38_eq {N : Nat} {ds : List Dg} (size : Int) (h3 : 3 ≤ N) (hN : N ≤ 12) (hl : ds.length + 3 ≤ N) (hc : CutD N ds) : F38 ((N : Int), (ds, size)) = some ((szL N ds).all fun s => s == size) := by
  have e : ((sortL (specP N ds)).any fun p => ((p.length : Int) != size)) = !((szL N ds).all fun s => s == size) := by
    unfold szL
    rw [List.all_map, List.not_all_eq_any_not]
    rfl
  rw [F38, F38_t, T.run_sub, F36_eq h3 hN (by omega) hc, Option.bind_some, T.run_test, if_pos (by simp), T.run_sub, F38_L2_eq _ _ (by rw [sortP_len hc h3]; omega), e, Option.bind_some, T.run_test]
  cases (szL N ds).all fun s => s == size <;> rfl


def F45_sh : FSh := ⟨[(.one (.si .i64)), (.one (.si .i64)), (.one (.si .i64))], []⟩

def F45_fo : List FO := [⟨[(.one .sb)], []⟩]
noncomputable def F45_t : (Int × Int × Int) → T Bool := fun (n, low, high) =>
 (.test (decide (n ≥ low))
 (.ret (decide (n ≤ high)))
 (.ret false))
noncomputable def F45 (v : (Int × Int × Int)) : Option Bool := (F45_t v).run
noncomputable def F45_E : TEnv := E0
theorem F45_Eok : (F45_E).OK := E0ok
noncomputable def F45_told : Nat → Option SealT := fun id => none
theorem F45_ok : FOK Try.prog n_F45 F45_sh F45_fo F45 :=
  fn_ok (E := F45_E) (F45_Eok) (told := F45_told) (fl := []) (c := bodyOf fn_F45) (s := F45_sh) (l := F45_fo) (tree := F45_t) fnat_F45 (by kernel_rfl) (by kernel_rfl) (by kernel_rfl) (loopsOK_of (ls := []) (by kernel_rfl) trivial) (fun v => by kernel_rfl)

theorem F45_eq (n low high : Int) : F45 (n, low, high) = some (inB low high n) := by
  simp only [F45, F45_t, T.run, ge_iff_le, decide_eq_true_eq, inB]
  by_cases h : low ≤ n <;> simp [h]


def F26_sh : FSh := ⟨[(.one (.si .i64))], []⟩

def F26_fo : List FO := [⟨[(.one .sb)], []⟩]
noncomputable def F26_t : Int → T Bool := fun n =>
 (.sub (F45 (n, ((3 : Int), (8 : Int)))) fun z0 =>
 (.ret z0))
noncomputable def F26 (v : Int) : Option Bool := (F26_t v).run
noncomputable def F26_E : TEnv := (E0.add1 n_F45 F45_sh F45_fo F45)
theorem F26_Eok : (F26_E).OK := (E0ok.add1 F45_ok)
noncomputable def F26_told : Nat → Option SealT := fun id => none
theorem F26_ok : FOK Try.prog n_F26 F26_sh F26_fo F26 :=
  fn_ok (E := F26_E) (F26_Eok) (told := F26_told) (fl := []) (c := bodyOf fn_F26) (s := F26_sh) (l := F26_fo) (tree := F26_t) fnat_F26 (by kernel_rfl) (by kernel_rfl) (by kernel_rfl) (loopsOK_of (ls := []) (by kernel_rfl) trivial) (fun v => by kernel_rfl)

def F30_sh : FSh := ⟨[(.one (.si .i64)), (.ag [(.si .i64), (.si .i64)])], []⟩

def F30_fo : List FO := [⟨[(.one .sb)], []⟩]
noncomputable def F30_t : (Int × (Int × Int)) → T Bool := fun (n, (d_0, d_1)) =>
 (.sub (F45 (d_0, ((0 : Int), (w64 (n - 1))))) fun z0 =>
 (.test z0
 (.sub (F45 (d_1, ((0 : Int), (w64 (n - 1))))) fun z1 =>
 (.test z1
 (.test (decide ((w64 (d_1 - d_0)) > 1))
 (.test (d_0 == 0)
 (.ret (! (d_1 == (w64 (n - 1)))))
 (.ret true))
 (.ret false))
 (.ret false)))
 (.ret false)))
noncomputable def F30 (v : (Int × (Int × Int))) : Option Bool := (F30_t v).run
noncomputable def F30_E : TEnv := (E0.add1 n_F45 F45_sh F45_fo F45)
theorem F30_Eok : (F30_E).OK := (E0ok.add1 F45_ok)
noncomputable def F30_told : Nat → Option SealT := fun id => none
theorem F30_ok : FOK Try.prog n_F30 F30_sh F30_fo F30 :=
  fn_ok (E := F30_E) (F30_Eok) (told := F30_told) (fl := []) (c := bodyOf fn_F30) (s := F30_sh) (l := F30_fo) (tree := F30_t) fnat_F30 (by kernel_rfl) (by kernel_rfl) (by kernel_rfl) (loopsOK_of (ls := []) (by kernel_rfl) trivial) (fun v => by kernel_rfl)

theorem F30_eq (n : Int) (d : Dg) (h1 : 0 ≤ n) (h2 : n ≤ 1000000) : F30 (n, d) = some (inDg n d) := by
  obtain ⟨a, b⟩ := d
  have w1 : w64 (n - 1) = n - 1 := w64_id (by omega) (by omega)
  simp only [F30, F30_t, T.run, F45_eq, Option.bind_some, w1, inDg]
  cases ha : inB 0 (n - 1) a with
  | false => simp
  | true =>
    cases hb : inB 0 (n - 1) b with
    | false => simp
    | true =>
      rw [inB_iff] at ha hb
      have w2 : w64 (b - a) = b - a := w64_id (by omega) (by omega)
      rw [w2]
      by_cases h4 : a = 0
      · subst h4
        rw [Int.sub_zero]
        by_cases h5 : b > 1 <;> simp [h5, beq_int]
      · by_cases h5 : b - a > 1 <;> simp [h5, h4]


def F23_sh : FSh := ⟨[(.one (.si .i64))], []⟩

def F23_L6_sh : LSh := ⟨(fun ex => match ex with | .norm => [(0, none), (3, none), (4, none), (5, none), (8, none), (9, none)] | .exit i => if i = 2 then [(0, none), (3, none), (8, none), (9, none)] else if i = 1 then [(0, none), (3, none), (8, none), (9, none)] else if i = 0 then [(3, none)] else [] | .ret => [(2, none)]), [(0, (.one (.si .i64))), (3, (.one (.rw 0 0))), (4, (.one (.si .i64))), (5, (.one (.si .i64))), (8, (.one (.si .i64))), (9, (.one (.si .i64)))], [(.row 0 (.pair (.int .i64) (.int .i64)))], [⟨(.exit 2), [(0, (.one (.si .i64))), (3, (.one (.rw 0 0))), (8, (.one (.si .i64))), (9, (.one (.si .i64)))], [(.row 0 (.pair (.int .i64) (.int .i64)))]⟩], [], []⟩
noncomputable def F23_L6_step : ((Int × Unit × Int × Int × Int × Int) × List ((Int × Int))) → T (((Int × Unit × Int × Int × Int × Int) × List ((Int × Int))) ⊕ ((Int × Unit × Int × Int) × List ((Int × Int)))) := fun ((n, (), low, high, t8, t9), out) =>
 (.test (decide (high < n))
 (.sub (F30 (n, (low, high))) fun z0 =>
 (.test z0
 (.test (decide (1 ≤ (List.length (List.set (List.replicate 1 ((0 : Int), (0 : Int))) 0 (low, high)))))
 (.test (decide ((0 + (List.length out)) ≤ (List.length out)))
 (.test (decide ((2 * (((List.length out) + (List.length (win (List.set (List.replicate 1 ((0 : Int), (0 : Int))) 0 (low, high)) 0 1))) * 17)) ≤ 140737488355328))
 (.test (decide ((0 = 0) ∧ (((List.length out) + (List.length (win (List.set (List.replicate 1 ((0 : Int), (0 : Int))) 0 (low, high)) 0 1))) = (List.length ((win out 0 (List.length out)) ++ (win (List.set (List.replicate 1 ((0 : Int), (0 : Int))) 0 (low, high)) 0 1))))))
 (.ret (Sum.inl ((n, ((), (low, ((w64 (high + 1)), (t8, t9))))), ((win out 0 (List.length out)) ++ (win (List.set (List.replicate 1 ((0 : Int), (0 : Int))) 0 (low, high)) 0 1)))))
 .fail)
 .fail)
 .fail)
 .fail)
 (.test (decide ((0 = 0) ∧ ((List.length out) = (List.length out))))
 (.ret (Sum.inl ((n, ((), (low, ((w64 (high + 1)), (t8, t9))))), out)))
 .fail)))
 (.test (decide ((0 = 0) ∧ ((List.length out) = (List.length out))))
 (.ret (Sum.inr ((n, ((), (t8, t9))), out)))
 .fail))
noncomputable def F23_L6 (v : ((Int × Unit × Int × Int × Int × Int) × List ((Int × Int)))) : Option ((Int × Unit × Int × Int) × List ((Int × Int))) := loopO (fun v => (F23_L6_step v).run) v

def F23_L3_sh : LSh := ⟨(fun ex => match ex with | .norm => [(0, none), (3, none), (8, none), (9, none)] | .exit i => if i = 0 then [(3, none)] else [] | .ret => [(2, none)]), [(0, (.one (.si .i64))), (3, (.one (.rw 0 0))), (8, (.one (.si .i64))), (9, (.one (.si .i64)))], [(.row 0 (.pair (.int .i64) (.int .i64)))], [⟨(.exit 0), [(3, (.one (.rw 0 0)))], [(.row 0 (.pair (.int .i64) (.int .i64)))]⟩], [], []⟩
noncomputable def F23_L3_step : ((Int × Unit × Int × Int) × List ((Int × Int))) → T (((Int × Unit × Int × Int) × List ((Int × Int))) ⊕ (Unit × List ((Int × Int)))) := fun ((n, (), t8, t9), out) =>
 (.test (decide (t9 < t8))
 (.test (decide ((0 = 0) ∧ ((List.length out) = (List.length out))))
 (.sub (F23_L6 ((n, ((), (t9, ((w64 (t9 + 1)), (t8, t9))))), out)) fun z0 =>
 (.test (decide ((0 = 0) ∧ ((List.length z0.2) = (List.length z0.2))))
 (.ret (Sum.inl ((z0.1.1, ((), (z0.1.2.2.1, (w64 (z0.1.2.2.2 + 1))))), z0.2)))
 .fail))
 .fail)
 (.test (decide ((0 = 0) ∧ ((List.length out) = (List.length out))))
 (.ret (Sum.inr ((), out)))
 .fail))
noncomputable def F23_L3 (v : ((Int × Unit × Int × Int) × List ((Int × Int)))) : Option (Unit × List ((Int × Int))) := loopO (fun v => (F23_L3_step v).run) v

def F23_fo : List FO := [⟨[(.one (.rw 0 0))], [(.row 0 (.pair (.int .i64) (.int .i64)))]⟩]
noncomputable def F23_t : Int → T (Unit × List ((Int × Int))) := fun n =>
 (.test true
 (.sub (F23_L3 ((n, ((), (n, (0 : Int)))), (List.replicate 0 ((0 : Int), (0 : Int))))) fun z0 =>
 (.test (decide ((0 = 0) ∧ ((List.length z0.2) = (List.length z0.2))))
 (.ret ((), z0.2))
 .fail))
 .fail)
noncomputable def F23 (v : Int) : Option (Unit × List ((Int × Int))) := (F23_t v).run
noncomputable def F23_E : TEnv := (E0.add1 n_F30 F30_sh F30_fo F30)
theorem F23_Eok : (F23_E).OK := (E0ok.add1 F30_ok)
noncomputable def F23_told : Nat → Option SealT := fun id => if id = 6 then some (LSh.told F23_L6_sh 0 (F23_L6_step)) else if id = 3 then some (LSh.told F23_L3_sh 0 (F23_L3_step)) else none
theorem F23_L6_ok : ToldOK Try.prog 0 (loopAt (bodyOf fn_F23) [0, 0]) (LSh.told F23_L6_sh 0 (F23_L6_step)) :=
  loop_ok (E := F23_E) (F23_Eok) (told := F23_told) (l := F23_L6_sh) (step := F23_L6_step) (loopsOK_of (ls := []) (by kernel_rfl) trivial) (by kernel_rfl) (fun v => by kernel_rfl)
theorem F23_L3_ok : ToldOK Try.prog 0 (loopAt (bodyOf fn_F23) [0]) (LSh.told F23_L3_sh 0 (F23_L3_step)) :=
  loop_ok (E := F23_E) (F23_Eok) (told := F23_told) (l := F23_L3_sh) (step := F23_L3_step) (loopsOK_of (ls := [loopAt (bodyOf fn_F23) [0, 0]]) (by kernel_rfl) ⟨.inr ⟨_, by kernel_rfl, F23_L6_ok⟩, trivial⟩) (by kernel_rfl) (fun v => by kernel_rfl)
theorem F23_ok : FOK Try.prog n_F23 F23_sh F23_fo F23 :=
  fn_ok (E := F23_E) (F23_Eok) (told := F23_told) (fl := []) (c := bodyOf fn_F23) (s := F23_sh) (l := F23_fo) (tree := F23_t) fnat_F23 (by kernel_rfl) (by kernel_rfl) (by kernel_rfl) (loopsOK_of (ls := [loopAt (bodyOf fn_F23) [0]]) (by kernel_rfl) ⟨.inr ⟨_, by kernel_rfl, F23_L3_ok⟩, trivial⟩) (fun v => by kernel_rfl)

theorem F23_row (n a : Nat) (t8 t9 : Int) (hn : n ≤ 1000) : ∀ (m b : Nat) (out : List Dg), b + m = n → out.length + m ≤ 1000000 →
    F23_L6 (((n : Int), ((), ((a : Int), ((b : Int), (t8, t9))))), out) = some (((n : Int), ((), (t8, t9))), out ++ rowD n a b)
  | 0, b, out, hb, ho => by
    have : b = n := by omega
    subst this
    rw [rowD_end, List.append_nil]
    simp only [F23_L6]
    exact loopO_done (by simp [F23_L6_step, T.run])
  | m + 1, b, out, hb, ho => by
    have c0 : (b : Int) < (n : Int) := by omega
    have w1 : w64 ((b : Int) + 1) = ((b + 1 : Nat) : Int) := by rw [w64_id (by omega) (by omega)]; omega
    have c1 : 2 * ((out.length + 1) * 17) ≤ 140737488355328 := by omega
    have hd := F30_eq (n : Int) ((a : Int), (b : Int)) (by omega) (by omega)
    rw [rowD_step (by omega : b < n)]
    cases hg : inDg n ((a : Int), (b : Int)) with
    | true =>
      have ih := F23_row n a t8 t9 hn m (b + 1) (out ++ [((a : Int), (b : Int))]) (by omega) (by simp; omega)
      simp only [F23_L6] at ih ⊢
      rw [hg] at hd
      have st : (F23_L6_step (((n : Int), ((), ((a : Int), ((b : Int), (t8, t9))))), out)).run = some (.inl (((n : Int), ((), ((a : Int), (((b + 1 : Nat) : Int), (t8, t9))))), out ++ [((a : Int), (b : Int))])) := by
        simp only [F23_L6_step, T.run, c0, hd, decide_true, if_true, Option.bind_some, win_one, win_all, List.length_cons, List.length_nil, Nat.zero_add, c1, w1, List.length_set, List.length_replicate, Nat.le_refl, List.length_append, true_and]
      rw [loopO_next st, ih]
      simp
    | false =>
      have ih := F23_row n a t8 t9 hn m (b + 1) out (by omega) (by omega)
      simp only [F23_L6] at ih ⊢
      rw [hg] at hd
      have st : (F23_L6_step (((n : Int), ((), ((a : Int), ((b : Int), (t8, t9))))), out)).run = some (.inl (((n : Int), ((), ((a : Int), (((b + 1 : Nat) : Int), (t8, t9))))), out)) := by
        simp only [F23_L6_step, T.run, c0, hd, decide_true, if_true, Option.bind_some, Bool.false_eq_true, if_false, w1, true_and]
      rw [loopO_next st, ih]
      simp
theorem F23_rows (n : Nat) (hn : n ≤ 12) : ∀ (m a : Nat) (out : List Dg), a + m = n → out.length ≤ 1000 * a →
    F23_L3 (((n : Int), ((), ((n : Int), (a : Int)))), out) = some ((), out ++ rowsD n a)
  | 0, a, out, ha, ho => by
    have : a = n := by omega
    subst this
    rw [rowsD_end, List.append_nil]
    simp only [F23_L3]
    exact loopO_done (by simp [F23_L3_step, T.run])
  | m + 1, a, out, ha, ho => by
    have c0 : (a : Int) < (n : Int) := by omega
    have w1 : w64 ((a : Int) + 1) = ((a + 1 : Nat) : Int) := by rw [w64_id (by omega) (by omega)]; omega
    have hr := F23_row n a (n : Int) (a : Int) (by omega) (n - (a + 1)) (a + 1) out (by omega) (by omega)
    rw [← rowD_front n a (a + 1) (by omega)] at hr
    have hl := rowD_len n a 0
    have ih := F23_rows n hn m (a + 1) (out ++ rowD n a 0) (by omega) (by rw [List.length_append]; omega)
    rw [rowsD_step (by omega : a < n), ← List.append_assoc]
    simp only [F23_L3] at ih ⊢
    rw [← ih]
    refine loopO_next ?_
    simp only [F23_L3_step, T.run, c0, decide_true, if_true, true_and, w1, hr, Option.bind_some]
theorem F23_eq (n : Nat) (hn : n ≤ 12) : F23 (n : Int) = some ((), dgL n) := by
  have h := F23_rows n hn n 0 [] (by omega) (by simp)
  have e : rowsD n 0 = dgL n := by unfold rowsD; rw [List.drop_zero, dgL_rows]
  rw [e, List.nil_append, Int.natCast_zero] at h
  simp only [F23, F23_t, T.run, List.replicate_zero, h, Option.bind_some]
  simp


def F39_sh : FSh := ⟨[(.one (.si .i64)), (.one (.sl (.pair (.int .i64) (.int .i64)) false false)), (.one (.si .i64))], []⟩

def F39_fo : List FO := [⟨[(.one .sb)], []⟩]
noncomputable def F39_t : (Int × List ((Int × Int)) × Int) → T Bool := fun (n, ds, size) =>
 (.sub (F51 (n, ds)) fun z0 =>
 (.test (decide (((0 : Int) ≤ (0 : Int)) ∧ (0 < ((List.length z0.2) : Int))))
 (.sub (z0.2[0]?) fun z1 =>
 (.test (z1 == size)
 (.test (decide ((0 ≤ (w64 (((List.length z0.2) : Int) - 1))) ∧ ((w64 (((List.length z0.2) : Int) - 1)) < ((List.length z0.2) : Int))))
 (.sub (z0.2[(0 + (Int.toNat (w64 (((List.length z0.2) : Int) - 1))))]?) fun z2 =>
 (.ret (z2 == size)))
 .fail)
 (.ret false)))
 .fail))
noncomputable def F39 (v : (Int × List ((Int × Int)) × Int)) : Option Bool := (F39_t v).run
noncomputable def F39_E : TEnv := (E0.add1 n_F51 F51_sh F51_fo F51)
theorem F39_Eok : (F39_E).OK := (E0ok.add1 F51_ok)
noncomputable def F39_told : Nat → Option SealT := fun id => none
theorem F39_ok : FOK Try.prog n_F39 F39_sh F39_fo F39 :=
  fn_ok (E := F39_E) (F39_Eok) (told := F39_told) (fl := []) (c := bodyOf fn_F39) (s := F39_sh) (l := F39_fo) (tree := F39_t) fnat_F39 (by kernel_rfl) (by kernel_rfl) (by kernel_rfl) (loopsOK_of (ls := []) (by kernel_rfl) trivial) (fun v => by kernel_rfl)

theorem F39_eq {N : Nat} {ds : List Dg} (size : Int) (h3 : 3 ≤ N) (hN : N ≤ 12) (hl : ds.length + 3 ≤ N) (hc : CutD N ds) : F39 ((N : Int), (ds, size)) = some ((szL N ds).all fun s => s == size) := by
  have hperm := sortI_perm (szL N ds)
  have hup := sortI_up (szL N ds)
  have hlen := hperm.length_eq
  rw [szL_len hc h3] at hlen
  have e : ((szL N ds).all fun s => s == size) = ((sortI (szL N ds)).all fun s => s == size) := by
    rw [Bool.eq_iff_iff, List.all_eq_true, List.all_eq_true]
    exact ⟨fun h x hx => h x (hperm.mem_iff.1 hx), fun h x hx => h x (hperm.mem_iff.2 hx)⟩
  rw [F39, F39_t, T.run_sub, F51_eq h3 hN hl hc, Option.bind_some, e]
  obtain ⟨L, hL⟩ : ∃ L, L = sortI (szL N ds) := ⟨_, rfl⟩
  rw [← hL] at hlen hup ⊢
  have hup := List.pairwise_iff_getElem.1 hup
  have w1 : w64 ((L.length : Int) - 1) = ((L.length - 1 : Nat) : Int) := by rw [w64_id (by omega) (by omega)]; omega
  have h0 : 0 < L.length := by omega
  have hll : L.length - 1 < L.length := by omega
  dsimp only
  rw [T.run_test, if_pos (decide_eq_true (by omega)), T.run_sub, List.getElem?_eq_getElem h0, Option.bind_some, T.run_test]
  cases c : (L[0] == size) with
  | false =>
    rw [if_neg (by simp), T.run_ret]
    congr 1
    symm
    rw [List.all_eq_false]
    exact ⟨L[0], List.getElem_mem h0, by simpa using c⟩
  | true =>
    rw [if_pos rfl, T.run_test, w1, if_pos (decide_eq_true (by omega)), T.run_sub, Nat.zero_add, Int.toNat_natCast, List.getElem?_eq_getElem hll, Option.bind_some, T.run_ret]
    congr 1
    have c := eq_of_beq c
    cases c2 : (L[L.length - 1] == size) with
    | false =>
      symm
      rw [List.all_eq_false]
      exact ⟨_, List.getElem_mem hll, by simpa using c2⟩
    | true =>
      symm
      have c2 := eq_of_beq c2
      rw [List.all_eq_true]
      intro x hx
      obtain ⟨i, hi, rfl⟩ := List.getElem_of_mem hx
      have g1 : L[0] ≤ L[i] := by
        by_cases g : i = 0
        · subst g; exact Int.le_refl _
        · exact hup 0 i h0 hi (by omega)
      have g2 : L[i] ≤ L[L.length - 1] := by
        by_cases g : i = L.length - 1
        · have : ∀ (j : Nat) (hj : j < L.length), i = j → L[i] ≤ L[j] := fun j hj e => by subst e; exact Int.le_refl _
          exact this _ hll g
        · exact hup i (L.length - 1) hi hll (by omega)
      rw [beq_iff_eq]; omega


def F9_sh : FSh := ⟨[.one (.sl (.pair (.int .i64) (.int .i64)) false false)], []⟩
def F9_fo : List FO := [⟨[.one (.rw 0 0)], [.row 0 (.pair (.int .i64) (.int .i64))]⟩]
def F9 (v : List (Int × Int)) : Option (Unit × List (Int × Int)) := if v.length ≤ maxLen ∧ v.length * 16 ≤ 140737488355328 then some ((), v) else none
def F9_ren : Shelf.Ren := ⟨fun _ => n_F9, fun t => if t = 4 then 4 else if t = 22 then 27 else 54, fun x => x⟩
theorem F9_lay : SlLaysE0.n41 Try.prog F9_ren :=
  { mixed := by kernel_rfl, f41 := ⟨"slices.Clone[[]loop.example/g01236/impl.Diagonal,loop.example/g01236/impl.Diagonal]", by kernel_rfl, by kernel_rfl⟩, t4 := by kernel_rfl, a4 := fun w => by kernel_rfl, z4 := fun w => by kernel_rfl, v4 := fun w => by kernel_rfl, t22 := by kernel_rfl, a22 := fun w => by kernel_rfl, z22 := fun w => by kernel_rfl, v22 := fun w => by kernel_rfl }
noncomputable def F9_info : TypeInfo := (Try.prog.info? 54).get (by kernel_rfl)
theorem F9_ok : FOK Try.prog n_F9 F9_sh F9_fo F9 :=
  clone_ok (e := (.pair (.int .i64) (.int .i64))) ⟨_, fnat_F9, by kernel_rfl, by kernel_rfl⟩ (ρr := F9_ren) rfl F9_lay rfl F9_info (.agg #[.int .i64 0, .int .i64 0]) 16 (by kernel_rfl) (by kernel_rfl) (by kernel_rfl) (by kernel_rfl) (by decide) (by decide) (fun w => by kernel_rfl)

theorem clone_D {ds : List Dg} (hl : ds.length ≤ 1000) : F9 ds = some ((), ds) := by
  unfold F9
  rw [if_pos ⟨by unfold maxLen; omega, by omega⟩]



def kr (s : Int) : List Int → Int
  | [] => 1
  | [a] => a
  | a :: b :: l => a * kr s (b :: l) + s * kr s l
def kt (s : Int) : List Int → Int
  | [] => 0
  | _ :: l => kr s l
theorem kr_cons (s a : Int) (l : List Int) : kr s (a :: l) = a * kr s l + s * kt s l := by
  cases l with
  | nil => simp [kr, kt]
  | cons b l => rfl
theorem kt_cons (s a : Int) (l : List Int) : kt s (a :: l) = kr s l := rfl
structure MinusOf (num den : Int) (l : List Int) : Prop where
  ne : l ≠ []
  k : kr (-1) l = num
  t : kt (-1) l = den
  two : ∀ x ∈ l.tail, 2 ≤ x
  one : ∀ x ∈ l.head?, 1 ≤ x
  far : den < num → ∀ x ∈ l.head?, 2 ≤ x
theorem upQ_two {num den : Int} (h1 : 1 ≤ den) (h : den < num) : 2 ≤ upQ num den := by
  unfold upQ
  exact Int.le_ediv_of_mul_le (by omega) (by omega)
theorem upQ_one {num den : Int} (h1 : 1 ≤ den) (h : 1 ≤ num) : 1 ≤ upQ num den := by
  unfold upQ
  exact Int.le_ediv_of_mul_le (by omega) (by omega)
theorem MinusOf.cons {num den : Int} {l : List Int} (h1 : 1 ≤ num) (h2 : 1 ≤ den) (hr : upQ num den * den - num < den) (h : MinusOf den (upQ num den * den - num) l) : MinusOf num den (upQ num den :: l) := by
  refine ⟨by simp, by rw [kr_cons, h.k, h.t]; omega, by rw [kt_cons, h.k], fun x hx => ?_, fun x hx => ?_, fun hl x hx => ?_⟩
  · cases l with
    | nil => exact absurd rfl h.ne
    | cons b l =>
      simp only [List.tail_cons, List.mem_cons] at hx
      rcases hx with rfl | hx
      · exact h.far hr x rfl
      · exact h.two x hx
  · simp at hx; subst hx; exact upQ_one h2 h1
  · simp at hx; subst hx; exact upQ_two h2 hl
structure PlusOf (num den : Int) (l : List Int) : Prop where
  ne : l ≠ []
  k : kr 1 l = num
  t : kt 1 l = den
  pos : den ≤ num → ∀ x ∈ l, 1 ≤ x
  far : den < num → ∀ x ∈ l.getLast?, 2 ≤ x
theorem PlusOf.cons {num den q r : Int} {l : List Int} (h2 : 1 ≤ den) (hr0 : 0 < r) (hr : r < den) (e : q * den + r = num) (h : PlusOf den r l) : PlusOf num den (q :: l) := by
  refine ⟨by simp, by rw [kr_cons, h.k, h.t]; omega, by rw [kt_cons, h.k], fun hl x hx => ?_, fun hl x hx => ?_⟩
  · simp only [List.mem_cons] at hx
    rcases hx with rfl | hx
    · refine Int.not_lt.1 fun hq => ?_
      have : x * den ≤ 0 * den := Int.mul_le_mul_of_nonneg_right (by omega) (by omega)
      omega
    · exact h.pos (by omega) x hx
  · cases l with
    | nil => exact absurd rfl h.ne
    | cons b l =>
      rw [List.getLast?_cons_cons] at hx
      exact h.far hr x hx



def A4 (a : Int) : M4 := (a, -1, 1, 0)
def MM : List Int → M4
  | [] => one4
  | a :: l => mul4 (A4 a) (MM l)
theorem mul4_assoc (a b c : M4) : mul4 (mul4 a b) c = mul4 a (mul4 b c) := by
  obtain ⟨a1, a2, a3, a4⟩ := a
  obtain ⟨b1, b2, b3, b4⟩ := b
  obtain ⟨c1, c2, c3, c4⟩ := c
  simp only [mul4, Prod.mk.injEq]
  refine ⟨?_, ?_, ?_, ?_⟩ <;> grind
theorem mul4_one (a : M4) : mul4 one4 a = a := by
  obtain ⟨a1, a2, a3, a4⟩ := a
  simp [mul4, one4]
theorem mul4_one' (a : M4) : mul4 a one4 = a := by
  obtain ⟨a1, a2, a3, a4⟩ := a
  simp [mul4, one4]
theorem MM_append : ∀ l m : List Int, MM (l ++ m) = mul4 (MM l) (MM m)
  | [], m => by rw [List.nil_append]; exact (mul4_one _).symm
  | a :: l, m => by rw [List.cons_append, MM, MM, MM_append l m, mul4_assoc]
def clo (e : Int) (l : List Int) : Prop := MM l = (e, 0, 0, e)
theorem clo_rot1 {e a : Int} {t : List Int} : clo e (a :: t) ↔ clo e (t ++ [a]) := by
  unfold clo
  rw [MM_append, MM]
  show _ ↔ mul4 (MM t) (mul4 (A4 a) one4) = _
  rw [mul4_one']
  obtain ⟨p, q, r, s⟩ := MM t
  simp only [mul4, A4, Prod.mk.injEq]
  constructor
  · rintro ⟨h1, h2, h3, h4⟩
    refine ⟨?_, ?_, ?_, ?_⟩ <;> grind
  · rintro ⟨h1, h2, h3, h4⟩
    refine ⟨?_, ?_, ?_, ?_⟩ <;> grind
theorem clo_rot {e : Int} : ∀ p q : List Int, clo e (p ++ q) ↔ clo e (q ++ p)
  | [], q => by simp
  | a :: p, q => by
    rw [List.cons_append, clo_rot1, List.append_assoc, clo_rot p (q ++ [a]), List.append_assoc]
    rfl
def Rot (p q : List Int) : Prop := ∃ a b, p = a ++ b ∧ q = b ++ a
theorem Rot.clo {p q : List Int} {e : Int} (h : Rot p q) : clo e p ↔ clo e q := by
  obtain ⟨a, b, rfl, rfl⟩ := h
  exact clo_rot a b
theorem Rot.length {p q : List Int} (h : Rot p q) : p.length = q.length := by
  obtain ⟨a, b, rfl, rfl⟩ := h
  simp only [List.length_append]; omega
def Gp (o p : List Int) : Prop := o.length = p.length ∧ ∀ i, o.getD i 0 = 0 ∨ o.getD i 0 = p.getD i 0
theorem Gp.refl (p : List Int) : Gp p p := ⟨rfl, fun i => .inr rfl⟩
theorem Gp.trans {o p q : List Int} (h1 : Gp o p) (h2 : Gp p q) : Gp o q := ⟨h1.1.trans h2.1, fun i => by
  rcases h1.2 i with h | h
  · exact .inl h
  · rw [h]; exact h2.2 i⟩
theorem getD_set (l : List Int) (k i : Nat) (v : Int) : (l.set k v).getD i 0 = if k = i ∧ k < l.length then v else l.getD i 0 := by
  rw [List.getD_eq_getElem?_getD, List.getElem?_set]
  by_cases h : k = i
  · subst h
    by_cases h' : k < l.length
    · rw [if_pos rfl, if_pos h', if_pos ⟨rfl, h'⟩]; rfl
    · rw [if_pos rfl, if_neg h', if_neg (by omega), List.getD_eq_getElem?_getD, List.getElem?_eq_none (by omega)]
  · rw [if_neg h, if_neg (by omega), List.getD_eq_getElem?_getD]
theorem Gp.set {o p : List Int} (h : Gp o p) (k : Nat) : Gp (o.set k 0) p := ⟨by rw [List.length_set]; exact h.1, fun i => by
  rw [getD_set]
  split
  · exact .inl rfl
  · exact h.2 i⟩
def cutsK (n k : Nat) : List (List Dg) := lookL k (dgL n) []
def lexD : List Dg → List Dg → Bool
  | [], [] => false
  | [], _ :: _ => true
  | _ :: _, [] => false
  | a :: s, b :: t => if a = b then lexD s t else ltD a b
def adjD : List (List Dg) → Bool
  | a :: b :: t => lexD a b && adjD (b :: t)
  | _ => true
theorem cutsK_ok : ∀ n : Nat, n ≤ 8 → ∀ k : Nat, k ≤ 5 → 3 ≤ n → k + 3 ≤ n → ((cutsK n k).all fun ds => isCut n ds && decide (ds.length = k)) = true ∧ adjD (cutsK n k) = true := by decide +kernel
end Go.Proofs.W
