/- Functions of the program, walked, and what they compute. -/
import Derived.Test.YtaoeghfoifhhcaaGreatFnWk4
set_option linter.unusedVariables false
set_option linter.unusedSimpArgs false
set_option maxRecDepth 100000
set_option maxHeartbeats 4000000
namespace Go.Proofs.W
open Go Go.Gm Go.Proofs
open Go.RowKit Go.Shelf
def F3_sh : FSh := ⟨[(.one (.rw 0 0)), (.clo n_F20 [(.one (.pb (.list false (.pair (.int .i64) (.int .i64)))))])], [(.row 0 (.pair (.int .i64) (.int .i64)))]⟩

def F3_L5_sh : LSh := ⟨(fun ex => match ex with | .norm => [(0, none), (1, none), (5, none), (6, none)] | .exit i => if i = 0 then [(0, none), (5, none)] else [] | .ret => [(4, none)]), [(0, (.one (.rw 0 0))), (1, (.clo n_F20 [(.one (.pb (.list false (.pair (.int .i64) (.int .i64)))))])), (5, (.one (.si .i64))), (6, (.one (.si .i64)))], [(.row 0 (.pair (.int .i64) (.int .i64)))], [⟨(.exit 0), [(0, (.one (.rw 0 0))), (5, (.one (.si .i64)))], [(.row 0 (.pair (.int .i64) (.int .i64)))]⟩], [], []⟩
noncomputable def F3_L5_step : ((Unit × List ((Int × Int)) × Int × Int) × List ((Int × Int))) → T (((Unit × List ((Int × Int)) × Int × Int) × List ((Int × Int))) ⊕ ((Unit × Int) × List ((Int × Int)))) := fun (((), del_0, i, j), s) =>
 (.test (decide (j < ((List.length s) : Int)))
 (.test (decide ((0 ≤ j) ∧ (j < ((List.length s) : Int))))
 (.sub (s[(0 + (Int.toNat j))]?) fun z0 =>
 (.sub (F20 (z0, del_0)) fun z1 =>
 (.test (! z1)
 (.test (decide ((0 ≤ i) ∧ (i < ((List.length s) : Int))))
 (.sub (s[(0 + (Int.toNat i))]?) fun z2 =>
 (.test (decide ((0 = 0) ∧ ((List.length s) = (List.length (List.set s (0 + (Int.toNat i)) z0)))))
 (.ret (Sum.inl (((), (del_0, ((w64 (i + 1)), (w64 (j + 1))))), (List.set s (0 + (Int.toNat i)) z0))))
 .fail))
 .fail)
 (.test (decide ((0 = 0) ∧ ((List.length s) = (List.length s))))
 (.ret (Sum.inl (((), (del_0, (i, (w64 (j + 1))))), s)))
 .fail))))
 .fail)
 (.test (decide ((0 = 0) ∧ ((List.length s) = (List.length s))))
 (.ret (Sum.inr (((), i), s)))
 .fail))
noncomputable def F3_L5 (v : ((Unit × List ((Int × Int)) × Int × Int) × List ((Int × Int)))) : Option ((Unit × Int) × List ((Int × Int))) := loopO (fun v => (F3_L5_step v).run) v

def F3_w_fo : List FO := [⟨[(.one (.rf 0 0))], [(.row 0 (.pair (.int .i64) (.int .i64)))]⟩]
noncomputable def F3_t : ((Unit × List ((Int × Int))) × List ((Int × Int))) → T ((Nat × Nat) × List ((Int × Int))) := fun (((), del_0), s) =>
 (.test (decide ((0 + (List.length s)) ≤ (List.length s)))
 (.sub (F5 ((win s 0 (List.length s)), del_0)) fun z0 =>
 (.test (z0 == (-1))
 (.ret ((0, (List.length s)), s))
 (.test (decide ((0 = 0) ∧ ((List.length s) = (List.length s))))
 (.sub (F3_L5 (((), (del_0, (z0, (w64 (z0 + 1))))), s)) fun z1 =>
 (.test (decide (0 ≤ z1.1.2))
 (.test (decide (((Int.toNat z1.1.2) ≤ (List.length z1.2)) ∧ ((List.length z1.2) ≤ (List.length z1.2))))
 (.test (decide ((0 < ((List.length z1.2) - (Int.toNat z1.1.2))) ∧ (((0 + (Int.toNat z1.1.2)) + ((List.length z1.2) - (Int.toNat z1.1.2))) ≤ (List.length z1.2))))
 (.test (decide (0 ≤ z1.1.2))
 (.test (decide ((0 ≤ (Int.toNat z1.1.2)) ∧ ((Int.toNat z1.1.2) ≤ (List.length z1.2))))
 (.ret ((0, ((Int.toNat z1.1.2) - 0)), (spliceT z1.2 (0 + (Int.toNat z1.1.2)) (List.replicate ((List.length z1.2) - (Int.toNat z1.1.2)) ((0 : Int), (0 : Int))))))
 .fail)
 .fail)
 .fail)
 .fail)
 .fail))
 .fail)))
 .fail)
noncomputable def F3_w (v : ((Unit × List ((Int × Int))) × List ((Int × Int)))) : Option ((Nat × Nat) × List ((Int × Int))) := (F3_t v).run
noncomputable def F3_E : TEnv := ((E0.add1 n_F11 F5_sh F5_fo F5).add1 n_F20 F20_sh F20_fo F20)
theorem F3_Eok : (F3_E).OK := ((E0ok.add1 F5_ok).add1 F20_ok)
noncomputable def F3_told : Nat → Option SealT := fun id => if id = 5 then some (LSh.told F3_L5_sh 1 (F3_L5_step)) else none
theorem F3_L5_ok : ToldOK Tryz.prog 1 (loopAt (bodyOf fn_F10) [0]) (LSh.told F3_L5_sh 1 (F3_L5_step)) :=
  loop_ok (E := F3_E) (F3_Eok) (told := F3_told) (l := F3_L5_sh) (step := F3_L5_step) (loopsOK_of (ls := []) (by kernel_rfl) trivial) (by kernel_rfl) (fun v => by kernel_rfl)
theorem F3_w_ok : FOK Tryz.prog n_F10 F3_sh F3_w_fo F3_w :=
  fn_ok (E := F3_E) (F3_Eok) (told := F3_told) (fl := []) (c := bodyOf fn_F10) (s := F3_sh) (l := F3_w_fo) (tree := F3_t) fnat_F10 (by kernel_rfl) (by kernel_rfl) (by kernel_rfl) (loopsOK_of (ls := [loopAt (bodyOf fn_F10) [0]]) (by kernel_rfl) ⟨.inr ⟨_, by kernel_rfl, F3_L5_ok⟩, trivial⟩) (fun v => by kernel_rfl)
def F3_fo : List FO := [⟨[(.one (.rw 0 0))], [(.row 0 (.pair (.int .i64) (.int .i64)))]⟩]
def F3_m : ((Nat × Nat) × List ((Int × Int))) → T (Unit × List ((Int × Int))) := fun ((o, n), r0) => .test (decide (o = 0 ∧ n ≤ (List.length r0))) (.ret ((), (List.take n r0))) .fail
noncomputable def F3 (v : ((Unit × List ((Int × Int))) × List ((Int × Int)))) : Option (Unit × List ((Int × Int))) := (F3_w v).bind fun o => (F3_m o).run
theorem F3_ok : FOK Tryz.prog n_F10 F3_sh F3_fo F3 :=
  FOK.trunc (l' := F3_fo) F3_w_ok F3_m (fun o => by kernel_rfl)

theorem F3_eq (s b : List Dg) (hb : b.length < 4611686018427387904) (hl : s.length < 4611686018427387904) :
    F3 (((), b), s) = some ((), s.filter (fun d => decide (d ∈ b))) := by
  have hi := F5_eq s b hl hb
  refine Eq.trans ?_ (del_all (s := s) (fun d => decide (d ∈ b)) hl (idx := F5 (win s 0 s.length, b)) (lp := fun i j => F3_L5 (((), (b, (i, j))), s)) (by rw [win_all]; exact hi) fun i hi ht => ?_)
  · rfl
  · refine del_loop (step := fun v => (F3_L5_step v).run) b (fun d => decide (d ∈ b)) s ?_ ?_ ?_ (s.length - (i + 1)) (i + 1) s i (by omega) rfl (by omega) ht rfl
    · intro s' i j d hs' hij hj hd hm hk
      have w1 : w64 ((i : Int) + 1) = ((i + 1 : Nat) : Int) := by rw [w64_id (by omega) (by omega)]; omega
      have w2 : w64 ((j : Int) + 1) = ((j + 1 : Nat) : Int) := by rw [w64_id (by omega) (by omega)]; omega
      rw [F3_L5_step, T.run_test, if_pos (decide_eq_true (by omega)), T.run_test, if_pos (decide_eq_true (by omega)), T.run_sub, Nat.zero_add, Int.toNat_natCast, hd, Option.bind_some, T.run_sub, F20_eq d b hb, hk, Option.bind_some, T.run_test, if_pos (by simp), T.run_test, if_pos (decide_eq_true (by omega)), T.run_sub, Nat.zero_add, Int.toNat_natCast, List.getElem?_eq_getElem (show i < s'.length by omega), Option.bind_some, T.run_test, if_pos (by simp), T.run_ret, w1, w2]
    · intro s' i j d hs' hij hj hd hm hk
      have w2 : w64 ((j : Int) + 1) = ((j + 1 : Nat) : Int) := by rw [w64_id (by omega) (by omega)]; omega
      rw [F3_L5_step, T.run_test, if_pos (decide_eq_true (by omega)), T.run_test, if_pos (decide_eq_true (by omega)), T.run_sub, Nat.zero_add, Int.toNat_natCast, hd, Option.bind_some, T.run_sub, F20_eq d b hb, hk, Option.bind_some, T.run_test, if_neg (by simp), T.run_test, if_pos (by simp), T.run_ret, w2]
    · intro s' i hs'
      rw [F3_L5_step, T.run_test, if_neg (by rw [decide_eq_true_eq]; omega), T.run_test, if_pos (by simp), T.run_ret]


def F28_sh : FSh := ⟨[(.one (.si .i64)), (.one (.sl (.pair (.int .i64) (.int .i64)) false false)), (.one (.sl (.pair (.int .i64) (.int .i64)) false false))], []⟩

def F28_fo : List FO := [⟨[(.one (.rw 0 0)), (.one .sb)], [(.row 0 (.pair (.int .i64) (.int .i64)))]⟩]
noncomputable def F28_t : (Int × List ((Int × Int)) × List ((Int × Int))) → T ((Unit × Bool) × List ((Int × Int))) := fun (n, a, b) =>
 (.sub (F72 (n, (a, b))) fun z0 =>
 (.test (! z0)
 (.test true
 (.ret (((), false), ([] : List (Int × Int))))
 .fail)
 (.sub (F15 a) fun z1 =>
 (.test (decide ((0 = 0) ∧ ((List.length z1.2) = (List.length z1.2))))
 (.sub (F3 (((), b), z1.2)) fun z2 =>
 (.test (decide ((0 = 0) ∧ ((List.length z2.2) = (List.length z2.2))))
 (.ret (((), true), z2.2))
 .fail))
 .fail))))
noncomputable def F28 (v : (Int × List ((Int × Int)) × List ((Int × Int)))) : Option ((Unit × Bool) × List ((Int × Int))) := (F28_t v).run
noncomputable def F28_E : TEnv := (((E0.add1 n_F72 F72_sh F72_fo F72).add1 n_F15 F15_sh F15_fo F15).add1 n_F10 F3_sh F3_fo F3)
theorem F28_Eok : (F28_E).OK := (((E0ok.add1 F72_ok).add1 F15_ok).add1 F3_ok)
noncomputable def F28_told : Nat → Option SealT := fun id => none
theorem F28_ok : FOK Tryz.prog n_F28 F28_sh F28_fo F28 :=
  fn_ok (E := F28_E) (F28_Eok) (told := F28_told) (fl := []) (c := bodyOf fn_F28) (s := F28_sh) (l := F28_fo) (tree := F28_t) fnat_F28 (by kernel_rfl) (by kernel_rfl) (by kernel_rfl) (loopsOK_of (ls := []) (by kernel_rfl) trivial) (fun v => by kernel_rfl)

def coR (n : Int) (a b : List Dg) : (Unit × Bool) × List Dg := if isTri n a = true ∧ isTri n b = true then (((), true), a.filter fun d => decide (d ∈ b)) else (((), false), [])
theorem F28_eq (n : Int) (a b : List Dg) (ha : a.length ≤ 1000) (hb : b.length ≤ 1000) : F28 (n, (a, b)) = some (coR n a b) := by
  have hc : F15 a = some ((), a) := by
    unfold F15
    rw [if_pos ⟨by unfold maxLen; omega, by omega⟩]
  unfold coR
  rw [F28, F28_t, T.run_sub, F72_eq n a b (by omega) (by omega), Option.bind_some, T.run_test]
  by_cases c : isTri n a = true ∧ isTri n b = true
  · rw [if_neg (by simp [c.1, c.2]), T.run_sub, hc, Option.bind_some, T.run_test, if_pos (by simp), T.run_sub, F3_eq a b (by omega) (by omega), Option.bind_some, T.run_test, if_pos (by simp), T.run_ret, if_pos c]
  · rw [if_pos (by rw [Bool.not_eq_true', ← Bool.not_eq_true, Bool.and_eq_true]; exact c), T.run_test, if_pos rfl, T.run_ret, if_neg c]


def F16_sh : FSh := ⟨[(.one (.sl (.pair (.int .i64) (.int .i64)) false false)), (.one (.sl (.pair (.int .i64) (.int .i64)) false false))], []⟩

def F16_L4_sh : LSh := ⟨(fun ex => match ex with | .norm => [(0, none), (1, none), (12, none), (13, none)] | .exit i => if i = 0 then [] else [] | .ret => [(4, none)]), [(0, (.one (.sl (.pair (.int .i64) (.int .i64)) false false))), (1, (.one (.sl (.pair (.int .i64) (.int .i64)) false false))), (12, (.one (.si .i64))), (13, (.one (.si .i64)))], [], [⟨.ret, [(4, (.one .sb))], []⟩, ⟨(.exit 0), [], []⟩], [], []⟩
noncomputable def F16_L4_step : (List ((Int × Int)) × List ((Int × Int)) × Int × Int) → T ((List ((Int × Int)) × List ((Int × Int)) × Int × Int) ⊕ (Bool ⊕ Unit)) := fun (s1, s2, t12, t13) =>
 (.test (decide (t13 < t12))
 (.test (decide ((0 ≤ t13) ∧ (t13 < ((List.length s1) : Int))))
 (.sub (s1[(Int.toNat t13)]?) fun z0 =>
 (.test (decide ((0 ≤ t13) ∧ (t13 < ((List.length s2) : Int))))
 (.sub (s2[(Int.toNat t13)]?) fun z1 =>
 (.test (! ((z0.1 == z1.1) && ((z0.2 == z1.2) && true)))
 (.ret (Sum.inr (Sum.inl false)))
 (.ret (Sum.inl (s1, (s2, (t12, (w64 (t13 + 1)))))))))
 .fail))
 .fail)
 (.ret (Sum.inr (Sum.inr ()))))
noncomputable def F16_L4 (v : (List ((Int × Int)) × List ((Int × Int)) × Int × Int)) : Option (Bool ⊕ Unit) := loopO (fun v => (F16_L4_step v).run) v

def F16_fo : List FO := [⟨[(.one .sb)], []⟩]
noncomputable def F16_t : (List ((Int × Int)) × List ((Int × Int))) → T Bool := fun (s1, s2) =>
 (.test (((List.length s1) : Int) != ((List.length s2) : Int))
 (.ret false)
 (.sub (F16_L4 (s1, (s2, (((List.length s1) : Int), (0 : Int))))) fun z0 =>
 (.test (Sum.isLeft z0)
 (.sub (Sum.getLeft? z0) fun z1 =>
 (.ret z1))
 (.sub (Sum.getRight? z0) fun z2 =>
 (.ret true)))))
noncomputable def F16 (v : (List ((Int × Int)) × List ((Int × Int)))) : Option Bool := (F16_t v).run
noncomputable def F16_E : TEnv := E0
theorem F16_Eok : (F16_E).OK := E0ok
noncomputable def F16_told : Nat → Option SealT := fun id => if id = 4 then some (LSh.told F16_L4_sh 0 (F16_L4_step)) else none
theorem F16_L4_ok : ToldOK Tryz.prog 0 (loopAt (bodyOf fn_F16) [0]) (LSh.told F16_L4_sh 0 (F16_L4_step)) :=
  loop_ok (E := F16_E) (F16_Eok) (told := F16_told) (l := F16_L4_sh) (step := F16_L4_step) (loopsOK_of (ls := []) (by kernel_rfl) trivial) (by kernel_rfl) (fun v => by kernel_rfl)
theorem F16_ok : FOK Tryz.prog n_F16 F16_sh F16_fo F16 :=
  fn_ok (E := F16_E) (F16_Eok) (told := F16_told) (fl := []) (c := bodyOf fn_F16) (s := F16_sh) (l := F16_fo) (tree := F16_t) fnat_F16 (by kernel_rfl) (by kernel_rfl) (by kernel_rfl) (loopsOK_of (ls := [loopAt (bodyOf fn_F16) [0]]) (by kernel_rfl) ⟨.inr ⟨_, by kernel_rfl, F16_L4_ok⟩, trivial⟩) (fun v => by kernel_rfl)

theorem F16_val (a b : List Dg) (hl : a.length < 4611686018427387904) : F16 (a, b) = some (decide (a = b)) := by
  rw [F16, F16_t, T.run_test]
  by_cases he : a.length = b.length
  · have h := cmp_loop (step := fun v => (F16_L4_step v).run) a b (fun k => (a, (b, ((a.length : Int), (k : Int))))) he
      (fun k x y hx hy => by
        have k1 := getElem?_lt hx
        have k2 := getElem?_lt hy
        have w1 : w64 ((k : Int) + 1) = ((k + 1 : Nat) : Int) := by rw [w64_id (by omega) (by omega)]; omega
        rw [F16_L4_step, T.run_test, if_pos (decide_eq_true (by omega)), T.run_test, if_pos (decide_eq_true (by omega)), T.run_sub, Int.toNat_natCast, hx, Option.bind_some, T.run_test, if_pos (decide_eq_true (by omega)), T.run_sub, hy, Option.bind_some, T.run_test]
        by_cases e : x = y
        · rw [if_neg (by simp [e]), if_pos e, T.run_ret, w1]
        · rw [if_pos (by
            obtain ⟨x1, x2⟩ := x
            obtain ⟨y1, y2⟩ := y
            simp only [Prod.mk.injEq] at e
            by_cases e1 : x1 = y1
            · have e2 : x2 ≠ y2 := fun h => e ⟨e1, h⟩
              simp [e2]
            · simp [e1]), if_neg e, T.run_ret])
      (by rw [F16_L4_step, T.run_test, if_neg (by simp), T.run_ret])
    have h' : F16_L4 (a, (b, ((a.length : Int), (0 : Int)))) = _ := h
    rw [if_neg (by simp [he]), T.run_sub, h', Option.bind_some]
    by_cases e : a = b
    · rw [if_pos e, decide_eq_true e]; rfl
    · rw [if_neg e, decide_eq_false e]; rfl
  · rw [if_pos (by simp; omega), T.run_ret, decide_eq_false fun e => he (by rw [e])]


def F43_sh : FSh := ⟨[(.one (.si .i64)), (.one (.sl (.pair (.int .i64) (.int .i64)) false false)), (.one (.sl (.pair (.int .i64) (.int .i64)) false false))], []⟩

def F43_L4_sh : LSh := ⟨(fun ex => match ex with | .norm => [(0, none), (1, none), (2, none), (6, none), (16, none), (17, none), (18, none)] | .exit i => if i = 0 then [(6, none)] else [] | .ret => [(6, none), (7, none)]), [(0, (.one (.si .i64))), (1, (.one (.sl (.pair (.int .i64) (.int .i64)) false false))), (2, (.one (.sl (.pair (.int .i64) (.int .i64)) false false))), (6, (.one (.pf 0 0 0))), (16, (.one (.sl (.pair (.int .i64) (.int .i64)) false false))), (17, (.one (.si .i64))), (18, (.one (.si .i64)))], [(.rcd 0 [(.si .i64), (.si .i64)])], [⟨.ret, [(6, (.one (.pf 0 0 0))), (7, (.one .sb))], [(.rcd 0 [(.si .i64), (.si .i64)])]⟩, ⟨(.exit 0), [(6, (.one (.pf 0 0 0)))], [(.rcd 0 [(.si .i64), (.si .i64)])]⟩], [], []⟩
noncomputable def F43_L4_step : ((Int × List ((Int × Int)) × List ((Int × Int)) × Unit × List ((Int × Int)) × Int × Int) × (Int × Int)) → T (((Int × List ((Int × Int)) × List ((Int × Int)) × Unit × List ((Int × Int)) × Int × Int) × (Int × Int)) ⊕ (((Unit × Bool) × (Int × Int)) ⊕ (Unit × (Int × Int)))) := fun ((n, a, b, (), t16, t17, t18), (t6_0, t6_1)) =>
 (.test (decide (t18 < t17))
 (.test (decide ((0 ≤ t18) ∧ (t18 < ((List.length t16) : Int))))
 (.sub (t16[(Int.toNat t18)]?) fun z0 =>
 (.sub (F70 (n, (a, z0))) fun z1 =>
 (.test (decide ((0 + (List.length z1.2)) ≤ (List.length z1.2)))
 (.sub (F16 ((win z1.2 0 (List.length z1.2)), b)) fun z2 =>
 (.test z2
 (.ret (Sum.inr (Sum.inl (((), true), z0))))
 (.ret (Sum.inl ((n, (a, (b, ((), (t16, (t17, (w64 (t18 + 1)))))))), (t6_0, t6_1))))))
 .fail)))
 .fail)
 (.ret (Sum.inr (Sum.inr ((), (t6_0, t6_1))))))
noncomputable def F43_L4 (v : ((Int × List ((Int × Int)) × List ((Int × Int)) × Unit × List ((Int × Int)) × Int × Int) × (Int × Int))) : Option (((Unit × Bool) × (Int × Int)) ⊕ (Unit × (Int × Int))) := loopO (fun v => (F43_L4_step v).run) v

def F43_fo : List FO := [⟨[(.ag [(.si .i64), (.si .i64)]), (.one .sb)], []⟩]
noncomputable def F43_t : (Int × List ((Int × Int)) × List ((Int × Int))) → T ((Int × Int) × Bool) := fun (n, a, b) =>
 (.sub (F72 (n, (a, b))) fun z0 =>
 (.test (! z0)
 (.ret (((0 : Int), (0 : Int)), false))
 (.sub (F43_L4 ((n, (a, (b, ((), (a, (((List.length a) : Int), (0 : Int))))))), ((0 : Int), (0 : Int)))) fun z1 =>
 (.test (Sum.isLeft z1)
 (.sub (Sum.getLeft? z1) fun z2 =>
 (.ret (z2.2, z2.1.2)))
 (.sub (Sum.getRight? z1) fun z3 =>
 (.ret (((0 : Int), (0 : Int)), false)))))))
noncomputable def F43 (v : (Int × List ((Int × Int)) × List ((Int × Int)))) : Option ((Int × Int) × Bool) := (F43_t v).run
noncomputable def F43_E : TEnv := (((E0.add1 n_F72 F72_sh F72_fo F72).add1 n_F70 F70_sh F70_fo F70).add1 n_F16 F16_sh F16_fo F16)
theorem F43_Eok : (F43_E).OK := (((E0ok.add1 F72_ok).add1 F70_ok).add1 F16_ok)
noncomputable def F43_told : Nat → Option SealT := fun id => if id = 4 then some (LSh.told F43_L4_sh 0 (F43_L4_step)) else none
theorem F43_L4_ok : ToldOK Tryz.prog 0 (loopAt (bodyOf fn_F43) [0]) (LSh.told F43_L4_sh 0 (F43_L4_step)) :=
  loop_ok (E := F43_E) (F43_Eok) (told := F43_told) (l := F43_L4_sh) (step := F43_L4_step) (loopsOK_of (ls := []) (by kernel_rfl) trivial) (by kernel_rfl) (fun v => by kernel_rfl)
theorem F43_ok : FOK Tryz.prog n_F43 F43_sh F43_fo F43 :=
  fn_ok (E := F43_E) (F43_Eok) (told := F43_told) (fl := []) (c := bodyOf fn_F43) (s := F43_sh) (l := F43_fo) (tree := F43_t) fnat_F43 (by kernel_rfl) (by kernel_rfl) (by kernel_rfl) (loopsOK_of (ls := [loopAt (bodyOf fn_F43) [0]]) (by kernel_rfl) ⟨.inr ⟨_, by kernel_rfl, F43_L4_ok⟩, trivial⟩) (fun v => by kernel_rfl)

def apR (n : Int) (a b : List Dg) : Dg × Bool := if isTri n a = true ∧ isTri n b = true then (match a.findIdx? (fun d => decide (flipD n.toNat a d = b)) with | some k => (gD a k, true) | none => ((0, 0), false)) else ((0, 0), false)
theorem flip_len {n : Nat} {ds : List Dg} (h : isTri n ds = true) {d : Dg} (hd : d ∈ ds) : (flipD n ds d).length ≤ 12 := by
  have := tri_rng (flip_tri h hd)
  omega
theorem F43_eq (n : Int) (a b : List Dg) (ha : a.length ≤ 1000) (hb : b.length ≤ 1000) : F43 (n, (a, b)) = some (apR n a b) := by
  unfold apR
  rw [F43, F43_t, T.run_sub, F72_eq n a b (by omega) (by omega), Option.bind_some, T.run_test]
  by_cases c : isTri n a = true ∧ isTri n b = true
  · have hn := (isTri_iff _ _).1 c.1
    obtain ⟨N, rfl⟩ := Int.eq_ofNat_of_zero_le (show 0 ≤ n by omega)
    have h := loop_find (step := fun v => (F43_L4_step v).run) (xs := a) (fun d => decide (flipD N a d = b)) (fun k => (((N : Int), (a, (b, ((), (a, ((a.length : Int), (k : Int))))))), ((0 : Int), (0 : Int)))) (fun k => .inl (((), true), gD a k)) (.inr ((), ((0 : Int), (0 : Int))))
      (fun k x hx => by
        have hk := getElem?_lt hx
        have hg : gD a k = x := by have := gD_some hk; rw [hx] at this; exact (Option.some.inj this).symm
        have hm := List.mem_of_getElem? hx
        have hfl := flip_len c.1 hm
        rw [F43_L4_step, T.run_test, if_pos (decide_eq_true (by omega)), T.run_test, if_pos (decide_eq_true (by omega)), T.run_sub, Int.toNat_natCast, hx, Option.bind_some, T.run_sub, F70_eq c.1 hm, Option.bind_some, T.run_test, if_pos (by simp), win_all, T.run_sub, F16_val _ b (by dsimp only; omega), Option.bind_some, T.run_test, T.run_ret, T.run_ret, w64_id (by omega) (by omega), hg]
        by_cases e : flipD N a x = b
        · rw [if_pos (decide_eq_true e), if_pos (decide_eq_true e)]
        · rw [if_neg (by simpa using e), if_neg (by simpa using e)]; rfl)
      (by rw [F43_L4_step, T.run_test, if_neg (by simp), T.run_ret])
    have h' : F43_L4 (((N : Int), (a, (b, ((), (a, ((a.length : Int), (0 : Int))))))), ((0 : Int), (0 : Int))) = _ := h
    rw [if_neg (by simp [c.1, c.2]), T.run_sub, h', Option.bind_some, if_pos c, Int.toNat_natCast]
    cases a.findIdx? (fun d => decide (flipD N a d = b)) <;> rfl
  · rw [if_pos (by rw [Bool.not_eq_true', ← Bool.not_eq_true, Bool.and_eq_true]; exact c), T.run_ret, if_neg c]


def F55_sh : FSh := ⟨[(.one (.si .i64)), (.ag [(.si .i64), (.si .i64)])], []⟩

def F55_fo : List FO := [⟨[(.one .sb)], []⟩]
noncomputable def F55_t : (Int × (Int × Int)) → T Bool := fun (n, (d_0, d_1)) =>
 (.sub (F58 n) fun z0 =>
 (.test z0
 (.sub (F52 (n, (d_0, d_1))) fun z1 =>
 (.ret z1))
 (.ret false)))
noncomputable def F55 (v : (Int × (Int × Int))) : Option Bool := (F55_t v).run
noncomputable def F55_E : TEnv := ((E0.add1 n_F58 F58_sh F58_fo F58).add1 n_F52 F52_sh F52_fo F52)
theorem F55_Eok : (F55_E).OK := ((E0ok.add1 F58_ok).add1 F52_ok)
noncomputable def F55_told : Nat → Option SealT := fun id => none
theorem F55_ok : FOK Tryz.prog n_F55 F55_sh F55_fo F55 :=
  fn_ok (E := F55_E) (F55_Eok) (told := F55_told) (fl := []) (c := bodyOf fn_F55) (s := F55_sh) (l := F55_fo) (tree := F55_t) fnat_F55 (by kernel_rfl) (by kernel_rfl) (by kernel_rfl) (loopsOK_of (ls := []) (by kernel_rfl) trivial) (fun v => by kernel_rfl)

theorem F55_eq (n : Int) (d : Dg) : F55 (n, d) = some (inB 3 12 n && inDg n d) := by
  obtain ⟨x, y⟩ := d
  rw [F55, F55_t, T.run_sub, F58, F58_t, T.run_sub, F76_eq, Option.bind_some, T.run_ret, Option.bind_some, T.run_test]
  cases h : inB 3 12 n with
  | false => rfl
  | true =>
    have := inB_iff.1 h
    rw [if_pos rfl, T.run_sub, F52_eq n _ (by omega) (by omega), Option.bind_some, T.run_ret, Bool.true_and]


def F73_sh : FSh := ⟨[(.one (.si .i64)), (.ag [(.si .i64), (.si .i64)]), (.ag [(.si .i64), (.si .i64)])], []⟩

def F73_fo : List FO := [⟨[(.one .sb), (.one .sb)], []⟩]
noncomputable def F73_t : (Int × (Int × Int) × (Int × Int)) → T (Bool × Bool) := fun (n, (d_0, d_1), (e_0, e_1)) =>
 (.sub (F55 (n, (d_0, d_1))) fun z0 =>
 (.test (! z0)
 (.ret (false, false))
 (.sub (F55 (n, (e_0, e_1))) fun z1 =>
 (.test (! z1)
 (.ret (false, false))
 (.sub (F68 ((d_0, d_1), (e_0, e_1))) fun z2 =>
 (.ret (z2, true)))))))
noncomputable def F73 (v : (Int × (Int × Int) × (Int × Int))) : Option (Bool × Bool) := (F73_t v).run
noncomputable def F73_E : TEnv := ((E0.add1 n_F55 F55_sh F55_fo F55).add1 n_F68 F68_sh F68_fo F68)
theorem F73_Eok : (F73_E).OK := ((E0ok.add1 F55_ok).add1 F68_ok)
noncomputable def F73_told : Nat → Option SealT := fun id => none
theorem F73_ok : FOK Tryz.prog n_F73 F73_sh F73_fo F73 :=
  fn_ok (E := F73_E) (F73_Eok) (told := F73_told) (fl := []) (c := bodyOf fn_F73) (s := F73_sh) (l := F73_fo) (tree := F73_t) fnat_F73 (by kernel_rfl) (by kernel_rfl) (by kernel_rfl) (loopsOK_of (ls := []) (by kernel_rfl) trivial) (fun v => by kernel_rfl)

theorem F73_eq {n : Int} {d e : Dg} (hn : inB 3 12 n = true) (hd : inDg n d = true) (he : inDg n e = true) : F73 (n, (d, e)) = some (crossD d e, true) := by
  have h1 := F55_eq n d
  have h2 := F55_eq n e
  have h3 := F68_eq d e
  rw [hn, hd] at h1
  rw [hn, he] at h2
  obtain ⟨x, y⟩ := d
  obtain ⟨u, v⟩ := e
  rw [F73, F73_t, T.run_sub, h1, Option.bind_some, T.run_test, if_neg (by decide), T.run_sub, h2, Option.bind_some, T.run_test, if_neg (by decide), T.run_sub, h3, Option.bind_some, T.run_ret]


def F49_sh : FSh := ⟨[.one (.si .u64), .one (.si .u64)], []⟩
def F49_fo : List FO := [⟨[.one (.si .u64), .one (.si .u64)], []⟩]
def F49 (v : Int × Int) : Option (Int × Int) := if 0 ≤ v.1 ∧ v.1 < 18446744073709551616 ∧ 0 ≤ v.2 ∧ v.2 < 18446744073709551616 then some (((v.1.toNat * v.2.toNat / 18446744073709551616 : Nat) : Int), ((v.1.toNat * v.2.toNat % 18446744073709551616 : Nat) : Int)) else none
def F49_ren : Shelf.Ren := ⟨fun k => if k = 212 then n_F49 else if k = 263 then 242 else 243, fun t => if t = 46 then 151 else if t = 51 then 166 else if t = 146 then 168 else if t = 148 then 170 else 104, fun x => x⟩
theorem F49_lay : Lays.n212 Tryz.prog F49_ren :=
  { mixed := by kernel_rfl, f212 := by kernel_rfl, f263 := by kernel_rfl, f264 := by kernel_rfl, t46 := by kernel_rfl, a46 := fun w => by kernel_rfl, z46 := fun w => by kernel_rfl, v46 := fun w => by kernel_rfl, t51 := by kernel_rfl, a51 := fun w => by kernel_rfl, z51 := fun w => by kernel_rfl, v51 := fun w => by kernel_rfl, t53 := by kernel_rfl, a53 := fun w => by kernel_rfl, z53 := fun w => by kernel_rfl, v53 := fun w => by kernel_rfl, t146 := by kernel_rfl, a146 := fun w => by kernel_rfl, z146 := fun w => by kernel_rfl, v146 := fun w => by kernel_rfl, t148 := by kernel_rfl, a148 := fun w => by kernel_rfl, z148 := fun w => by kernel_rfl, v148 := fun w => by kernel_rfl }
theorem F49_ok : FOK Tryz.prog n_F49 F49_sh F49_fo F49 :=
  bitsMul_ok ⟨_, fnat_F49, by kernel_rfl, by kernel_rfl⟩ (ρr := F49_ren) rfl F49_lay

def F29_sh : FSh := ⟨[(.one (.sl (.int .i64) false false)), (.one (.si .i64))], []⟩

def F29_L8_sh : LSh := ⟨(fun ex => match ex with | .norm => [(7, none), (8, none)] | .exit i => if i = 0 then [(7, none)] else [] | .ret => [(4, none)]), [(7, (.one (.rw 0 0))), (8, (.one (.si .i64)))], [(.row 0 (.int .i64))], [⟨(.exit 0), [(7, (.one (.rw 0 0)))], [(.row 0 (.int .i64))]⟩], [], []⟩
noncomputable def F29_L8_step : ((Unit × Int) × List (Int)) → T (((Unit × Int) × List (Int)) ⊕ (Unit × List (Int))) := fun (((), n), newslice) =>
 (.test (decide (n < ((List.length newslice) : Int)))
 (.test (decide (0 ≤ n))
 (.test (decide (((Int.toNat n) ≤ (List.length newslice)) ∧ ((List.length newslice) ≤ (List.length newslice))))
 (.test (decide (0 ≤ n))
 (.test (decide ((0 ≤ (Int.toNat n)) ∧ ((Int.toNat n) ≤ (List.length newslice))))
 (.test (decide ((0 + ((Int.toNat n) - 0)) ≤ (List.length newslice)))
 (.test (decide ((0 < (min (List.length (win newslice 0 ((Int.toNat n) - 0))) ((List.length newslice) - (Int.toNat n)))) ∧ (((0 + (Int.toNat n)) + ((List.length newslice) - (Int.toNat n))) ≤ (List.length newslice))))
 (.test (decide ((0 = 0) ∧ ((List.length newslice) = (List.length (spliceT newslice (0 + (Int.toNat n)) (List.take (min (List.length (win newslice 0 ((Int.toNat n) - 0))) ((List.length newslice) - (Int.toNat n))) (win newslice 0 ((Int.toNat n) - 0))))))))
 (.ret (Sum.inl (((), (w64 (n + (((min (List.length (win newslice 0 ((Int.toNat n) - 0))) ((List.length newslice) - (Int.toNat n))) : Nat) : Int)))), (spliceT newslice (0 + (Int.toNat n)) (List.take (min (List.length (win newslice 0 ((Int.toNat n) - 0))) ((List.length newslice) - (Int.toNat n))) (win newslice 0 ((Int.toNat n) - 0)))))))
 .fail)
 .fail)
 .fail)
 .fail)
 .fail)
 .fail)
 .fail)
 (.test (decide ((0 = 0) ∧ ((List.length newslice) = (List.length newslice))))
 (.ret (Sum.inr ((), newslice)))
 .fail))
noncomputable def F29_L8 (v : ((Unit × Int) × List (Int))) : Option (Unit × List (Int)) := loopO (fun v => (F29_L8_step v).run) v

def F29_fo : List FO := [⟨[(.one (.rw 0 0))], [(.row 0 (.int .i64))]⟩]
noncomputable def F29_t : (List (Int) × Int) → T (Unit × List (Int)) := fun (x, count) =>
 (.test (decide (count < 0))
 .fail
 (.sub (F49 ((wu64 ((List.length x) : Int)), (wu64 count))) fun z0 =>
 (.test (decide (z0.1 > 0))
 .fail
 (.test (decide (z0.2 > 9223372036854775807))
 .fail
 (.test (decide ((0 ≤ (w64 z0.2)) ∧ (((w64 z0.2) ≤ (w64 z0.2)) ∧ (((Int.toNat (w64 z0.2)) * 9) ≤ 140737488355328))))
 (.test (decide ((0 < (min (List.length x) (Int.toNat (w64 z0.2)))) ∧ ((0 + (Int.toNat (w64 z0.2))) ≤ (List.length (List.replicate (Int.toNat (w64 z0.2)) (0 : Int))))))
 (.test (decide ((0 = 0) ∧ ((Int.toNat (w64 z0.2)) = (List.length (spliceT (List.replicate (Int.toNat (w64 z0.2)) (0 : Int)) 0 (List.take (min (List.length x) (Int.toNat (w64 z0.2))) x))))))
 (.sub (F29_L8 (((), (((min (List.length x) (Int.toNat (w64 z0.2))) : Nat) : Int)), (spliceT (List.replicate (Int.toNat (w64 z0.2)) (0 : Int)) 0 (List.take (min (List.length x) (Int.toNat (w64 z0.2))) x)))) fun z1 =>
 (.test (decide ((0 = 0) ∧ ((List.length z1.2) = (List.length z1.2))))
 (.ret ((), z1.2))
 .fail))
 .fail)
 .fail)
 .fail)))))
noncomputable def F29 (v : (List (Int) × Int)) : Option (Unit × List (Int)) := (F29_t v).run
noncomputable def F29_E : TEnv := (E0.add1 n_F49 F49_sh F49_fo F49)
theorem F29_Eok : (F29_E).OK := (E0ok.add1 F49_ok)
noncomputable def F29_told : Nat → Option SealT := fun id => if id = 8 then some (LSh.told F29_L8_sh 0 (F29_L8_step)) else none
theorem F29_L8_ok : ToldOK Tryz.prog 0 (loopAt (bodyOf fn_F29) [0]) (LSh.told F29_L8_sh 0 (F29_L8_step)) :=
  loop_ok (E := F29_E) (F29_Eok) (told := F29_told) (l := F29_L8_sh) (step := F29_L8_step) (loopsOK_of (ls := []) (by kernel_rfl) trivial) (by kernel_rfl) (fun v => by kernel_rfl)
theorem F29_ok : FOK Tryz.prog n_F29 F29_sh F29_fo F29 :=
  fn_ok (E := F29_E) (F29_Eok) (told := F29_told) (fl := []) (c := bodyOf fn_F29) (s := F29_sh) (l := F29_fo) (tree := F29_t) fnat_F29 (by kernel_rfl) (by kernel_rfl) (by kernel_rfl) (loopsOK_of (ls := [loopAt (bodyOf fn_F29) [0]]) (by kernel_rfl) ⟨.inr ⟨_, by kernel_rfl, F29_L8_ok⟩, trivial⟩) (fun v => by kernel_rfl)

theorem F29_one (n : Nat) (h1 : 1 ≤ n) (h2 : n ≤ 1000000) : F29 ([1], (n : Int)) = some ((), List.replicate n 1) := by
  have hm : F49 (wu64 (([1] : List Int).length : Int), wu64 (n : Int)) = some (0, (n : Int)) := by
    have e1 : wu64 (([1] : List Int).length : Int) = 1 := IntWalk.u64_in _ ⟨by simp, by simp⟩
    have e2 : wu64 (n : Int) = (n : Int) := IntWalk.u64_in _ ⟨by omega, by omega⟩
    rw [e1, e2]
    unfold F49
    simp only []
    rw [if_pos ⟨by omega, by omega, by omega, by omega⟩]
    have t1 : (1 : Int).toNat = 1 := rfl
    rw [t1, Int.toNat_natCast, Nat.one_mul, Nat.div_eq_of_lt (by omega), Nat.mod_eq_of_lt (by omega)]
    rfl
  have hl : ∀ m k, k + m = n → 1 ≤ k → F29_L8 (((), (k : Int)), List.replicate k 1 ++ List.replicate (n - k) 0) = some ((), List.replicate n 1) := by
    intro m
    induction m using Nat.strongRecOn with
    | ind m ih =>
      intro k hk hk1
      have hlen : (List.replicate k (1 : Int) ++ List.replicate (n - k) 0).length = n := by simp; omega
      by_cases hm : m = 0
      · have : k = n := by omega
        subst this
        rw [Nat.sub_self, List.replicate_zero, List.append_nil]
        simp only [F29_L8]
        exact loopO_done (by simp [F29_L8_step, T.run])
      · have ih := ih (m - min k (n - k)) (by omega) (k + min k (n - k)) (by omega) (by omega)
        simp only [F29_L8] at ih ⊢
        rw [← ih]
        refine loopO_next ?_
        have c0 : (k : Int) < (n : Int) := by omega
        have c1 : (0 : Int) ≤ (k : Int) := by omega
        have c2 : k ≤ n ∧ n ≤ n := by omega
        have c3 : 0 ≤ k ∧ k ≤ n := by omega
        have tw : win (List.replicate k (1 : Int) ++ List.replicate (n - k) 0) 0 (k - 0) = List.replicate k 1 := by
          rw [win_take, Nat.sub_zero, List.take_left' (by simp)]
        have c4 : 0 + (k - 0) ≤ n := by omega
        have c5 : 0 < min k (n - k) ∧ 0 + k + (n - k) ≤ n := by omega
        have w1 : w64 ((k : Int) + ((min k (n - k) : Nat) : Int)) = ((k + min k (n - k) : Nat) : Int) := by rw [w64_id (by omega) (by omega)]; omega
        have sp : spliceT (List.replicate k (1 : Int) ++ List.replicate (n - k) 0) (0 + k) (List.take (min k (n - k)) (List.replicate k 1)) = List.replicate (k + min k (n - k)) 1 ++ List.replicate (n - (k + min k (n - k))) 0 := by
          unfold spliceT
          rw [Nat.zero_add, List.take_left' (by simp), List.take_replicate, List.length_replicate, List.drop_append, List.drop_replicate, List.drop_replicate, List.length_replicate]
          rw [show k - (k + min (min k (n - k)) k) = 0 by omega, show min (min k (n - k)) k = min k (n - k) by omega, show n - k - (k + min k (n - k) - k) = n - (k + min k (n - k)) by omega, List.replicate_zero, List.nil_append, ← List.append_assoc, List.replicate_append_replicate]
        have lsp : n = (List.replicate (k + min k (n - k)) (1 : Int) ++ List.replicate (n - (k + min k (n - k))) 0).length := by simp; omega
        simp only [F29_L8_step, T.run, hlen, c0, c1, c2, c3, c4, c5, decide_true, if_true, and_self, Int.toNat_natCast, tw, List.length_replicate, sp, w1]
        rw [← lsp]
        simp
  simp only [F29, F29_t, T.run, hm, Option.bind_some]
  have w1 : w64 (n : Int) = (n : Int) := w64_id (by omega) (by omega)
  have c0 : ¬ ((n : Int) < 0) := by omega
  have c1 : ¬ ((n : Int) > 9223372036854775807) := by omega
  have c2 : 0 ≤ (n : Int) ∧ (n : Int) ≤ (n : Int) ∧ n * 9 ≤ 140737488355328 := by omega
  have m1 : min ([1] : List Int).length n = 1 := by simp; omega
  have sp : spliceT (List.replicate n (0 : Int)) 0 (List.take 1 [1]) = List.replicate 1 1 ++ List.replicate (n - 1) 0 := by
    unfold spliceT
    simp
  have lsp : n = (List.replicate 1 (1 : Int) ++ List.replicate (n - 1) 0).length := by simp; omega
  simp only [c0, c1, w1, decide_false, Bool.false_eq_true, if_false, Int.toNat_natCast, c2, and_self, decide_true, if_true, m1, sp, hl (n - 1) 1 (by omega) (Nat.le_refl 1), Option.bind_some]
  simp only [List.length_replicate, Nat.zero_add]
  rw [← lsp]
  simp


def F63_sh : FSh := ⟨[(.one (.si .i64)), (.one (.sl (.pair (.int .i64) (.int .i64)) false false))], []⟩

def F63_L3_sh : LSh := ⟨(fun ex => match ex with | .norm => [(5, none), (11, none), (12, none), (13, none)] | .exit i => if i = 0 then [(5, none)] else [] | .ret => [(4, none)]), [(5, (.one (.rw 0 0))), (11, (.one (.sl (.pair (.int .i64) (.int .i64)) false false))), (12, (.one (.si .i64))), (13, (.one (.si .i64)))], [(.row 0 (.int .i64))], [⟨(.exit 0), [(5, (.one (.rw 0 0)))], [(.row 0 (.int .i64))]⟩], [], []⟩
noncomputable def F63_L3_step : ((Unit × List ((Int × Int)) × Int × Int) × List (Int)) → T (((Unit × List ((Int × Int)) × Int × Int) × List (Int)) ⊕ (Unit × List (Int))) := fun (((), t11, t12, t13), out) =>
 (.test (decide (t13 < t12))
 (.test (decide ((0 ≤ t13) ∧ (t13 < ((List.length t11) : Int))))
 (.sub (t11[(Int.toNat t13)]?) fun z0 =>
 (.test (decide ((0 ≤ z0.1) ∧ (z0.1 < ((List.length out) : Int))))
 (.sub (out[(0 + (Int.toNat z0.1))]?) fun z1 =>
 (.test (decide ((0 ≤ z0.1) ∧ (z0.1 < ((List.length out) : Int))))
 (.sub (out[(0 + (Int.toNat z0.1))]?) fun z2 =>
 (.test (decide ((0 ≤ z0.2) ∧ (z0.2 < ((List.length out) : Int))))
 (.sub ((List.set out (0 + (Int.toNat z0.1)) (w64 (z1 + 1)))[(0 + (Int.toNat z0.2))]?) fun z3 =>
 (.test (decide ((0 ≤ z0.2) ∧ (z0.2 < ((List.length out) : Int))))
 (.sub ((List.set out (0 + (Int.toNat z0.1)) (w64 (z1 + 1)))[(0 + (Int.toNat z0.2))]?) fun z4 =>
 (.test (decide ((0 = 0) ∧ ((List.length out) = (List.length (List.set (List.set out (0 + (Int.toNat z0.1)) (w64 (z1 + 1))) (0 + (Int.toNat z0.2)) (w64 (z3 + 1)))))))
 (.ret (Sum.inl (((), (t11, (t12, (w64 (t13 + 1))))), (List.set (List.set out (0 + (Int.toNat z0.1)) (w64 (z1 + 1))) (0 + (Int.toNat z0.2)) (w64 (z3 + 1))))))
 .fail))
 .fail))
 .fail))
 .fail))
 .fail))
 .fail)
 (.test (decide ((0 = 0) ∧ ((List.length out) = (List.length out))))
 (.ret (Sum.inr ((), out)))
 .fail))
noncomputable def F63_L3 (v : ((Unit × List ((Int × Int)) × Int × Int) × List (Int))) : Option (Unit × List (Int)) := loopO (fun v => (F63_L3_step v).run) v

def F63_fo : List FO := [⟨[(.one (.rw 0 0))], [(.row 0 (.int .i64))]⟩]
noncomputable def F63_t : (Int × List ((Int × Int))) → T (Unit × List (Int)) := fun (n, ds) =>
 (.test true
 (.sub (F29 ((win (List.set (List.replicate 1 (0 : Int)) 0 (1 : Int)) 0 1), n)) fun z0 =>
 (.test (decide ((0 = 0) ∧ ((List.length z0.2) = (List.length z0.2))))
 (.sub (F63_L3 (((), (ds, (((List.length ds) : Int), (0 : Int)))), z0.2)) fun z1 =>
 (.test (decide ((0 = 0) ∧ ((List.length z1.2) = (List.length z1.2))))
 (.ret ((), z1.2))
 .fail))
 .fail))
 .fail)
noncomputable def F63 (v : (Int × List ((Int × Int)))) : Option (Unit × List (Int)) := (F63_t v).run
noncomputable def F63_E : TEnv := (E0.add1 n_F29 F29_sh F29_fo F29)
theorem F63_Eok : (F63_E).OK := (E0ok.add1 F29_ok)
noncomputable def F63_told : Nat → Option SealT := fun id => if id = 3 then some (LSh.told F63_L3_sh 0 (F63_L3_step)) else none
theorem F63_L3_ok : ToldOK Tryz.prog 0 (loopAt (bodyOf fn_F63) [0]) (LSh.told F63_L3_sh 0 (F63_L3_step)) :=
  loop_ok (E := F63_E) (F63_Eok) (told := F63_told) (l := F63_L3_sh) (step := F63_L3_step) (loopsOK_of (ls := []) (by kernel_rfl) trivial) (by kernel_rfl) (fun v => by kernel_rfl)
theorem F63_ok : FOK Tryz.prog n_F63 F63_sh F63_fo F63 :=
  fn_ok (E := F63_E) (F63_Eok) (told := F63_told) (fl := []) (c := bodyOf fn_F63) (s := F63_sh) (l := F63_fo) (tree := F63_t) fnat_F63 (by kernel_rfl) (by kernel_rfl) (by kernel_rfl) (loopsOK_of (ls := [loopAt (bodyOf fn_F63) [0]]) (by kernel_rfl) ⟨.inr ⟨_, by kernel_rfl, F63_L3_ok⟩, trivial⟩) (fun v => by kernel_rfl)

theorem F63_eq (n : Nat) (ds : List Dg) (hn : 1 ≤ n ∧ n ≤ 1000000) (hl : ds.length < 1000000) (h : ∀ d ∈ ds, 0 ≤ d.1 ∧ d.1 < d.2 ∧ d.2 < (n : Int)) : F63 ((n : Int), ds) = some ((), quid n ds) := by
  have hl' := loop_fold (step := fun v => (F63_L3_step v).run) (xs := ds) (fun k (s : List Int) => s.length = n ∧ ∀ p, p < n → 0 ≤ s.getD p 0 ∧ s.getD p 0 ≤ k + 1) (fun k s => (((), (ds, ((ds.length : Int), (k : Int)))), s)) bumpD (fun s => ((), s))
    (fun k s d hP hd => by
      obtain ⟨hs, hb⟩ := hP
      have hlt := getElem?_lt hd
      obtain ⟨q1, q2, q3⟩ := h d (List.mem_of_getElem? hd)
      refine ⟨?_, by rw [bumpD_length, hs], fun p hp => ?_⟩
      · have c0 : (k : Int) < (ds.length : Int) := by omega
        have c1 : (0 : Int) ≤ (k : Int) ∧ (k : Int) < (ds.length : Int) := by omega
        have w1 : w64 ((k : Int) + 1) = ((k + 1 : Nat) : Int) := by rw [w64_id (by omega) (by omega)]; omega
        have c2 : 0 ≤ d.1 ∧ d.1 < (s.length : Int) := by omega
        have c3 : 0 ≤ d.2 ∧ d.2 < (s.length : Int) := by omega
        have b1 := hb d.1.toNat (by omega)
        have b2 := hb d.2.toNat (by omega)
        have g1 : s[d.1.toNat]? = some (s.getD d.1.toNat 0) := by rw [List.getD_eq_getElem?_getD, List.getElem?_eq_getElem (by omega)]; rfl
        have g2 : s[d.2.toNat]? = some (s.getD d.2.toNat 0) := by rw [List.getD_eq_getElem?_getD, List.getElem?_eq_getElem (by omega)]; rfl
        have w2 : w64 (s.getD d.1.toNat 0 + 1) = s.getD d.1.toNat 0 + 1 := w64_id (by omega) (by omega)
        have w3 : w64 (s.getD d.2.toNat 0 + 1) = s.getD d.2.toNat 0 + 1 := w64_id (by omega) (by omega)
        have g3 : (s.set d.1.toNat (s.getD d.1.toNat 0 + 1))[d.2.toNat]? = some (s.getD d.2.toNat 0) := by rw [List.getElem?_set_ne (by omega)]; exact g2
        simp only [F63_L3_step, T.run, c0, c1, c2, c3, decide_true, if_true, and_self, Int.toNat_natCast, hd, Option.bind_some, Nat.zero_add, g1, w2, g3, w3, w1]
        simp [bumpD]
      · rw [bumpD_get q1 q2 (by omega) (by omega)]
        have := hb p hp
        have : 0 ≤ cntD d p ∧ cntD d p ≤ 1 := by unfold cntD; split <;> split <;> omega
        omega)
    (fun s hs => by simp [F63_L3_step, T.run])
    (List.replicate n 1) ⟨by simp, fun p hp => by rw [List.getD_eq_getElem?_getD, List.getElem?_replicate, if_pos hp]; simp⟩
  have hq : ds.foldl bumpD (List.replicate n 1) = quid n ds := by
    obtain ⟨f1, f2⟩ := bump_fold n ds (List.replicate n 1) (by simp) h
    refine List.ext_getElem (by rw [f1]; simp [quid]) fun p hp _ => ?_
    have := f2 p (by omega)
    rw [List.getD_eq_getElem?_getD, List.getElem?_eq_getElem hp, List.getD_eq_getElem?_getD, List.getElem?_replicate, if_pos (by omega)] at this
    simp only [Option.getD_some] at this
    rw [this]
    simp [quid]
  simp only [Int.natCast_zero] at hl'
  have hw : win (List.set (List.replicate 1 (0 : Int)) 0 (1 : Int)) 0 1 = [1] := rfl
  simp only [F63, F63_t, T.run, hw, F29_one n hn.1 hn.2, Option.bind_some, F63_L3]
  rw [hl'.1, hq]
  simp


def F56_sh : FSh := ⟨[(.one (.si .i64)), (.one (.sl (.pair (.int .i64) (.int .i64)) false false))], []⟩

def F56_fo : List FO := [⟨[(.one (.rw 0 0)), (.one .sb)], [(.row 0 (.int .i64))]⟩]
noncomputable def F56_t : (Int × List ((Int × Int))) → T ((Unit × Bool) × List (Int)) := fun (n, ds) =>
 (.sub (F27 (n, ds)) fun z0 =>
 (.test (! z0)
 (.test true
 (.ret (((), false), ([] : List (Int))))
 .fail)
 (.sub (F63 (n, ds)) fun z1 =>
 (.test (decide ((0 = 0) ∧ ((List.length z1.2) = (List.length z1.2))))
 (.ret (((), true), z1.2))
 .fail))))
noncomputable def F56 (v : (Int × List ((Int × Int)))) : Option ((Unit × Bool) × List (Int)) := (F56_t v).run
noncomputable def F56_E : TEnv := ((E0.add1 n_F27 F27_sh F27_fo F27).add1 n_F63 F63_sh F63_fo F63)
theorem F56_Eok : (F56_E).OK := ((E0ok.add1 F27_ok).add1 F63_ok)
noncomputable def F56_told : Nat → Option SealT := fun id => none
theorem F56_ok : FOK Tryz.prog n_F56 F56_sh F56_fo F56 :=
  fn_ok (E := F56_E) (F56_Eok) (told := F56_told) (fl := []) (c := bodyOf fn_F56) (s := F56_sh) (l := F56_fo) (tree := F56_t) fnat_F56 (by kernel_rfl) (by kernel_rfl) (by kernel_rfl) (loopsOK_of (ls := []) (by kernel_rfl) trivial) (fun v => by kernel_rfl)

theorem F56_tri {n : Nat} {ds : List Dg} (h : isTri n ds = true) : F56 ((n : Int), ds) = some (((), true), quid n ds) := by
  have g := tri_rng h
  rw [F56, F56_t, T.run_sub, F27_eq _ ds (by omega), Option.bind_some, T.run_test, h, if_neg (by decide), T.run_sub, F63_eq n ds (by omega) (by omega) (fun d hd => by have := g.1 d hd; omega), Option.bind_some, T.run_test, if_pos (by simp), T.run_ret]


def F44_sh : FSh := ⟨[(.one (.sl (.int .u8) false true))], []⟩

def F44_fo : List FO := [⟨[(.one (.si .i64)), (.one (.rw 0 0))], [(.row 0 (.pair (.int .i64) (.int .i64)))]⟩]
noncomputable def F44_t : List (Int) → T ((Int × Unit) × List ((Int × Int))) := fun code =>
 (.sub (F36 (((), (10 : Int)), (code, ((0 : Int), (0 : Int))))) fun z0 =>
 (.test (decide ((0 = 0) ∧ ((List.length z0.2.2) = (List.length z0.2.2))))
 (.ret ((z0.1.1, ()), z0.2.2))
 .fail))
noncomputable def F44 (v : List (Int)) : Option ((Int × Unit) × List ((Int × Int))) := (F44_t v).run
noncomputable def F44_E : TEnv := (E0.add1 n_F36 F36_sh F36_fo F36)
theorem F44_Eok : (F44_E).OK := (E0ok.add1 F36_ok)
noncomputable def F44_told : Nat → Option SealT := fun id => none
theorem F44_ok : FOK Tryz.prog n_F44 F44_sh F44_fo F44 :=
  fn_ok (E := F44_E) (F44_Eok) (told := F44_told) (fl := []) (c := bodyOf fn_F44) (s := F44_sh) (l := F44_fo) (tree := F44_t) fnat_F44 (by kernel_rfl) (by kernel_rfl) (by kernel_rfl) (loopsOK_of (ls := []) (by kernel_rfl) trivial) (fun v => by kernel_rfl)

theorem F44_some {code : List Int} (h : bytesOK code) : ∃ n ds, F44 code = some ((n, ()), ds) ∧ ds.length ≤ 20 := by
  obtain ⟨n, ds, c', e, hl, hc⟩ := polygon_ok 10 (by omega) (cur0 h) (by omega)
  rw [F44, F44_t, T.run_sub, e, Option.bind_some, T.run_test, if_pos (by simp), T.run_ret]
  exact ⟨_, _, rfl, hl⟩


def F64_sh : FSh := ⟨[(.one (.si .i64)), (.one (.sl (.pair (.int .i64) (.int .i64)) false false))], []⟩

def F64_L5_sh : LSh := ⟨(fun ex => match ex with | .norm => [(0, none), (1, none), (6, none), (14, none), (15, none), (16, none)] | .exit i => if i = 0 then [(6, none)] else [] | .ret => [(4, none), (5, none)]), [(0, (.one (.si .i64))), (1, (.one (.sl (.pair (.int .i64) (.int .i64)) false false))), (6, (.one (.rw 0 0))), (14, (.one (.sl (.pair (.int .i64) (.int .i64)) false false))), (15, (.one (.si .i64))), (16, (.one (.si .i64)))], [(.row 0 (.list true (.pair (.int .i64) (.int .i64))))], [⟨(.exit 0), [(6, (.one (.rw 0 0)))], [(.row 0 (.list true (.pair (.int .i64) (.int .i64))))]⟩], [], []⟩
noncomputable def F64_L5_step : ((Int × List ((Int × Int)) × Unit × List ((Int × Int)) × Int × Int) × List (List ((Int × Int)))) → T (((Int × List ((Int × Int)) × Unit × List ((Int × Int)) × Int × Int) × List (List ((Int × Int)))) ⊕ (Unit × List (List ((Int × Int))))) := fun ((n, ds, (), t14, t15, t16), out) =>
 (.test (decide (t16 < t15))
 (.test (decide ((0 ≤ t16) ∧ (t16 < ((List.length t14) : Int))))
 (.sub (t14[(Int.toNat t16)]?) fun z0 =>
 (.sub (F70 (n, (ds, z0))) fun z1 =>
 (.test (decide ((0 + (List.length z1.2)) ≤ (List.length z1.2)))
 (.test (decide (1 ≤ 1))
 (.test (decide ((0 + (List.length out)) ≤ (List.length out)))
 (.test (decide ((2 * (((List.length out) + 1) * 25)) ≤ 140737488355328))
 (.test (decide ((0 = 0) ∧ (((List.length out) + 1) = (List.length ((win out 0 (List.length out)) ++ [(win z1.2 0 (List.length z1.2))])))))
 (.ret (Sum.inl ((n, (ds, ((), (t14, (t15, (w64 (t16 + 1))))))), ((win out 0 (List.length out)) ++ [(win z1.2 0 (List.length z1.2))]))))
 .fail)
 .fail)
 .fail)
 .fail)
 .fail)))
 .fail)
 (.test (decide ((0 = 0) ∧ ((List.length out) = (List.length out))))
 (.ret (Sum.inr ((), out)))
 .fail))
noncomputable def F64_L5 (v : ((Int × List ((Int × Int)) × Unit × List ((Int × Int)) × Int × Int) × List (List ((Int × Int))))) : Option (Unit × List (List ((Int × Int)))) := loopO (fun v => (F64_L5_step v).run) v

def F64_fo : List FO := [⟨[(.one (.rw 0 0)), (.one .sb)], [(.row 0 (.list true (.pair (.int .i64) (.int .i64))))]⟩]
noncomputable def F64_t : (Int × List ((Int × Int))) → T ((Unit × Bool) × List (List ((Int × Int)))) := fun (n, ds) =>
 (.sub (F27 (n, ds)) fun z0 =>
 (.test (! z0)
 (.test true
 (.ret (((), false), ([] : List (List (Int × Int)))))
 .fail)
 (.test true
 (.sub (F64_L5 ((n, (ds, ((), (ds, (((List.length ds) : Int), (0 : Int)))))), ([] : List (List (Int × Int))))) fun z1 =>
 (.test (decide ((0 = 0) ∧ ((List.length z1.2) = (List.length z1.2))))
 (.ret (((), true), z1.2))
 .fail))
 .fail)))
noncomputable def F64 (v : (Int × List ((Int × Int)))) : Option ((Unit × Bool) × List (List ((Int × Int)))) := (F64_t v).run
noncomputable def F64_E : TEnv := ((E0.add1 n_F27 F27_sh F27_fo F27).add1 n_F70 F70_sh F70_fo F70)
theorem F64_Eok : (F64_E).OK := ((E0ok.add1 F27_ok).add1 F70_ok)
noncomputable def F64_told : Nat → Option SealT := fun id => if id = 5 then some (LSh.told F64_L5_sh 0 (F64_L5_step)) else none
theorem F64_L5_ok : ToldOK Tryz.prog 0 (loopAt (bodyOf fn_F64) [0]) (LSh.told F64_L5_sh 0 (F64_L5_step)) :=
  loop_ok (E := F64_E) (F64_Eok) (told := F64_told) (l := F64_L5_sh) (step := F64_L5_step) (loopsOK_of (ls := []) (by kernel_rfl) trivial) (by kernel_rfl) (fun v => by kernel_rfl)
theorem F64_ok : FOK Tryz.prog n_F64 F64_sh F64_fo F64 :=
  fn_ok (E := F64_E) (F64_Eok) (told := F64_told) (fl := []) (c := bodyOf fn_F64) (s := F64_sh) (l := F64_fo) (tree := F64_t) fnat_F64 (by kernel_rfl) (by kernel_rfl) (by kernel_rfl) (loopsOK_of (ls := [loopAt (bodyOf fn_F64) [0]]) (by kernel_rfl) ⟨.inr ⟨_, by kernel_rfl, F64_L5_ok⟩, trivial⟩) (fun v => by kernel_rfl)

theorem map_idx {X Y : Type} (f : X → Y) (g : Nat → X) (l : List X) (hg : ∀ k, k < l.length → l[k]? = some (g k)) : (List.range' 0 l.length).flatMap (fun k => [f (g k)]) = l.map f := by
  have hl : l = (List.range' 0 l.length).map g := by
    apply List.ext_getElem?
    intro k
    by_cases h : k < l.length
    · rw [hg k h, List.getElem?_map, List.getElem?_range' h]; simp
    · rw [List.getElem?_eq_none (by omega), List.getElem?_eq_none (by simp; omega)]
  conv => rhs; rw [hl, List.map_map]
  generalize List.range' 0 l.length = R
  induction R with
  | nil => rfl
  | cons a t ih => rw [List.flatMap_cons, List.map_cons, ih]; rfl
def alR (n : Int) (ds : List Dg) : (Unit × Bool) × List (List Dg) := if isTri n ds = true then (((), true), ds.map (flipD n.toNat ds)) else (((), false), [])
theorem F64_eq (n : Int) (ds : List Dg) (hl : ds.length < 4611686018427387904) : F64 (n, ds) = some (alR n ds) := by
  unfold alR
  rw [F64, F64_t, T.run_sub, F27_eq n ds hl, Option.bind_some, T.run_test]
  by_cases c : isTri n ds = true
  · have hn := (isTri_iff _ _).1 c
    obtain ⟨N, rfl⟩ := Int.eq_ofNat_of_zero_le (show 0 ≤ n by omega)
    have hL := app_loop (step := fun v => (F64_L5_step v).run) (fun k o => (((N : Int), (ds, ((), (ds, ((ds.length : Int), (k : Int)))))), o)) (fun k => [flipD N ds (gD ds k)]) (fun o => ((), o)) ds.length 1 0 0
      (fun j => by simp)
      (fun o j hj => by rw [F64_L5_step, T.run_test, if_neg (by simp; omega), T.run_test, if_pos (by simp), T.run_ret])
      (fun k o _ hk ho => by
        have v2 : w64 ((k : Int) + 1) = ((k + 1 : Nat) : Int) := by rw [w64_id (by omega) (by omega)]; omega
        rw [F64_L5_step, T.run_test, if_pos (decide_eq_true (by omega)), T.run_test, if_pos (decide_eq_true (by omega)), T.run_sub, Int.toNat_natCast, gD_some hk, Option.bind_some, T.run_sub, F70_eq c (List.mem_of_getElem? (gD_some hk)), Option.bind_some, T.run_test, if_pos (by simp), T.run_test, if_pos (by simp), T.run_test, if_pos (by simp), T.run_test, if_pos (decide_eq_true (by omega)), T.run_test, if_pos (by simp [win_all]), T.run_ret, v2]
        simp only [win_all])
      ds.length 0 [] (Nat.le_refl 0) rfl (by simp)
    rw [List.nil_append, map_idx (flipD N ds) (gD ds) ds (fun k hk => gD_some hk)] at hL
    have hL' : F64_L5 (((N : Int), (ds, ((), (ds, ((ds.length : Int), (0 : Int)))))), ([] : List (List (Int × Int)))) = _ := hL
    rw [c, if_neg (by decide), T.run_test, if_pos rfl, T.run_sub, hL', Option.bind_some, T.run_test, if_pos (by simp), T.run_ret, if_pos rfl, Int.toNat_natCast]
  · rw [if_pos (by simp at c ⊢; exact c), T.run_test, if_pos rfl, T.run_ret, if_neg c]


def F92_sh : FSh := ⟨[(.one (.si .i64)), (.one (.sl (.pair (.int .i64) (.int .i64)) false false))], []⟩

def F92_L3_sh : LSh := ⟨(fun ex => match ex with | .norm => [(0, none), (1, none), (5, none), (8, none), (9, none), (10, none)] | .exit i => if i = 0 then [(5, none)] else [] | .ret => [(4, none)]), [(0, (.one (.si .i64))), (1, (.one (.sl (.pair (.int .i64) (.int .i64)) false false))), (5, (.one (.rw 0 0))), (8, (.one (.sl (.pair (.int .i64) (.int .i64)) false false))), (9, (.one (.si .i64))), (10, (.one (.si .i64)))], [(.row 0 (.list true (.pair (.int .i64) (.int .i64))))], [⟨(.exit 0), [(5, (.one (.rw 0 0)))], [(.row 0 (.list true (.pair (.int .i64) (.int .i64))))]⟩], [], []⟩
noncomputable def F92_L3_step : ((Int × List ((Int × Int)) × Unit × List ((Int × Int)) × Int × Int) × List (List ((Int × Int)))) → T (((Int × List ((Int × Int)) × Unit × List ((Int × Int)) × Int × Int) × List (List ((Int × Int)))) ⊕ (Unit × List (List ((Int × Int))))) := fun ((n, ds, (), t8, t9, t10), out) =>
 (.test (decide (t10 < t9))
 (.test (decide ((0 ≤ t10) ∧ (t10 < ((List.length t8) : Int))))
 (.sub (t8[(Int.toNat t10)]?) fun z0 =>
 (.sub (F80 (n, (ds, z0))) fun z1 =>
 (.test (decide ((0 + (List.length z1.2)) ≤ (List.length z1.2)))
 (.test (decide (1 ≤ 1))
 (.test (decide ((0 + (List.length out)) ≤ (List.length out)))
 (.test (decide ((2 * (((List.length out) + 1) * 25)) ≤ 140737488355328))
 (.test (decide ((0 = 0) ∧ (((List.length out) + 1) = (List.length ((win out 0 (List.length out)) ++ [(win z1.2 0 (List.length z1.2))])))))
 (.ret (Sum.inl ((n, (ds, ((), (t8, (t9, (w64 (t10 + 1))))))), ((win out 0 (List.length out)) ++ [(win z1.2 0 (List.length z1.2))]))))
 .fail)
 .fail)
 .fail)
 .fail)
 .fail)))
 .fail)
 (.test (decide ((0 = 0) ∧ ((List.length out) = (List.length out))))
 (.ret (Sum.inr ((), out)))
 .fail))
noncomputable def F92_L3 (v : ((Int × List ((Int × Int)) × Unit × List ((Int × Int)) × Int × Int) × List (List ((Int × Int))))) : Option (Unit × List (List ((Int × Int)))) := loopO (fun v => (F92_L3_step v).run) v

def F92_fo : List FO := [⟨[(.one (.rw 0 0))], [(.row 0 (.list true (.pair (.int .i64) (.int .i64))))]⟩]
noncomputable def F92_t : (Int × List ((Int × Int))) → T (Unit × List (List ((Int × Int)))) := fun (n, ds) =>
 (.test true
 (.sub (F92_L3 ((n, (ds, ((), (ds, (((List.length ds) : Int), (0 : Int)))))), ([] : List (List (Int × Int))))) fun z0 =>
 (.test (decide ((0 = 0) ∧ ((List.length z0.2) = (List.length z0.2))))
 (.ret ((), z0.2))
 .fail))
 .fail)
noncomputable def F92 (v : (Int × List ((Int × Int)))) : Option (Unit × List (List ((Int × Int)))) := (F92_t v).run
noncomputable def F92_E : TEnv := (E0.add1 n_F80 F80_sh F80_fo F80)
theorem F92_Eok : (F92_E).OK := (E0ok.add1 F80_ok)
noncomputable def F92_told : Nat → Option SealT := fun id => if id = 3 then some (LSh.told F92_L3_sh 0 (F92_L3_step)) else none
theorem F92_L3_ok : ToldOK Tryz.prog 0 (loopAt (bodyOf fn_F92) [0]) (LSh.told F92_L3_sh 0 (F92_L3_step)) :=
  loop_ok (E := F92_E) (F92_Eok) (told := F92_told) (l := F92_L3_sh) (step := F92_L3_step) (loopsOK_of (ls := []) (by kernel_rfl) trivial) (by kernel_rfl) (fun v => by kernel_rfl)
theorem F92_ok : FOK Tryz.prog n_F92 F92_sh F92_fo F92 :=
  fn_ok (E := F92_E) (F92_Eok) (told := F92_told) (fl := []) (c := bodyOf fn_F92) (s := F92_sh) (l := F92_fo) (tree := F92_t) fnat_F92 (by kernel_rfl) (by kernel_rfl) (by kernel_rfl) (loopsOK_of (ls := [loopAt (bodyOf fn_F92) [0]]) (by kernel_rfl) ⟨.inr ⟨_, by kernel_rfl, F92_L3_ok⟩, trivial⟩) (fun v => by kernel_rfl)

theorem F92_eq {N : Nat} {ds : List Dg} (c : isTri N ds = true) : F92 ((N : Int), ds) = some ((), ds.map (flipD N ds)) := by
  have hn := tri_rng c
  have hL := app_loop (step := fun v => (F92_L3_step v).run) (fun k o => (((N : Int), (ds, ((), (ds, ((ds.length : Int), (k : Int)))))), o)) (fun k => [flipD N ds (gD ds k)]) (fun o => ((), o)) ds.length 1 0 0
    (fun j => by simp)
    (fun o j hj => by rw [F92_L3_step, T.run_test, if_neg (by simp; omega), T.run_test, if_pos (by simp), T.run_ret])
    (fun k o _ hk ho => by
      have v2 : w64 ((k : Int) + 1) = ((k + 1 : Nat) : Int) := by rw [w64_id (by omega) (by omega)]; omega
      rw [F92_L3_step, T.run_test, if_pos (decide_eq_true (by omega)), T.run_test, if_pos (decide_eq_true (by omega)), T.run_sub, Int.toNat_natCast, gD_some hk, Option.bind_some, T.run_sub, F80_eq c (List.mem_of_getElem? (gD_some hk)), Option.bind_some, T.run_test, if_pos (by simp), T.run_test, if_pos (by simp), T.run_test, if_pos (by simp), T.run_test, if_pos (decide_eq_true (by omega)), T.run_test, if_pos (by simp [win_all]), T.run_ret, v2]
      simp only [win_all])
    ds.length 0 [] (Nat.le_refl 0) rfl (by simp)
  rw [List.nil_append, map_idx (flipD N ds) (gD ds) ds (fun k hk => gD_some hk)] at hL
  have hL' : F92_L3 (((N : Int), (ds, ((), (ds, ((ds.length : Int), (0 : Int)))))), ([] : List (List (Int × Int)))) = _ := hL
  rw [F92, F92_t, T.run_test, if_pos rfl, T.run_sub, hL', Option.bind_some, T.run_test, if_pos (by simp), T.run_ret]


def F65_sh : FSh := ⟨[(.one (.si .i64)), (.one (.sl (.pair (.int .i64) (.int .i64)) false false))], []⟩

def F65_fo : List FO := [⟨[(.one (.rw 0 0)), (.one .sb)], [(.row 0 (.list true (.pair (.int .i64) (.int .i64))))]⟩]
noncomputable def F65_t : (Int × List ((Int × Int))) → T ((Unit × Bool) × List (List ((Int × Int)))) := fun (n, ds) =>
 (.sub (F79 (n, ds)) fun z0 =>
 (.test (! z0)
 (.test true
 (.ret (((), false), ([] : List (List (Int × Int)))))
 .fail)
 (.sub (F92 (n, ds)) fun z1 =>
 (.test (decide ((0 = 0) ∧ ((List.length z1.2) = (List.length z1.2))))
 (.ret (((), true), z1.2))
 .fail))))
noncomputable def F65 (v : (Int × List ((Int × Int)))) : Option ((Unit × Bool) × List (List ((Int × Int)))) := (F65_t v).run
noncomputable def F65_E : TEnv := ((E0.add1 n_F79 F79_sh F79_fo F79).add1 n_F92 F92_sh F92_fo F92)
theorem F65_Eok : (F65_E).OK := ((E0ok.add1 F79_ok).add1 F92_ok)
noncomputable def F65_told : Nat → Option SealT := fun id => none
theorem F65_ok : FOK Tryz.prog n_F65 F65_sh F65_fo F65 :=
  fn_ok (E := F65_E) (F65_Eok) (told := F65_told) (fl := []) (c := bodyOf fn_F65) (s := F65_sh) (l := F65_fo) (tree := F65_t) fnat_F65 (by kernel_rfl) (by kernel_rfl) (by kernel_rfl) (loopsOK_of (ls := []) (by kernel_rfl) trivial) (fun v => by kernel_rfl)

theorem F65_eq (n : Int) (ds : List Dg) (hl : ds.length < 4611686018427387904) : F65 (n, ds) = some (alR n ds) := by
  unfold alR
  rw [F65, F65_t, T.run_sub, F79_eq n ds hl, Option.bind_some, T.run_test]
  by_cases c : isTri n ds = true
  · have hn := (isTri_iff _ _).1 c
    obtain ⟨N, rfl⟩ := Int.eq_ofNat_of_zero_le (show 0 ≤ n by omega)
    rw [if_neg (by simp [c]), T.run_sub, F92_eq c, Option.bind_some, T.run_test, if_pos (by simp), T.run_ret, if_pos c, Int.toNat_natCast]
  · rw [if_pos (by simp at c ⊢; exact c), T.run_test, if_pos rfl, T.run_ret, if_neg c]


def F21_sh : FSh := ⟨[(.one (.pf 0 0 0)), (.one (.si .i64))], [(.rcd 0 [(.sl (.int .u8) false true), (.si .i64), (.si .u64)])]⟩

def F21_fo : List FO := [⟨[(.one (.si .i64)), (.one (.rw 1 0)), (.one (.rw 2 0))], [(.rcd 0 [(.sl (.int .u8) false true), (.si .i64), (.si .u64)]), (.row 0 (.pair (.int .i64) (.int .i64))), (.row 0 (.pair (.int .i64) (.int .i64)))]⟩]
noncomputable def F21_t : ((Unit × Int) × (List (Int) × Int × Int)) → T ((Int × Unit × Unit) × ((List (Int) × Int × Int) × List ((Int × Int)) × List ((Int × Int)))) := fun (((), most), (c_0, c_1, c_2)) =>
 (.sub (F36 (((), most), (c_0, (c_1, c_2)))) fun z0 =>
 (.test (decide ((0 + (List.length z0.2.2)) ≤ (List.length z0.2.2)))
 (.sub (F79 (z0.1.1, (win z0.2.2 0 (List.length z0.2.2)))) fun z1 =>
 (.test (! z1)
 (.sub (F36 (((), most), z0.2.1)) fun z2 =>
 (.test (decide ((0 = 0) ∧ ((List.length z0.2.2) = (List.length z0.2.2))))
 (.test (decide ((0 = 0) ∧ ((List.length z2.2.2) = (List.length z2.2.2))))
 (.ret ((z0.1.1, ((), ())), (z2.2.1, (z0.2.2, z2.2.2))))
 .fail)
 .fail))
 (.sub (F57 (((), (10 : Int)), z0.2.1)) fun z3 =>
 (.test z3.1
 (.sub (F36 (((), most), z3.2)) fun z4 =>
 (.test (decide ((0 = 0) ∧ ((List.length z0.2.2) = (List.length z0.2.2))))
 (.test (decide ((0 = 0) ∧ ((List.length z4.2.2) = (List.length z4.2.2))))
 (.ret ((z0.1.1, ((), ())), (z4.2.1, (z0.2.2, z4.2.2))))
 .fail)
 .fail))
 (.sub (F57 (((), (3 : Int)), z3.2)) fun z5 =>
 (.test z5.1
 (.test (decide (((List.length z0.2.2) : Int) > 0))
 (.sub (F51 (((), ((List.length z0.2.2) : Int)), z5.2)) fun z6 =>
 (.test (decide ((0 ≤ z6.1) ∧ (z6.1 < ((List.length z0.2.2) : Int))))
 (.sub (z0.2.2[(0 + (Int.toNat z6.1))]?) fun z7 =>
 (.test (decide ((0 + (List.length z0.2.2)) ≤ (List.length z0.2.2)))
 (.sub (F80 (z0.1.1, ((win z0.2.2 0 (List.length z0.2.2)), z7))) fun z8 =>
 (.test (decide ((0 = 0) ∧ ((List.length z0.2.2) = (List.length z0.2.2))))
 (.test (decide ((0 = 0) ∧ ((List.length z8.2) = (List.length z8.2))))
 (.ret ((z0.1.1, ((), ())), (z6.2, (z0.2.2, z8.2))))
 .fail)
 .fail))
 .fail))
 .fail))
 (.sub (F17 (((), z0.1.1), z5.2)) fun z9 =>
 (.test (decide ((0 + (List.length z9.2.2)) ≤ (List.length z9.2.2)))
 (.sub (F98 (win z9.2.2 0 (List.length z9.2.2))) fun z10 =>
 (.test (decide ((0 = 0) ∧ ((List.length z0.2.2) = (List.length z0.2.2))))
 (.test (decide ((0 = 0) ∧ ((List.length z10.2) = (List.length z10.2))))
 (.ret ((z0.1.1, ((), ())), (z9.2.1, (z0.2.2, z10.2))))
 .fail)
 .fail))
 .fail)))
 (.sub (F17 (((), z0.1.1), z5.2)) fun z11 =>
 (.test (decide ((0 + (List.length z11.2.2)) ≤ (List.length z11.2.2)))
 (.sub (F98 (win z11.2.2 0 (List.length z11.2.2))) fun z12 =>
 (.test (decide ((0 = 0) ∧ ((List.length z0.2.2) = (List.length z0.2.2))))
 (.test (decide ((0 = 0) ∧ ((List.length z12.2) = (List.length z12.2))))
 (.ret ((z0.1.1, ((), ())), (z11.2.1, (z0.2.2, z12.2))))
 .fail)
 .fail))
 .fail))))))))
 .fail))
noncomputable def F21 (v : ((Unit × Int) × (List (Int) × Int × Int))) : Option ((Int × Unit × Unit) × ((List (Int) × Int × Int) × List ((Int × Int)) × List ((Int × Int)))) := (F21_t v).run
noncomputable def F21_E : TEnv := (((((((E0.add1 n_F36 F36_sh F36_fo F36).add1 n_F79 F79_sh F79_fo F79).add1 n_F57 F57_sh F57_fo F57).add1 n_F51 F51_sh F51_fo F51).add1 n_F80 F80_sh F80_fo F80).add1 n_F17 F17_sh F17_fo F17).add1 n_F98 F98_sh F98_fo F98)
theorem F21_Eok : (F21_E).OK := (((((((E0ok.add1 F36_ok).add1 F79_ok).add1 F57_ok).add1 F51_ok).add1 F80_ok).add1 F17_ok).add1 F98_ok)
noncomputable def F21_told : Nat → Option SealT := fun id => none
theorem F21_ok : FOK Tryz.prog n_F21 F21_sh F21_fo F21 :=
  fn_ok (E := F21_E) (F21_Eok) (told := F21_told) (fl := []) (c := bodyOf fn_F21) (s := F21_sh) (l := F21_fo) (tree := F21_t) fnat_F21 (by kernel_rfl) (by kernel_rfl) (by kernel_rfl) (loopsOK_of (ls := []) (by kernel_rfl) trivial) (fun v => by kernel_rfl)

theorem poOf_len {out : List Int} (h : 3 ≤ out.length ∧ out.length ≤ 20) : ∃ z : (Unit × Bool) × List Dg, F98 out = some z ∧ z.2.length ≤ 9 := by
  obtain ⟨r, hr, ep, hds⟩ := F98_eq out (by omega)
  refine ⟨_, ep, ?_⟩
  cases ht : trOf out with
  | none => exact hr
  | some ds => exact hds (by rw [ht]; rfl) ds ht
theorem twoPolygons_ok {K : Int} {c : List Int × Int × Int} (h : curOK K c) (hK : K < 1000000) : ∃ n a b c', F21 (((), (9 : Int)), c) = some ((n, ((), ())), (c', (a, b))) ∧ a.length ≤ 20 ∧ b.length ≤ 20 := by
  obtain ⟨c0, c1, c2⟩ := c
  obtain ⟨n, a, c', e, hl, hc⟩ := polygon_ok 9 (by omega) h (by omega)
  rw [F21, F21_t, T.run_sub, e, Option.bind_some, T.run_test, if_pos (by simp), win_all, T.run_sub, F79_eq n a (by omega), Option.bind_some, T.run_test]
  dsimp only
  by_cases ht : isTri n a = true
  · have hn := (isTri_iff _ _).1 ht
    obtain ⟨N, rfl⟩ := Int.eq_ofNat_of_zero_le (show 0 ≤ n by omega)
    obtain ⟨b1, d1, e1, hc1⟩ := one_ok 10 hc (by omega)
    rw [if_neg (by simp [ht]), T.run_sub, e1, Option.bind_some, T.run_test]
    dsimp only
    by_cases hb1 : b1 = true
    · obtain ⟨n2, b, c'', e2, hl2, hc2⟩ := polygon_ok 9 (by omega) hc1 (by omega)
      rw [if_pos hb1, T.run_sub, e2, Option.bind_some, T.run_test, if_pos (by simp), T.run_test, if_pos (by simp), T.run_ret]
      exact ⟨_, _, _, _, rfl, hl, hl2⟩
    obtain ⟨b2, d2, e2, hc2⟩ := one_ok 3 hc1 (by omega)
    rw [if_neg hb1, T.run_sub, e2, Option.bind_some, T.run_test]
    dsimp only
    obtain ⟨x3, out, e3, g1, g2, hc3⟩ := sureQ_ok (N : Int) (by omega) hc2 (by omega)
    obtain ⟨z, hz, hzl⟩ := poOf_len ⟨g1, g2⟩
    by_cases hb2 : b2 = true
    · rw [if_pos hb2, T.run_test]
      by_cases hd : (a.length : Int) > 0
      · obtain ⟨x, f, e4, x0, x1, _, hc4⟩ := pick_ok (a.length : Int) hc2 (by omega)
        have x1 := x1 (by omega)
        have hlt : 0 + x.toNat < a.length := by omega
        have hm : a[0 + x.toNat] ∈ a := List.getElem_mem hlt
        have hfl := flip_len ht hm
        rw [if_pos (decide_eq_true hd), T.run_sub, e4, Option.bind_some, T.run_test, if_pos (decide_eq_true ⟨x0, x1⟩), T.run_sub, List.getElem?_eq_getElem hlt, Option.bind_some, T.run_test, if_pos (by simp), T.run_sub, F80_eq ht hm, Option.bind_some, T.run_test, if_pos (by simp), T.run_test, if_pos (by simp), T.run_ret]
        exact ⟨_, _, _, _, rfl, hl, by dsimp only; omega⟩
      · rw [if_neg (by rw [decide_eq_true_eq]; exact hd), T.run_sub, e3, Option.bind_some, T.run_test, if_pos (by simp), win_all, T.run_sub, hz, Option.bind_some, T.run_test, if_pos (by simp), T.run_test, if_pos (by simp), T.run_ret]
        exact ⟨_, _, _, _, rfl, hl, by omega⟩
    · rw [if_neg hb2, T.run_sub, e3, Option.bind_some, T.run_test, if_pos (by simp), win_all, T.run_sub, hz, Option.bind_some, T.run_test, if_pos (by simp), T.run_test, if_pos (by simp), T.run_ret]
      exact ⟨_, _, _, _, rfl, hl, by omega⟩
  · obtain ⟨n2, b, c'', e2, hl2, hc2⟩ := polygon_ok 9 (by omega) hc (by omega)
    rw [if_pos (by simp at ht ⊢; exact ht), T.run_sub, e2, Option.bind_some, T.run_test, if_pos (by simp), T.run_test, if_pos (by simp), T.run_ret]
    exact ⟨_, _, _, _, rfl, hl, hl2⟩


def F24_sh : FSh := ⟨[(.one (.sl (.int .u8) false true))], []⟩

def F24_fo : List FO := [⟨[(.one (.si .i64)), (.one (.rw 0 0)), (.one (.rw 1 0))], [(.row 0 (.pair (.int .i64) (.int .i64))), (.row 0 (.pair (.int .i64) (.int .i64)))]⟩]
noncomputable def F24_t : List (Int) → T ((Int × Unit × Unit) × (List ((Int × Int)) × List ((Int × Int)))) := fun code =>
 (.sub (F21 (((), (9 : Int)), (code, ((0 : Int), (0 : Int))))) fun z0 =>
 (.test (decide ((0 = 0) ∧ ((List.length z0.2.2.1) = (List.length z0.2.2.1))))
 (.test (decide ((0 = 0) ∧ ((List.length z0.2.2.2) = (List.length z0.2.2.2))))
 (.ret ((z0.1.1, ((), ())), z0.2.2))
 .fail)
 .fail))
noncomputable def F24 (v : List (Int)) : Option ((Int × Unit × Unit) × (List ((Int × Int)) × List ((Int × Int)))) := (F24_t v).run
noncomputable def F24_E : TEnv := (E0.add1 n_F21 F21_sh F21_fo F21)
theorem F24_Eok : (F24_E).OK := (E0ok.add1 F21_ok)
noncomputable def F24_told : Nat → Option SealT := fun id => none
theorem F24_ok : FOK Tryz.prog n_F24 F24_sh F24_fo F24 :=
  fn_ok (E := F24_E) (F24_Eok) (told := F24_told) (fl := []) (c := bodyOf fn_F24) (s := F24_sh) (l := F24_fo) (tree := F24_t) fnat_F24 (by kernel_rfl) (by kernel_rfl) (by kernel_rfl) (loopsOK_of (ls := []) (by kernel_rfl) trivial) (fun v => by kernel_rfl)

theorem F24_some {code : List Int} (h : bytesOK code) : ∃ n a b, F24 code = some ((n, ((), ())), (a, b)) ∧ a.length ≤ 20 ∧ b.length ≤ 20 := by
  obtain ⟨n, a, b, c', e, hl, hl2⟩ := twoPolygons_ok (cur0 h) (by omega)
  rw [F24, F24_t, T.run_sub, e, Option.bind_some, T.run_test, if_pos (by simp), T.run_test, if_pos (by simp), T.run_ret]
  exact ⟨_, _, _, rfl, hl, hl2⟩


def F93_sh : FSh := ⟨[(.one (.si .i64)), (.one (.sl (.pair (.int .i64) (.int .i64)) false false)), (.one (.sl (.pair (.int .i64) (.int .i64)) false false))], []⟩

def F93_fo : List FO := [⟨[(.one .sb)], []⟩]
noncomputable def F93_t : (Int × List ((Int × Int)) × List ((Int × Int))) → T Bool := fun (n, a, b) =>
 (.sub (F79 (n, a)) fun z0 =>
 (.test z0
 (.sub (F79 (n, b)) fun z1 =>
 (.ret z1))
 (.ret false)))
noncomputable def F93 (v : (Int × List ((Int × Int)) × List ((Int × Int)))) : Option Bool := (F93_t v).run
noncomputable def F93_E : TEnv := (E0.add1 n_F79 F79_sh F79_fo F79)
theorem F93_Eok : (F93_E).OK := (E0ok.add1 F79_ok)
noncomputable def F93_told : Nat → Option SealT := fun id => none
theorem F93_ok : FOK Tryz.prog n_F93 F93_sh F93_fo F93 :=
  fn_ok (E := F93_E) (F93_Eok) (told := F93_told) (fl := []) (c := bodyOf fn_F93) (s := F93_sh) (l := F93_fo) (tree := F93_t) fnat_F93 (by kernel_rfl) (by kernel_rfl) (by kernel_rfl) (loopsOK_of (ls := []) (by kernel_rfl) trivial) (fun v => by kernel_rfl)

theorem F93_eq (n : Int) (a b : List Dg) (ha : a.length < 4611686018427387904) (hb : b.length < 4611686018427387904) : F93 (n, (a, b)) = some (isTri n a && isTri n b) := by
  rw [F93, F93_t, T.run_sub, F79_eq n a ha, Option.bind_some, T.run_test]
  cases isTri n a with
  | false => rfl
  | true => rw [if_pos rfl, T.run_sub, F79_eq n b hb, Option.bind_some, T.run_ret]; rfl


def F81_sh : FSh := ⟨[(.one (.sl (.pair (.int .i64) (.int .i64)) false false)), (.one (.sl (.pair (.int .i64) (.int .i64)) false false))], []⟩

def F81_L4_sh : LSh := ⟨(fun ex => match ex with | .norm => [(0, none), (1, none), (12, none), (13, none)] | .exit i => if i = 0 then [] else [] | .ret => [(4, none)]), [(0, (.one (.sl (.pair (.int .i64) (.int .i64)) false false))), (1, (.one (.sl (.pair (.int .i64) (.int .i64)) false false))), (12, (.one (.si .i64))), (13, (.one (.si .i64)))], [], [⟨.ret, [(4, (.one .sb))], []⟩, ⟨(.exit 0), [], []⟩], [], []⟩
noncomputable def F81_L4_step : (List ((Int × Int)) × List ((Int × Int)) × Int × Int) → T ((List ((Int × Int)) × List ((Int × Int)) × Int × Int) ⊕ (Bool ⊕ Unit)) := fun (a, b, t12, t13) =>
 (.test (decide (t13 < t12))
 (.test (decide ((0 ≤ t13) ∧ (t13 < ((List.length a) : Int))))
 (.sub (a[(Int.toNat t13)]?) fun z0 =>
 (.test (decide ((0 ≤ t13) ∧ (t13 < ((List.length b) : Int))))
 (.sub (b[(Int.toNat t13)]?) fun z1 =>
 (.test (! ((z0.1 == z1.1) && ((z0.2 == z1.2) && true)))
 (.ret (Sum.inr (Sum.inl false)))
 (.ret (Sum.inl (a, (b, (t12, (w64 (t13 + 1)))))))))
 .fail))
 .fail)
 (.ret (Sum.inr (Sum.inr ()))))
noncomputable def F81_L4 (v : (List ((Int × Int)) × List ((Int × Int)) × Int × Int)) : Option (Bool ⊕ Unit) := loopO (fun v => (F81_L4_step v).run) v

def F81_fo : List FO := [⟨[(.one .sb)], []⟩]
noncomputable def F81_t : (List ((Int × Int)) × List ((Int × Int))) → T Bool := fun (a, b) =>
 (.test (((List.length a) : Int) != ((List.length b) : Int))
 (.ret false)
 (.sub (F81_L4 (a, (b, (((List.length a) : Int), (0 : Int))))) fun z0 =>
 (.test (Sum.isLeft z0)
 (.sub (Sum.getLeft? z0) fun z1 =>
 (.ret z1))
 (.sub (Sum.getRight? z0) fun z2 =>
 (.ret true)))))
noncomputable def F81 (v : (List ((Int × Int)) × List ((Int × Int)))) : Option Bool := (F81_t v).run
noncomputable def F81_E : TEnv := E0
theorem F81_Eok : (F81_E).OK := E0ok
noncomputable def F81_told : Nat → Option SealT := fun id => if id = 4 then some (LSh.told F81_L4_sh 0 (F81_L4_step)) else none
theorem F81_L4_ok : ToldOK Tryz.prog 0 (loopAt (bodyOf fn_F81) [0]) (LSh.told F81_L4_sh 0 (F81_L4_step)) :=
  loop_ok (E := F81_E) (F81_Eok) (told := F81_told) (l := F81_L4_sh) (step := F81_L4_step) (loopsOK_of (ls := []) (by kernel_rfl) trivial) (by kernel_rfl) (fun v => by kernel_rfl)
theorem F81_ok : FOK Tryz.prog n_F81 F81_sh F81_fo F81 :=
  fn_ok (E := F81_E) (F81_Eok) (told := F81_told) (fl := []) (c := bodyOf fn_F81) (s := F81_sh) (l := F81_fo) (tree := F81_t) fnat_F81 (by kernel_rfl) (by kernel_rfl) (by kernel_rfl) (loopsOK_of (ls := [loopAt (bodyOf fn_F81) [0]]) (by kernel_rfl) ⟨.inr ⟨_, by kernel_rfl, F81_L4_ok⟩, trivial⟩) (fun v => by kernel_rfl)

theorem F81_eq (a b : List (Int × Int)) (hl : a.length < 4611686018427387904) : F81 (a, b) = some (decide (a = b)) := by
  rw [F81, F81_t, T.run_test]
  by_cases he : a.length = b.length
  · have h := cmp_loop (step := fun v => (F81_L4_step v).run) a b (fun k => (a, (b, ((a.length : Int), (k : Int))))) he
      (fun k x y hx hy => by
        have k1 := getElem?_lt hx
        have k2 := getElem?_lt hy
        have w1 : w64 ((k : Int) + 1) = ((k + 1 : Nat) : Int) := by rw [w64_id (by omega) (by omega)]; omega
        rw [F81_L4_step, T.run_test, if_pos (decide_eq_true (by omega)), T.run_test, if_pos (decide_eq_true (by omega)), T.run_sub, Int.toNat_natCast, hx, Option.bind_some, T.run_test, if_pos (decide_eq_true (by omega)), T.run_sub, hy, Option.bind_some, T.run_test]
        by_cases e : x = y
        · rw [if_neg (by simp [e]), if_pos e, T.run_ret, w1]
        · rw [if_pos (by
            obtain ⟨x1, x2⟩ := x
            obtain ⟨y1, y2⟩ := y
            simp only [Prod.mk.injEq] at e
            by_cases e1 : x1 = y1
            · have e2 : x2 ≠ y2 := fun h => e ⟨e1, h⟩
              simp [e2]
            · simp [e1]), if_neg e, T.run_ret])
      (by rw [F81_L4_step, T.run_test, if_neg (by simp), T.run_ret])
    have h' : F81_L4 (a, (b, ((a.length : Int), (0 : Int)))) = _ := h
    rw [if_neg (by simp [he]), T.run_sub, h', Option.bind_some]
    by_cases e : a = b
    · rw [if_pos e, decide_eq_true e]; rfl
    · rw [if_neg e, decide_eq_false e]; rfl
  · rw [if_pos (by simp; omega), T.run_ret, decide_eq_false fun e => he (by rw [e])]


def F45_sh : FSh := ⟨[(.one (.si .i64)), (.one (.sl (.pair (.int .i64) (.int .i64)) false false)), (.one (.sl (.pair (.int .i64) (.int .i64)) false false))], []⟩

def F45_L4_sh : LSh := ⟨(fun ex => match ex with | .norm => [(0, none), (1, none), (2, none), (6, none), (16, none), (17, none), (18, none)] | .exit i => if i = 0 then [(6, none)] else [] | .ret => [(6, none), (7, none)]), [(0, (.one (.si .i64))), (1, (.one (.sl (.pair (.int .i64) (.int .i64)) false false))), (2, (.one (.sl (.pair (.int .i64) (.int .i64)) false false))), (6, (.one (.pf 0 0 0))), (16, (.one (.sl (.pair (.int .i64) (.int .i64)) false false))), (17, (.one (.si .i64))), (18, (.one (.si .i64)))], [(.rcd 0 [(.si .i64), (.si .i64)])], [⟨.ret, [(6, (.one (.pf 0 0 0))), (7, (.one .sb))], [(.rcd 0 [(.si .i64), (.si .i64)])]⟩, ⟨(.exit 0), [(6, (.one (.pf 0 0 0)))], [(.rcd 0 [(.si .i64), (.si .i64)])]⟩], [], []⟩
noncomputable def F45_L4_step : ((Int × List ((Int × Int)) × List ((Int × Int)) × Unit × List ((Int × Int)) × Int × Int) × (Int × Int)) → T (((Int × List ((Int × Int)) × List ((Int × Int)) × Unit × List ((Int × Int)) × Int × Int) × (Int × Int)) ⊕ (((Unit × Bool) × (Int × Int)) ⊕ (Unit × (Int × Int)))) := fun ((n, a, b, (), t16, t17, t18), (t6_0, t6_1)) =>
 (.test (decide (t18 < t17))
 (.test (decide ((0 ≤ t18) ∧ (t18 < ((List.length t16) : Int))))
 (.sub (t16[(Int.toNat t18)]?) fun z0 =>
 (.sub (F80 (n, (a, z0))) fun z1 =>
 (.test (decide ((0 + (List.length z1.2)) ≤ (List.length z1.2)))
 (.sub (F81 ((win z1.2 0 (List.length z1.2)), b)) fun z2 =>
 (.test z2
 (.ret (Sum.inr (Sum.inl (((), true), z0))))
 (.ret (Sum.inl ((n, (a, (b, ((), (t16, (t17, (w64 (t18 + 1)))))))), (t6_0, t6_1))))))
 .fail)))
 .fail)
 (.ret (Sum.inr (Sum.inr ((), (t6_0, t6_1))))))
noncomputable def F45_L4 (v : ((Int × List ((Int × Int)) × List ((Int × Int)) × Unit × List ((Int × Int)) × Int × Int) × (Int × Int))) : Option (((Unit × Bool) × (Int × Int)) ⊕ (Unit × (Int × Int))) := loopO (fun v => (F45_L4_step v).run) v

def F45_fo : List FO := [⟨[(.ag [(.si .i64), (.si .i64)]), (.one .sb)], []⟩]
noncomputable def F45_t : (Int × List ((Int × Int)) × List ((Int × Int))) → T ((Int × Int) × Bool) := fun (n, a, b) =>
 (.sub (F93 (n, (a, b))) fun z0 =>
 (.test (! z0)
 (.ret (((0 : Int), (0 : Int)), false))
 (.sub (F45_L4 ((n, (a, (b, ((), (a, (((List.length a) : Int), (0 : Int))))))), ((0 : Int), (0 : Int)))) fun z1 =>
 (.test (Sum.isLeft z1)
 (.sub (Sum.getLeft? z1) fun z2 =>
 (.ret (z2.2, z2.1.2)))
 (.sub (Sum.getRight? z1) fun z3 =>
 (.ret (((0 : Int), (0 : Int)), false)))))))
noncomputable def F45 (v : (Int × List ((Int × Int)) × List ((Int × Int)))) : Option ((Int × Int) × Bool) := (F45_t v).run
noncomputable def F45_E : TEnv := (((E0.add1 n_F93 F93_sh F93_fo F93).add1 n_F80 F80_sh F80_fo F80).add1 n_F81 F81_sh F81_fo F81)
theorem F45_Eok : (F45_E).OK := (((E0ok.add1 F93_ok).add1 F80_ok).add1 F81_ok)
noncomputable def F45_told : Nat → Option SealT := fun id => if id = 4 then some (LSh.told F45_L4_sh 0 (F45_L4_step)) else none
theorem F45_L4_ok : ToldOK Tryz.prog 0 (loopAt (bodyOf fn_F45) [0]) (LSh.told F45_L4_sh 0 (F45_L4_step)) :=
  loop_ok (E := F45_E) (F45_Eok) (told := F45_told) (l := F45_L4_sh) (step := F45_L4_step) (loopsOK_of (ls := []) (by kernel_rfl) trivial) (by kernel_rfl) (fun v => by kernel_rfl)
theorem F45_ok : FOK Tryz.prog n_F45 F45_sh F45_fo F45 :=
  fn_ok (E := F45_E) (F45_Eok) (told := F45_told) (fl := []) (c := bodyOf fn_F45) (s := F45_sh) (l := F45_fo) (tree := F45_t) fnat_F45 (by kernel_rfl) (by kernel_rfl) (by kernel_rfl) (loopsOK_of (ls := [loopAt (bodyOf fn_F45) [0]]) (by kernel_rfl) ⟨.inr ⟨_, by kernel_rfl, F45_L4_ok⟩, trivial⟩) (fun v => by kernel_rfl)

theorem F45_eq (n : Int) (a b : List Dg) (ha : a.length ≤ 1000) (hb : b.length ≤ 1000) : F45 (n, (a, b)) = some (apR n a b) := by
  unfold apR
  rw [F45, F45_t, T.run_sub, F93_eq n a b (by omega) (by omega), Option.bind_some, T.run_test]
  by_cases c : isTri n a = true ∧ isTri n b = true
  · have hn := (isTri_iff _ _).1 c.1
    obtain ⟨N, rfl⟩ := Int.eq_ofNat_of_zero_le (show 0 ≤ n by omega)
    have h := loop_find (step := fun v => (F45_L4_step v).run) (xs := a) (fun d => decide (flipD N a d = b)) (fun k => (((N : Int), (a, (b, ((), (a, ((a.length : Int), (k : Int))))))), ((0 : Int), (0 : Int)))) (fun k => .inl (((), true), gD a k)) (.inr ((), ((0 : Int), (0 : Int))))
      (fun k x hx => by
        have hk := getElem?_lt hx
        have hg : gD a k = x := by have := gD_some hk; rw [hx] at this; exact (Option.some.inj this).symm
        have hm := List.mem_of_getElem? hx
        have hfl := flip_len c.1 hm
        rw [F45_L4_step, T.run_test, if_pos (decide_eq_true (by omega)), T.run_test, if_pos (decide_eq_true (by omega)), T.run_sub, Int.toNat_natCast, hx, Option.bind_some, T.run_sub, F80_eq c.1 hm, Option.bind_some, T.run_test, if_pos (by simp), win_all, T.run_sub, F81_eq _ b (by dsimp only; omega), Option.bind_some, T.run_test, T.run_ret, T.run_ret, w64_id (by omega) (by omega), hg]
        by_cases e : flipD N a x = b
        · rw [if_pos (decide_eq_true e), if_pos (decide_eq_true e)]
        · rw [if_neg (by simpa using e), if_neg (by simpa using e)]; rfl)
      (by rw [F45_L4_step, T.run_test, if_neg (by simp), T.run_ret])
    have h' : F45_L4 (((N : Int), (a, (b, ((), (a, ((a.length : Int), (0 : Int))))))), ((0 : Int), (0 : Int))) = _ := h
    rw [if_neg (by simp [c.1, c.2]), T.run_sub, h', Option.bind_some, if_pos c, Int.toNat_natCast]
    cases a.findIdx? (fun d => decide (flipD N a d = b)) <;> rfl
  · rw [if_pos (by rw [Bool.not_eq_true', ← Bool.not_eq_true, Bool.and_eq_true]; exact c), T.run_ret, if_neg c]


def F30_sh : FSh := ⟨[(.one (.si .i64)), (.one (.sl (.pair (.int .i64) (.int .i64)) false false)), (.one (.sl (.pair (.int .i64) (.int .i64)) false false))], []⟩

def F30_L5_sh : LSh := ⟨(fun ex => match ex with | .norm => [(2, none), (8, none), (16, none), (17, none), (18, none)] | .exit i => if i = 0 then [(8, none)] else [] | .ret => [(6, none), (7, none)]), [(2, (.one (.sl (.pair (.int .i64) (.int .i64)) false false))), (8, (.one (.rw 0 0))), (16, (.one (.sl (.pair (.int .i64) (.int .i64)) false false))), (17, (.one (.si .i64))), (18, (.one (.si .i64)))], [(.row 0 (.pair (.int .i64) (.int .i64)))], [⟨(.exit 0), [(8, (.one (.rw 0 0)))], [(.row 0 (.pair (.int .i64) (.int .i64)))]⟩], [], []⟩
noncomputable def F30_L5_step : ((List ((Int × Int)) × Unit × List ((Int × Int)) × Int × Int) × List ((Int × Int))) → T (((List ((Int × Int)) × Unit × List ((Int × Int)) × Int × Int) × List ((Int × Int))) ⊕ (Unit × List ((Int × Int)))) := fun ((b, (), t16, t17, t18), out) =>
 (.test (decide (t18 < t17))
 (.test (decide ((0 ≤ t18) ∧ (t18 < ((List.length t16) : Int))))
 (.sub (t16[(Int.toNat t18)]?) fun z0 =>
 (.sub (F106 (b, z0)) fun z1 =>
 (.test z1
 (.test (decide (1 ≤ 1))
 (.test (decide ((0 + (List.length out)) ≤ (List.length out)))
 (.test (decide ((2 * (((List.length out) + 1) * 17)) ≤ 140737488355328))
 (.test (decide ((0 = 0) ∧ (((List.length out) + 1) = (List.length ((win out 0 (List.length out)) ++ [z0])))))
 (.ret (Sum.inl ((b, ((), (t16, (t17, (w64 (t18 + 1)))))), ((win out 0 (List.length out)) ++ [z0]))))
 .fail)
 .fail)
 .fail)
 .fail)
 (.test (decide ((0 = 0) ∧ ((List.length out) = (List.length out))))
 (.ret (Sum.inl ((b, ((), (t16, (t17, (w64 (t18 + 1)))))), out)))
 .fail))))
 .fail)
 (.test (decide ((0 = 0) ∧ ((List.length out) = (List.length out))))
 (.ret (Sum.inr ((), out)))
 .fail))
noncomputable def F30_L5 (v : ((List ((Int × Int)) × Unit × List ((Int × Int)) × Int × Int) × List ((Int × Int)))) : Option (Unit × List ((Int × Int))) := loopO (fun v => (F30_L5_step v).run) v

def F30_fo : List FO := [⟨[(.one (.rw 0 0)), (.one .sb)], [(.row 0 (.pair (.int .i64) (.int .i64)))]⟩]
noncomputable def F30_t : (Int × List ((Int × Int)) × List ((Int × Int))) → T ((Unit × Bool) × List ((Int × Int))) := fun (n, a, b) =>
 (.sub (F93 (n, (a, b))) fun z0 =>
 (.test (! z0)
 (.test true
 (.ret (((), false), ([] : List (Int × Int))))
 .fail)
 (.test true
 (.sub (F30_L5 ((b, ((), (a, (((List.length a) : Int), (0 : Int))))), ([] : List (Int × Int)))) fun z1 =>
 (.test (decide ((0 = 0) ∧ ((List.length z1.2) = (List.length z1.2))))
 (.ret (((), true), z1.2))
 .fail))
 .fail)))
noncomputable def F30 (v : (Int × List ((Int × Int)) × List ((Int × Int)))) : Option ((Unit × Bool) × List ((Int × Int))) := (F30_t v).run
noncomputable def F30_E : TEnv := ((E0.add1 n_F93 F93_sh F93_fo F93).add1 n_F106 F106_sh F106_fo F106)
theorem F30_Eok : (F30_E).OK := ((E0ok.add1 F93_ok).add1 F106_ok)
noncomputable def F30_told : Nat → Option SealT := fun id => if id = 5 then some (LSh.told F30_L5_sh 0 (F30_L5_step)) else none
theorem F30_L5_ok : ToldOK Tryz.prog 0 (loopAt (bodyOf fn_F30) [0]) (LSh.told F30_L5_sh 0 (F30_L5_step)) :=
  loop_ok (E := F30_E) (F30_Eok) (told := F30_told) (l := F30_L5_sh) (step := F30_L5_step) (loopsOK_of (ls := []) (by kernel_rfl) trivial) (by kernel_rfl) (fun v => by kernel_rfl)
theorem F30_ok : FOK Tryz.prog n_F30 F30_sh F30_fo F30 :=
  fn_ok (E := F30_E) (F30_Eok) (told := F30_told) (fl := []) (c := bodyOf fn_F30) (s := F30_sh) (l := F30_fo) (tree := F30_t) fnat_F30 (by kernel_rfl) (by kernel_rfl) (by kernel_rfl) (loopsOK_of (ls := [loopAt (bodyOf fn_F30) [0]]) (by kernel_rfl) ⟨.inr ⟨_, by kernel_rfl, F30_L5_ok⟩, trivial⟩) (fun v => by kernel_rfl)

theorem F30_eq (n : Int) (a b : List Dg) (ha : a.length ≤ 1000) (hb : b.length ≤ 1000) : F30 (n, (a, b)) = some (coR n a b) := by
  unfold coR
  rw [F30, F30_t, T.run_sub, F93_eq n a b (by omega) (by omega), Option.bind_some, T.run_test]
  by_cases c : isTri n a = true ∧ isTri n b = true
  · have hL := app_loop (step := fun v => (F30_L5_step v).run) (fun k o => ((b, ((), (a, ((a.length : Int), (k : Int))))), o)) (fun k => if (fun e : Dg => decide (e ∈ b)) (gD a k) = true then [gD a k] else []) (fun o => ((), o)) a.length 1 0 0
      (fun j => by dsimp only; split <;> simp)
      (fun o j hj => by rw [F30_L5_step, T.run_test, if_neg (by simp; omega), T.run_test, if_pos (by simp), T.run_ret])
      (fun k o _ hk ho => by
        have v2 : w64 ((k : Int) + 1) = ((k + 1 : Nat) : Int) := by rw [w64_id (by omega) (by omega)]; omega
        rw [F30_L5_step, T.run_test, if_pos (decide_eq_true (by omega)), T.run_test, if_pos (decide_eq_true (by omega)), T.run_sub, Int.toNat_natCast, gD_some hk, Option.bind_some, T.run_sub, F106_eq b _ (by omega), Option.bind_some, T.run_test]
        generalize gD a k = e
        by_cases ce : e ∈ b
        · rw [if_pos (decide_eq_true ce), if_pos (decide_eq_true ce), T.run_test, if_pos (by simp), T.run_test, if_pos (by simp), T.run_test, if_pos (decide_eq_true (by omega)), win_all, T.run_test, if_pos (by simp), T.run_ret, v2]
        · rw [if_neg (by simpa using ce), if_neg (by simpa using ce), T.run_test, if_pos (by simp), T.run_ret, v2, List.append_nil])
      a.length 0 [] (Nat.le_refl 0) rfl (by simp)
    rw [List.nil_append, filt_idx (fun e : Dg => decide (e ∈ b)) (gD a) a (fun k hk => gD_some hk)] at hL
    have hL' : F30_L5 ((b, ((), (a, ((a.length : Int), (0 : Int))))), ([] : List (Int × Int))) = _ := hL
    rw [if_neg (by simp [c.1, c.2]), T.run_test, if_pos rfl, T.run_sub, hL', Option.bind_some, T.run_test, if_pos (by simp), T.run_ret, if_pos c]
  · rw [if_pos (by rw [Bool.not_eq_true', ← Bool.not_eq_true, Bool.and_eq_true]; exact c), T.run_test, if_pos rfl, T.run_ret, if_neg c]


def F25_sh : FSh := ⟨[(.one (.si .i64)), (.one (.sl (.pair (.int .i64) (.int .i64)) false false)), (.one (.sl (.pair (.int .i64) (.int .i64)) false false))], []⟩

def F25_L8_sh : LSh := ⟨(fun ex => match ex with | .norm => [(2, none), (8, none), (10, none), (18, none), (19, none), (20, none), (24, none), (25, none), (26, none)] | .exit i => if i = 2 then [(2, none), (8, none), (18, none), (19, none), (20, none)] else if i = 1 then [(2, none), (8, none), (18, none), (19, none), (20, none)] else if i = 0 then [(8, none)] else [] | .ret => [(6, none), (7, none)]), [(2, (.one (.sl (.pair (.int .i64) (.int .i64)) false false))), (8, (.one (.si .i64))), (10, (.one (.pf 0 0 0))), (18, (.one (.sl (.pair (.int .i64) (.int .i64)) false false))), (19, (.one (.si .i64))), (20, (.one (.si .i64))), (24, (.one (.sl (.pair (.int .i64) (.int .i64)) false false))), (25, (.one (.si .i64))), (26, (.one (.si .i64)))], [(.rcd 0 [(.si .i64), (.si .i64)])], [⟨(.exit 2), [(2, (.one (.sl (.pair (.int .i64) (.int .i64)) false false))), (8, (.one (.si .i64))), (18, (.one (.sl (.pair (.int .i64) (.int .i64)) false false))), (19, (.one (.si .i64))), (20, (.one (.si .i64)))], []⟩], [], []⟩
noncomputable def F25_L8_step : ((List ((Int × Int)) × Int × Unit × List ((Int × Int)) × Int × Int × List ((Int × Int)) × Int × Int) × (Int × Int)) → T (((List ((Int × Int)) × Int × Unit × List ((Int × Int)) × Int × Int × List ((Int × Int)) × Int × Int) × (Int × Int)) ⊕ (List ((Int × Int)) × Int × List ((Int × Int)) × Int × Int)) := fun ((b, count, (), t18, t19, t20, t24, t25, t26), (d_0, d_1)) =>
 (.test (decide (t26 < t25))
 (.test (decide ((0 ≤ t26) ∧ (t26 < ((List.length t24) : Int))))
 (.sub (t24[(Int.toNat t26)]?) fun z0 =>
 (.sub (F68 ((d_0, d_1), z0)) fun z1 =>
 (.test z1
 (.ret (Sum.inl ((b, ((w64 (count + 1)), ((), (t18, (t19, (t20, (t24, (t25, (w64 (t26 + 1)))))))))), (d_0, d_1))))
 (.ret (Sum.inl ((b, (count, ((), (t18, (t19, (t20, (t24, (t25, (w64 (t26 + 1)))))))))), (d_0, d_1)))))))
 .fail)
 (.ret (Sum.inr (b, (count, (t18, (t19, t20)))))))
noncomputable def F25_L8 (v : ((List ((Int × Int)) × Int × Unit × List ((Int × Int)) × Int × Int × List ((Int × Int)) × Int × Int) × (Int × Int))) : Option (List ((Int × Int)) × Int × List ((Int × Int)) × Int × Int) := loopO (fun v => (F25_L8_step v).run) v

def F25_L5_sh : LSh := ⟨(fun ex => match ex with | .norm => [(2, none), (8, none), (18, none), (19, none), (20, none)] | .exit i => if i = 0 then [(8, none)] else [] | .ret => [(6, none), (7, none)]), [(2, (.one (.sl (.pair (.int .i64) (.int .i64)) false false))), (8, (.one (.si .i64))), (18, (.one (.sl (.pair (.int .i64) (.int .i64)) false false))), (19, (.one (.si .i64))), (20, (.one (.si .i64)))], [], [⟨(.exit 0), [(8, (.one (.si .i64)))], []⟩], [], []⟩
noncomputable def F25_L5_step : (List ((Int × Int)) × Int × List ((Int × Int)) × Int × Int) → T ((List ((Int × Int)) × Int × List ((Int × Int)) × Int × Int) ⊕ Int) := fun (b, count, t18, t19, t20) =>
 (.test (decide (t20 < t19))
 (.test (decide ((0 ≤ t20) ∧ (t20 < ((List.length t18) : Int))))
 (.sub (t18[(Int.toNat t20)]?) fun z0 =>
 (.sub (F25_L8 ((b, (count, ((), (t18, (t19, (t20, (b, (((List.length b) : Int), (0 : Int))))))))), z0)) fun z1 =>
 (.ret (Sum.inl (z1.1, (z1.2.1, (z1.2.2.1, (z1.2.2.2.1, (w64 (z1.2.2.2.2 + 1))))))))))
 .fail)
 (.ret (Sum.inr count)))
noncomputable def F25_L5 (v : (List ((Int × Int)) × Int × List ((Int × Int)) × Int × Int)) : Option Int := loopO (fun v => (F25_L5_step v).run) v

def F25_fo : List FO := [⟨[(.one (.si .i64)), (.one .sb)], []⟩]
noncomputable def F25_t : (Int × List ((Int × Int)) × List ((Int × Int))) → T (Int × Bool) := fun (n, a, b) =>
 (.sub (F72 (n, (a, b))) fun z0 =>
 (.test (! z0)
 (.ret ((0 : Int), false))
 (.sub (F25_L5 (b, ((0 : Int), (a, (((List.length a) : Int), (0 : Int)))))) fun z1 =>
 (.ret (z1, true)))))
noncomputable def F25 (v : (Int × List ((Int × Int)) × List ((Int × Int)))) : Option (Int × Bool) := (F25_t v).run
noncomputable def F25_E : TEnv := ((E0.add1 n_F72 F72_sh F72_fo F72).add1 n_F68 F68_sh F68_fo F68)
theorem F25_Eok : (F25_E).OK := ((E0ok.add1 F72_ok).add1 F68_ok)
noncomputable def F25_told : Nat → Option SealT := fun id => if id = 8 then some (LSh.told F25_L8_sh 0 (F25_L8_step)) else if id = 5 then some (LSh.told F25_L5_sh 0 (F25_L5_step)) else none
theorem F25_L8_ok : ToldOK Tryz.prog 0 (loopAt (bodyOf fn_F25) [0, 0]) (LSh.told F25_L8_sh 0 (F25_L8_step)) :=
  loop_ok (E := F25_E) (F25_Eok) (told := F25_told) (l := F25_L8_sh) (step := F25_L8_step) (loopsOK_of (ls := []) (by kernel_rfl) trivial) (by kernel_rfl) (fun v => by kernel_rfl)
theorem F25_L5_ok : ToldOK Tryz.prog 0 (loopAt (bodyOf fn_F25) [0]) (LSh.told F25_L5_sh 0 (F25_L5_step)) :=
  loop_ok (E := F25_E) (F25_Eok) (told := F25_told) (l := F25_L5_sh) (step := F25_L5_step) (loopsOK_of (ls := [loopAt (bodyOf fn_F25) [0, 0]]) (by kernel_rfl) ⟨.inr ⟨_, by kernel_rfl, F25_L8_ok⟩, trivial⟩) (by kernel_rfl) (fun v => by kernel_rfl)
theorem F25_ok : FOK Tryz.prog n_F25 F25_sh F25_fo F25 :=
  fn_ok (E := F25_E) (F25_Eok) (told := F25_told) (fl := []) (c := bodyOf fn_F25) (s := F25_sh) (l := F25_fo) (tree := F25_t) fnat_F25 (by kernel_rfl) (by kernel_rfl) (by kernel_rfl) (loopsOK_of (ls := [loopAt (bodyOf fn_F25) [0]]) (by kernel_rfl) ⟨.inr ⟨_, by kernel_rfl, F25_L5_ok⟩, trivial⟩) (fun v => by kernel_rfl)

def crN (a b : List Dg) : Nat := (a.map fun d => (b.filter (crossD d)).length).sum
def crR (n : Int) (a b : List Dg) : Int × Bool := if isTri n a = true ∧ isTri n b = true then ((crN a b : Int), true) else (0, false)
theorem F25_L8_eq (b t18 : List Dg) (t19 t20 : Int) (d : Dg) (hb : b.length ≤ 1000) : ∀ (m k : Nat) (c : Nat), k + m = b.length → c ≤ 1000000 + k →
    F25_L8 ((b, ((c : Int), ((), (t18, (t19, (t20, (b, ((b.length : Int), (k : Int))))))))), d) = some (b, (((c + ((b.drop k).filter (crossD d)).length : Nat) : Int), (t18, (t19, t20)))) := by
  obtain ⟨x, y⟩ := d
  intro m
  induction m with
  | zero =>
    intro k c hk hc
    rw [List.drop_of_length_le (by omega)]
    simp only [F25_L8]
    refine loopO_done ?_
    rw [F25_L8_step, T.run_test, if_neg (by rw [decide_eq_true_eq]; omega), T.run_ret]; rfl
  | succ m ih =>
    intro k c hk hc
    have w1 : w64 ((k : Int) + 1) = ((k + 1 : Nat) : Int) := by rw [w64_id (by omega) (by omega)]; omega
    have w2 : w64 ((c : Int) + 1) = ((c + 1 : Nat) : Int) := by rw [w64_id (by omega) (by omega)]; omega
    have hlt : k < b.length := by omega
    rw [List.drop_eq_getElem_cons hlt, List.filter_cons]
    have hs : (F25_L8_step ((b, ((c : Int), ((), (t18, (t19, (t20, (b, ((b.length : Int), (k : Int))))))))), (x, y))).run = if crossD (x, y) b[k] = true then some (.inl ((b, (((c + 1 : Nat) : Int), ((), (t18, (t19, (t20, (b, ((b.length : Int), ((k + 1 : Nat) : Int))))))))), (x, y))) else some (.inl ((b, ((c : Int), ((), (t18, (t19, (t20, (b, ((b.length : Int), ((k + 1 : Nat) : Int))))))))), (x, y))) := by
      rw [F25_L8_step, T.run_test, if_pos (decide_eq_true (by omega)), T.run_test, if_pos (decide_eq_true (by omega)), T.run_sub, Int.toNat_natCast, List.getElem?_eq_getElem hlt, Option.bind_some, T.run_sub, F68_eq, Option.bind_some, T.run_test, T.run_ret, T.run_ret, w1, w2]
    by_cases h : crossD (x, y) b[k] = true
    · rw [if_pos h] at hs ⊢
      have := ih (k + 1) (c + 1) (by omega) (by omega)
      simp only [F25_L8] at this ⊢
      rw [loopO_next hs, this, List.length_cons]
      congr 3
      omega
    · rw [if_neg h] at hs ⊢
      have := ih (k + 1) c (by omega) (by omega)
      simp only [F25_L8] at this ⊢
      rw [loopO_next hs, this]
theorem F25_L5_eq (a b : List Dg) (ha : a.length ≤ 900) (hb : b.length ≤ 1000) : ∀ (m k : Nat) (c : Nat), k + m = a.length → c ≤ 1000 * k →
    F25_L5 (b, ((c : Int), (a, ((a.length : Int), (k : Int))))) = some ((c + crN (a.drop k) b : Nat) : Int) := by
  intro m
  induction m with
  | zero =>
    intro k c hk hc
    rw [List.drop_of_length_le (by omega)]
    simp only [F25_L5]
    refine loopO_done ?_
    rw [F25_L5_step, T.run_test, if_neg (by rw [decide_eq_true_eq]; omega), T.run_ret]; rfl
  | succ m ih =>
    intro k c hk hc
    have w1 : w64 ((k : Int) + 1) = ((k + 1 : Nat) : Int) := by rw [w64_id (by omega) (by omega)]; omega
    have hlt : k < a.length := by omega
    have h8 := F25_L8_eq b a (a.length : Int) (k : Int) a[k] hb b.length 0 c (by omega) (by omega)
    rw [List.drop_zero] at h8
    have h8' : F25_L8 ((b, ((c : Int), ((), (a, ((a.length : Int), ((k : Int), (b, ((b.length : Int), (0 : Int))))))))), a[k]) = _ := h8
    have hfl : (b.filter (crossD a[k])).length ≤ b.length := List.length_filter_le _ _
    have := ih (k + 1) (c + (b.filter (crossD a[k])).length) (by omega) (by omega)
    rw [List.drop_eq_getElem_cons hlt, show crN (a[k] :: a.drop (k + 1)) b = (b.filter (crossD a[k])).length + crN (a.drop (k + 1)) b from rfl, ← Nat.add_assoc, ← this]
    simp only [F25_L5]
    refine loopO_next ?_
    rw [F25_L5_step, T.run_test, if_pos (decide_eq_true (by omega)), T.run_test, if_pos (decide_eq_true (by omega)), T.run_sub, Int.toNat_natCast, List.getElem?_eq_getElem hlt, Option.bind_some, T.run_sub, h8', Option.bind_some, T.run_ret]
    dsimp only
    rw [w1]
theorem F25_eq (n : Int) (a b : List Dg) (ha : a.length ≤ 900) (hb : b.length ≤ 900) : F25 (n, (a, b)) = some (crR n a b) := by
  unfold crR
  rw [F25, F25_t, T.run_sub, F72_eq n a b (by omega) (by omega), Option.bind_some, T.run_test]
  by_cases c : isTri n a = true ∧ isTri n b = true
  · have h5 := F25_L5_eq a b ha (by omega) a.length 0 0 (by omega) (by omega)
    rw [List.drop_zero, Nat.zero_add] at h5
    have h5' : F25_L5 (b, ((0 : Int), (a, ((a.length : Int), (0 : Int))))) = _ := h5
    rw [if_neg (by simp [c.1, c.2]), T.run_sub, h5', Option.bind_some, T.run_ret, if_pos c]
  · rw [if_pos (by rw [Bool.not_eq_true', ← Bool.not_eq_true, Bool.and_eq_true]; exact c), T.run_ret, if_neg c]


def F26_sh : FSh := ⟨[(.one (.si .i64)), (.one (.sl (.pair (.int .i64) (.int .i64)) false false)), (.one (.sl (.pair (.int .i64) (.int .i64)) false false))], []⟩

def F26_L8_sh : LSh := ⟨(fun ex => match ex with | .norm => [(2, none), (8, none), (10, none), (18, none), (19, none), (20, none), (24, none), (25, none), (26, none)] | .exit i => if i = 2 then [(2, none), (8, none), (18, none), (19, none), (20, none)] else if i = 1 then [(2, none), (8, none), (18, none), (19, none), (20, none)] else if i = 0 then [(8, none)] else [] | .ret => [(6, none), (7, none)]), [(2, (.one (.sl (.pair (.int .i64) (.int .i64)) false false))), (8, (.one (.si .i64))), (10, (.one (.pf 0 0 0))), (18, (.one (.sl (.pair (.int .i64) (.int .i64)) false false))), (19, (.one (.si .i64))), (20, (.one (.si .i64))), (24, (.one (.sl (.pair (.int .i64) (.int .i64)) false false))), (25, (.one (.si .i64))), (26, (.one (.si .i64)))], [(.rcd 0 [(.si .i64), (.si .i64)])], [⟨(.exit 2), [(2, (.one (.sl (.pair (.int .i64) (.int .i64)) false false))), (8, (.one (.si .i64))), (18, (.one (.sl (.pair (.int .i64) (.int .i64)) false false))), (19, (.one (.si .i64))), (20, (.one (.si .i64)))], []⟩], [], []⟩
noncomputable def F26_L8_step : ((List ((Int × Int)) × Int × Unit × List ((Int × Int)) × Int × Int × List ((Int × Int)) × Int × Int) × (Int × Int)) → T (((List ((Int × Int)) × Int × Unit × List ((Int × Int)) × Int × Int × List ((Int × Int)) × Int × Int) × (Int × Int)) ⊕ (List ((Int × Int)) × Int × List ((Int × Int)) × Int × Int)) := fun ((b, count, (), t18, t19, t20, t24, t25, t26), (d_0, d_1)) =>
 (.test (decide (t26 < t25))
 (.test (decide ((0 ≤ t26) ∧ (t26 < ((List.length t24) : Int))))
 (.sub (t24[(Int.toNat t26)]?) fun z0 =>
 (.sub (F71 ((d_0, d_1), z0)) fun z1 =>
 (.test z1
 (.ret (Sum.inl ((b, ((w64 (count + 1)), ((), (t18, (t19, (t20, (t24, (t25, (w64 (t26 + 1)))))))))), (d_0, d_1))))
 (.ret (Sum.inl ((b, (count, ((), (t18, (t19, (t20, (t24, (t25, (w64 (t26 + 1)))))))))), (d_0, d_1)))))))
 .fail)
 (.ret (Sum.inr (b, (count, (t18, (t19, t20)))))))
noncomputable def F26_L8 (v : ((List ((Int × Int)) × Int × Unit × List ((Int × Int)) × Int × Int × List ((Int × Int)) × Int × Int) × (Int × Int))) : Option (List ((Int × Int)) × Int × List ((Int × Int)) × Int × Int) := loopO (fun v => (F26_L8_step v).run) v

def F26_L5_sh : LSh := ⟨(fun ex => match ex with | .norm => [(2, none), (8, none), (18, none), (19, none), (20, none)] | .exit i => if i = 0 then [(8, none)] else [] | .ret => [(6, none), (7, none)]), [(2, (.one (.sl (.pair (.int .i64) (.int .i64)) false false))), (8, (.one (.si .i64))), (18, (.one (.sl (.pair (.int .i64) (.int .i64)) false false))), (19, (.one (.si .i64))), (20, (.one (.si .i64)))], [], [⟨(.exit 0), [(8, (.one (.si .i64)))], []⟩], [], []⟩
noncomputable def F26_L5_step : (List ((Int × Int)) × Int × List ((Int × Int)) × Int × Int) → T ((List ((Int × Int)) × Int × List ((Int × Int)) × Int × Int) ⊕ Int) := fun (b, count, t18, t19, t20) =>
 (.test (decide (t20 < t19))
 (.test (decide ((0 ≤ t20) ∧ (t20 < ((List.length t18) : Int))))
 (.sub (t18[(Int.toNat t20)]?) fun z0 =>
 (.sub (F26_L8 ((b, (count, ((), (t18, (t19, (t20, (b, (((List.length b) : Int), (0 : Int))))))))), z0)) fun z1 =>
 (.ret (Sum.inl (z1.1, (z1.2.1, (z1.2.2.1, (z1.2.2.2.1, (w64 (z1.2.2.2.2 + 1))))))))))
 .fail)
 (.ret (Sum.inr count)))
noncomputable def F26_L5 (v : (List ((Int × Int)) × Int × List ((Int × Int)) × Int × Int)) : Option Int := loopO (fun v => (F26_L5_step v).run) v

def F26_fo : List FO := [⟨[(.one (.si .i64)), (.one .sb)], []⟩]
noncomputable def F26_t : (Int × List ((Int × Int)) × List ((Int × Int))) → T (Int × Bool) := fun (n, a, b) =>
 (.sub (F93 (n, (a, b))) fun z0 =>
 (.test (! z0)
 (.ret ((0 : Int), false))
 (.sub (F26_L5 (b, ((0 : Int), (a, (((List.length a) : Int), (0 : Int)))))) fun z1 =>
 (.ret (z1, true)))))
noncomputable def F26 (v : (Int × List ((Int × Int)) × List ((Int × Int)))) : Option (Int × Bool) := (F26_t v).run
noncomputable def F26_E : TEnv := ((E0.add1 n_F93 F93_sh F93_fo F93).add1 n_F71 F71_sh F71_fo F71)
theorem F26_Eok : (F26_E).OK := ((E0ok.add1 F93_ok).add1 F71_ok)
noncomputable def F26_told : Nat → Option SealT := fun id => if id = 8 then some (LSh.told F26_L8_sh 0 (F26_L8_step)) else if id = 5 then some (LSh.told F26_L5_sh 0 (F26_L5_step)) else none
theorem F26_L8_ok : ToldOK Tryz.prog 0 (loopAt (bodyOf fn_F26) [0, 0]) (LSh.told F26_L8_sh 0 (F26_L8_step)) :=
  loop_ok (E := F26_E) (F26_Eok) (told := F26_told) (l := F26_L8_sh) (step := F26_L8_step) (loopsOK_of (ls := []) (by kernel_rfl) trivial) (by kernel_rfl) (fun v => by kernel_rfl)
theorem F26_L5_ok : ToldOK Tryz.prog 0 (loopAt (bodyOf fn_F26) [0]) (LSh.told F26_L5_sh 0 (F26_L5_step)) :=
  loop_ok (E := F26_E) (F26_Eok) (told := F26_told) (l := F26_L5_sh) (step := F26_L5_step) (loopsOK_of (ls := [loopAt (bodyOf fn_F26) [0, 0]]) (by kernel_rfl) ⟨.inr ⟨_, by kernel_rfl, F26_L8_ok⟩, trivial⟩) (by kernel_rfl) (fun v => by kernel_rfl)
theorem F26_ok : FOK Tryz.prog n_F26 F26_sh F26_fo F26 :=
  fn_ok (E := F26_E) (F26_Eok) (told := F26_told) (fl := []) (c := bodyOf fn_F26) (s := F26_sh) (l := F26_fo) (tree := F26_t) fnat_F26 (by kernel_rfl) (by kernel_rfl) (by kernel_rfl) (loopsOK_of (ls := [loopAt (bodyOf fn_F26) [0]]) (by kernel_rfl) ⟨.inr ⟨_, by kernel_rfl, F26_L5_ok⟩, trivial⟩) (fun v => by kernel_rfl)

theorem F26_L8_eq (b t18 : List Dg) (t19 t20 : Int) (d : Dg) (hb : b.length ≤ 1000) : ∀ (m k : Nat) (c : Nat), k + m = b.length → c ≤ 1000000 + k →
    F26_L8 ((b, ((c : Int), ((), (t18, (t19, (t20, (b, ((b.length : Int), (k : Int))))))))), d) = some (b, (((c + ((b.drop k).filter (crossD d)).length : Nat) : Int), (t18, (t19, t20)))) := by
  obtain ⟨x, y⟩ := d
  intro m
  induction m with
  | zero =>
    intro k c hk hc
    rw [List.drop_of_length_le (by omega)]
    simp only [F26_L8]
    refine loopO_done ?_
    rw [F26_L8_step, T.run_test, if_neg (by rw [decide_eq_true_eq]; omega), T.run_ret]; rfl
  | succ m ih =>
    intro k c hk hc
    have w1 : w64 ((k : Int) + 1) = ((k + 1 : Nat) : Int) := by rw [w64_id (by omega) (by omega)]; omega
    have w2 : w64 ((c : Int) + 1) = ((c + 1 : Nat) : Int) := by rw [w64_id (by omega) (by omega)]; omega
    have hlt : k < b.length := by omega
    rw [List.drop_eq_getElem_cons hlt, List.filter_cons]
    have hs : (F26_L8_step ((b, ((c : Int), ((), (t18, (t19, (t20, (b, ((b.length : Int), (k : Int))))))))), (x, y))).run = if crossD (x, y) b[k] = true then some (.inl ((b, (((c + 1 : Nat) : Int), ((), (t18, (t19, (t20, (b, ((b.length : Int), ((k + 1 : Nat) : Int))))))))), (x, y))) else some (.inl ((b, ((c : Int), ((), (t18, (t19, (t20, (b, ((b.length : Int), ((k + 1 : Nat) : Int))))))))), (x, y))) := by
      rw [F26_L8_step, T.run_test, if_pos (decide_eq_true (by omega)), T.run_test, if_pos (decide_eq_true (by omega)), T.run_sub, Int.toNat_natCast, List.getElem?_eq_getElem hlt, Option.bind_some, T.run_sub, F71_eq, Option.bind_some, T.run_test, T.run_ret, T.run_ret, w1, w2]
    by_cases h : crossD (x, y) b[k] = true
    · rw [if_pos h] at hs ⊢
      have := ih (k + 1) (c + 1) (by omega) (by omega)
      simp only [F26_L8] at this ⊢
      rw [loopO_next hs, this, List.length_cons]
      congr 3
      omega
    · rw [if_neg h] at hs ⊢
      have := ih (k + 1) c (by omega) (by omega)
      simp only [F26_L8] at this ⊢
      rw [loopO_next hs, this]
theorem F26_L5_eq (a b : List Dg) (ha : a.length ≤ 900) (hb : b.length ≤ 1000) : ∀ (m k : Nat) (c : Nat), k + m = a.length → c ≤ 1000 * k →
    F26_L5 (b, ((c : Int), (a, ((a.length : Int), (k : Int))))) = some ((c + crN (a.drop k) b : Nat) : Int) := by
  intro m
  induction m with
  | zero =>
    intro k c hk hc
    rw [List.drop_of_length_le (by omega)]
    simp only [F26_L5]
    refine loopO_done ?_
    rw [F26_L5_step, T.run_test, if_neg (by rw [decide_eq_true_eq]; omega), T.run_ret]; rfl
  | succ m ih =>
    intro k c hk hc
    have w1 : w64 ((k : Int) + 1) = ((k + 1 : Nat) : Int) := by rw [w64_id (by omega) (by omega)]; omega
    have hlt : k < a.length := by omega
    have h8 := F26_L8_eq b a (a.length : Int) (k : Int) a[k] hb b.length 0 c (by omega) (by omega)
    rw [List.drop_zero] at h8
    have h8' : F26_L8 ((b, ((c : Int), ((), (a, ((a.length : Int), ((k : Int), (b, ((b.length : Int), (0 : Int))))))))), a[k]) = _ := h8
    have hfl : (b.filter (crossD a[k])).length ≤ b.length := List.length_filter_le _ _
    have := ih (k + 1) (c + (b.filter (crossD a[k])).length) (by omega) (by omega)
    rw [List.drop_eq_getElem_cons hlt, show crN (a[k] :: a.drop (k + 1)) b = (b.filter (crossD a[k])).length + crN (a.drop (k + 1)) b from rfl, ← Nat.add_assoc, ← this]
    simp only [F26_L5]
    refine loopO_next ?_
    rw [F26_L5_step, T.run_test, if_pos (decide_eq_true (by omega)), T.run_test, if_pos (decide_eq_true (by omega)), T.run_sub, Int.toNat_natCast, List.getElem?_eq_getElem hlt, Option.bind_some, T.run_sub, h8', Option.bind_some, T.run_ret]
    dsimp only
    rw [w1]
theorem F26_eq (n : Int) (a b : List Dg) (ha : a.length ≤ 900) (hb : b.length ≤ 900) : F26 (n, (a, b)) = some (crR n a b) := by
  unfold crR
  rw [F26, F26_t, T.run_sub, F93_eq n a b (by omega) (by omega), Option.bind_some, T.run_test]
  by_cases c : isTri n a = true ∧ isTri n b = true
  · have h5 := F26_L5_eq a b ha (by omega) a.length 0 0 (by omega) (by omega)
    rw [List.drop_zero, Nat.zero_add] at h5
    have h5' : F26_L5 (b, ((0 : Int), (a, ((a.length : Int), (0 : Int))))) = _ := h5
    rw [if_neg (by simp [c.1, c.2]), T.run_sub, h5', Option.bind_some, T.run_ret, if_pos c]
  · rw [if_pos (by rw [Bool.not_eq_true', ← Bool.not_eq_true, Bool.and_eq_true]; exact c), T.run_ret, if_neg c]


def F82_sh : FSh := ⟨[(.one (.sl (.list true (.pair (.int .i64) (.int .i64))) false false)), (.one (.sl (.list true (.pair (.int .i64) (.int .i64))) false false))], []⟩

def F82_L4_sh : LSh := ⟨(fun ex => match ex with | .norm => [(0, none), (1, none), (12, none), (13, none)] | .exit i => if i = 0 then [] else [] | .ret => [(4, none)]), [(0, (.one (.sl (.list true (.pair (.int .i64) (.int .i64))) false false))), (1, (.one (.sl (.list true (.pair (.int .i64) (.int .i64))) false false))), (12, (.one (.si .i64))), (13, (.one (.si .i64)))], [], [⟨.ret, [(4, (.one .sb))], []⟩, ⟨(.exit 0), [], []⟩], [], []⟩
noncomputable def F82_L4_step : (List (List ((Int × Int))) × List (List ((Int × Int))) × Int × Int) → T ((List (List ((Int × Int))) × List (List ((Int × Int))) × Int × Int) ⊕ (Bool ⊕ Unit)) := fun (a, b, t12, t13) =>
 (.test (decide (t13 < t12))
 (.test (decide ((0 ≤ t13) ∧ (t13 < ((List.length a) : Int))))
 (.sub (a[(Int.toNat t13)]?) fun z0 =>
 (.test (decide ((0 ≤ t13) ∧ (t13 < ((List.length b) : Int))))
 (.sub (b[(Int.toNat t13)]?) fun z1 =>
 (.sub (F90 (z0, z1)) fun z2 =>
 (.test (! z2)
 (.ret (Sum.inr (Sum.inl false)))
 (.ret (Sum.inl (a, (b, (t12, (w64 (t13 + 1))))))))))
 .fail))
 .fail)
 (.ret (Sum.inr (Sum.inr ()))))
noncomputable def F82_L4 (v : (List (List ((Int × Int))) × List (List ((Int × Int))) × Int × Int)) : Option (Bool ⊕ Unit) := loopO (fun v => (F82_L4_step v).run) v

def F82_fo : List FO := [⟨[(.one .sb)], []⟩]
noncomputable def F82_t : (List (List ((Int × Int))) × List (List ((Int × Int)))) → T Bool := fun (a, b) =>
 (.test (((List.length a) : Int) != ((List.length b) : Int))
 (.ret false)
 (.sub (F82_L4 (a, (b, (((List.length a) : Int), (0 : Int))))) fun z0 =>
 (.test (Sum.isLeft z0)
 (.sub (Sum.getLeft? z0) fun z1 =>
 (.ret z1))
 (.sub (Sum.getRight? z0) fun z2 =>
 (.ret true)))))
noncomputable def F82 (v : (List (List ((Int × Int))) × List (List ((Int × Int))))) : Option Bool := (F82_t v).run
noncomputable def F82_E : TEnv := (E0.add1 n_F90 F90_sh F90_fo F90)
theorem F82_Eok : (F82_E).OK := (E0ok.add1 F90_ok)
noncomputable def F82_told : Nat → Option SealT := fun id => if id = 4 then some (LSh.told F82_L4_sh 0 (F82_L4_step)) else none
theorem F82_L4_ok : ToldOK Tryz.prog 0 (loopAt (bodyOf fn_F82) [0]) (LSh.told F82_L4_sh 0 (F82_L4_step)) :=
  loop_ok (E := F82_E) (F82_Eok) (told := F82_told) (l := F82_L4_sh) (step := F82_L4_step) (loopsOK_of (ls := []) (by kernel_rfl) trivial) (by kernel_rfl) (fun v => by kernel_rfl)
theorem F82_ok : FOK Tryz.prog n_F82 F82_sh F82_fo F82 :=
  fn_ok (E := F82_E) (F82_Eok) (told := F82_told) (fl := []) (c := bodyOf fn_F82) (s := F82_sh) (l := F82_fo) (tree := F82_t) fnat_F82 (by kernel_rfl) (by kernel_rfl) (by kernel_rfl) (loopsOK_of (ls := [loopAt (bodyOf fn_F82) [0]]) (by kernel_rfl) ⟨.inr ⟨_, by kernel_rfl, F82_L4_ok⟩, trivial⟩) (fun v => by kernel_rfl)

theorem uLists_val (a b : List (List Dg)) (hl : a.length < 4611686018427387904) (hr : ∀ x ∈ a, x.length < 4611686018427387904) : F82 (a, b) = some (decide (a = b)) := by
  rw [F82, F82_t, T.run_test]
  by_cases he : a.length = b.length
  · have h := cmp_loop (step := fun v => (F82_L4_step v).run) a b (fun k => (a, (b, ((a.length : Int), (k : Int))))) he
      (fun k x y hx hy => by
        have k1 := getElem?_lt hx
        have k2 := getElem?_lt hy
        have w1 : w64 ((k : Int) + 1) = ((k + 1 : Nat) : Int) := by rw [w64_id (by omega) (by omega)]; omega
        rw [F82_L4_step, T.run_test, if_pos (decide_eq_true (by omega)), T.run_test, if_pos (decide_eq_true (by omega)), T.run_sub, Int.toNat_natCast, hx, Option.bind_some, T.run_test, if_pos (decide_eq_true (by omega)), T.run_sub, hy, Option.bind_some, T.run_sub, uCuts_val x y (hr x (List.mem_of_getElem? hx)), Option.bind_some, T.run_test]
        by_cases e : x = y
        · rw [if_neg (by simp [e]), if_pos e, T.run_ret, w1]
        · rw [if_pos (by simp [e]), if_neg e, T.run_ret])
      (by rw [F82_L4_step, T.run_test, if_neg (by simp), T.run_ret])
    have h' : F82_L4 (a, (b, ((a.length : Int), (0 : Int)))) = _ := h
    rw [if_neg (by simp [he]), T.run_sub, h', Option.bind_some]
    by_cases e : a = b
    · rw [if_pos e, decide_eq_true e]; rfl
    · rw [if_neg e, decide_eq_false e]; rfl
  · rw [if_pos (by simp; omega), T.run_ret, decide_eq_false fun e => he (by rw [e])]



theorem flip_not {n : Nat} {a : List Dg} (ha : isTri n a = true) {d : Dg} (hd : d ∈ a) : d ∉ flipD n a d := fun hm => by
  rcases (flip_mem ha).1 hm with h | h
  · exact h.2 rfl
  · exact (oth_facts ha hd).2.2.2.2 (h ▸ hd)
theorem common_flip {n : Nat} {a : List Dg} (ha : isTri n a = true) {d : Dg} (hd : d ∈ a) : ((a.filter fun f => decide (f ∈ flipD n a d)).length : Int) = n - 4 := by
  have g := tri_rng ha
  have : (a.filter fun f => decide (f ∈ flipD n a d)) = a.erase d := by
    rw [g.2.1.erase_eq_filter]
    apply List.filter_congr
    intro f hf
    by_cases e : f = d
    · subst e
      rw [decide_eq_false (flip_not ha hf)]; simp
    · rw [decide_eq_true ((flip_mem ha).2 (.inl ⟨hf, e⟩))]; simpa using e
  rw [this, List.length_erase_of_mem hd]
  have := List.length_pos_of_mem hd
  omega
theorem apart_fst {n : Nat} {a : List Dg} (ha : isTri n a = true) {d : Dg} (hd : d ∈ a) : apR n a (flipD n a d) = (d, true) := by
  have hb := flip_tri ha hd
  unfold apR
  rw [if_pos ⟨ha, hb⟩, Int.toNat_natCast]
  cases hf : a.findIdx? (fun e => decide (flipD n a e = flipD n a d)) with
  | none =>
    have := List.findIdx?_eq_none_iff.1 hf d hd
    simp at this
  | some k =>
    obtain ⟨hlt, he, _⟩ := List.findIdx?_eq_some_iff_getElem.1 hf
    have he := of_decide_eq_true he
    dsimp only
    have hg : gD a k = a[k] := gD_eq hlt
    have hm : a[k] ∈ a := List.getElem_mem hlt
    rw [hg]
    by_cases e : a[k] = d
    · rw [e]
    · exfalso
      exact flip_not ha hm (he ▸ (flip_mem ha).2 (.inl ⟨hm, e⟩))
theorem apart_iff {n : Nat} {a b : List Dg} (ha : isTri n a = true) (hb : isTri n b = true) : (apR n a b).2 = (decide (((a.filter fun f => decide (f ∈ b)).length : Int) = (n : Int) - 4) && decide ((n : Int) > 3)) := by
  have g := tri_rng ha
  unfold apR
  rw [if_pos ⟨ha, hb⟩, Int.toNat_natCast]
  cases hf : a.findIdx? (fun e => decide (flipD n a e = b)) with
  | some k =>
    obtain ⟨hlt, he, _⟩ := List.findIdx?_eq_some_iff_getElem.1 hf
    have he := of_decide_eq_true he
    have := common_flip ha (List.getElem_mem hlt)
    rw [he] at this
    rw [decide_eq_true this, decide_eq_true (by omega)]; rfl
  | none =>
    symm
    rw [← Bool.not_eq_true, Bool.and_eq_true, decide_eq_true_eq, decide_eq_true_eq]
    rintro ⟨h1, h2⟩
    have hsum := len_three (fun f : Dg => decide (f ∈ b)) (fun f : Dg => !decide (f ∈ b)) a (fun d _ => by by_cases h : d ∈ b <;> simp [h])
    have hz : (a.filter fun d => !(fun f : Dg => decide (f ∈ b)) d && !(fun f : Dg => !decide (f ∈ b)) d) = [] := List.filter_eq_nil_iff.2 fun x _ => by by_cases h : x ∈ b <;> simp [h]
    rw [hz] at hsum
    have hone : (a.filter fun f => !decide (f ∈ b)).length = 1 := by simp only [List.length_nil] at hsum; omega
    obtain ⟨d, hd⟩ := List.length_eq_one_iff.1 hone
    have hdm : d ∈ a.filter fun f => !decide (f ∈ b) := by rw [hd]; simp
    obtain ⟨m1, m2⟩ := List.mem_filter.1 hdm
    have hfl := apart_one ha hb m1 (by simpa using m2) (fun f hf hne => by
      refine Decidable.byContradiction fun hn => ?_
      have : f ∈ a.filter fun f => !decide (f ∈ b) := List.mem_filter.2 ⟨hf, by simpa using hn⟩
      rw [hd, List.mem_singleton] at this
      exact hne this)
    have := List.findIdx?_eq_none_iff.1 hf d m1
    rw [decide_eq_false_iff_not] at this
    exact this hfl
theorem crN_cons (d : Dg) (a b : List Dg) : crN (d :: a) b = (b.filter (crossD d)).length + crN a b := rfl
theorem crN_right (d : Dg) : ∀ (b a : List Dg), crN b (d :: a) = (b.filter (crossD d)).length + crN b a
  | [], a => rfl
  | e :: b, a => by
    rw [crN_cons, crN_cons, crN_right d b a, List.filter_cons, List.filter_cons, crossD_comm e d]
    cases crossD d e <;> simp <;> omega
theorem crN_comm : ∀ a b : List Dg, crN a b = crN b a
  | [], b => by
    induction b with
    | nil => rfl
    | cons e b ih => rw [crN_cons, ← ih]; rfl
  | d :: a, b => by rw [crN_cons, crN_right, crN_comm a b]
theorem crN_zero {n : Nat} {a b : List Dg} (ha : isTri n a = true) (hb : isTri n b = true) : crN a b = 0 ↔ a = b := by
  constructor
  · intro h
    refine tri_same ha hb fun d hd e he => ?_
    have key : ∀ l : List Dg, crN l b = 0 → ∀ d ∈ l, (b.filter (crossD d)).length = 0 := by
      intro l
      induction l with
      | nil => intro _ d hd; cases hd
      | cons x l ih =>
        intro hl d hd
        rw [crN_cons] at hl
        rcases List.mem_cons.1 hd with e | h
        · rw [e]; omega
        · exact ih (by omega) d h
    have := List.length_eq_zero_iff.1 (key a h d hd)
    have := List.filter_eq_nil_iff.1 this e he
    simpa using this
  · rintro rfl
    have key : ∀ l : List Dg, (∀ d ∈ l, d ∈ a) → crN l a = 0 := by
      intro l
      induction l with
      | nil => intro _; rfl
      | cons x l ih =>
        intro hl
        rw [crN_cons, ih fun d hd => hl d (List.mem_cons_of_mem _ hd), List.filter_eq_nil_iff.2 fun e he => by rw [tri_facts ha x (hl x (by simp)) e he]; decide]
        rfl
    exact key a fun d hd => hd


end Go.Proofs.W
