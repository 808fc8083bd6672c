import Derived.Test.YtppalpflejcjeaaGreatMCiWk1
set_option linter.unusedVariables false
set_option linter.unusedSimpArgs false
set_option maxRecDepth 100000
set_option maxHeartbeats 4000000
namespace Go.Proofs.W
open Go Go.Gm Go.Proofs
open Go.RowKit Go.Shelf
def F57_sh : FSh := ⟨[(.one (.si .i64)), (.ag [(.si .i64), (.si .i64)])], []⟩
def F57_fo : List FO := [⟨[(.one .sb)], []⟩]
noncomputable def F57_t : (Int × (Int × Int)) → T Bool := fun (n, (d_0, d_1)) =>
 (.sub (F118 n) fun z0 =>
 (.test z0
 (.sub (F117 (d_0, ((0 : Int), (w64 (n - 1))))) fun z1 =>
 (.test z1
 (.sub (F117 (d_1, ((0 : Int), (w64 (n - 1))))) fun z2 =>
 (.test z2
 (.test (decide ((w64 (d_1 - d_0)) ≥ 2))
 (.ret (decide ((w64 (d_1 - d_0)) ≤ (w64 (n - 2)))))
 (.ret false))
 (.ret false)))
 (.ret false)))
 (.ret false)))
noncomputable def F57 (v) := (F57_t v).run
noncomputable def F57_E : TEnv := ((E0.add1 n_F118 F118_sh F118_fo F118).add1 n_F117 F117_sh F117_fo F117)
theorem F57_Eok : (F57_E).OK := ((E0ok.add1 F118_ok).add1 F117_ok)
noncomputable def F57_told : Nat → Option SealT := fun id => none
theorem F57_ok : FOK Tryz.prog n_F57 F57_sh F57_fo F57 :=
 fn_ok (E := F57_E) (F57_Eok) (told := F57_told) (fl := []) (c := bodyOf fn_F57) (s := F57_sh) (l := F57_fo) (tree := F57_t) fnat_F57 (by kernel_rfl) (by kernel_rfl) (by kernel_rfl) (loopsOK_of (ls := []) (by kernel_rfl) trivial) (fun v => by kernel_rfl)
theorem F57_eq (n : Int) (d : Dg) (h1 : 3 ≤ n) (h2 : n ≤ 12) : F57 (n, d) = some (inDg n d) := by
 obtain ⟨a, b⟩ := d
 have hp : inB 3 12 n = true := inB_iff.2 ⟨h1, h2⟩
 simp only [F57, F57_t, T.run, F118, F118_t, F117_eq, Option.bind_some, hp, if_true, w64_id (z := n - 1) (by omega) (by omega), w64_id (z := n - 2) (by omega) (by omega)]
 cases ha : inB 0 (n - 1) a with
 | false => simp [inDg, ha]
 | true =>
  cases hb : inB 0 (n - 1) b with
  | false => simp [inDg, hb]
  | true =>
   have e : inDg n (a, b) = decide (b - a ≥ 2 ∧ b - a ≤ n - 2) := by
    rw [Bool.eq_iff_iff, inDg_iff, decide_eq_true_eq]
    rw [inB_iff] at ha hb
    simp only []
    omega
   rw [inB_iff] at ha hb
   rw [w64_id (z := b - a) (by omega) (by omega), e]
   by_cases g1 : b - a ≥ 2 <;> by_cases g2 : b - a ≤ n - 2 <;> simp [g1, g2]
def F81_sh : FSh := ⟨[(.ag [(.si .i64), (.si .i64)]), (.ag [(.si .i64), (.si .i64)])], []⟩
def F81_fo : List FO := [⟨[(.one .sb)], []⟩]
noncomputable def F81_t : ((Int × Int) × (Int × Int)) → T Bool := fun ((d_0, d_1), (e_0, e_1)) =>
 (.test (decide (d_0 < e_0))
 (.test (decide (e_0 < d_1))
 (.test (decide (d_1 < e_1))
 (.ret true)
 (.test (decide (e_0 < d_0))
 (.test (decide (d_0 < e_1))
 (.ret (decide (e_1 < d_1)))
 (.ret false))
 (.ret false)))
 (.test (decide (e_0 < d_0))
 (.test (decide (d_0 < e_1))
 (.ret (decide (e_1 < d_1)))
 (.ret false))
 (.ret false)))
 (.test (decide (e_0 < d_0))
 (.test (decide (d_0 < e_1))
 (.ret (decide (e_1 < d_1)))
 (.ret false))
 (.ret false)))
noncomputable def F81 (v) := (F81_t v).run
noncomputable def F81_E : TEnv := E0
theorem F81_Eok : (F81_E).OK := E0ok
noncomputable def F81_told : Nat → Option SealT := fun id => none
theorem F81_ok : FOK Tryz.prog n_F81 F81_sh F81_fo F81 :=
 fn_ok (E := F81_E) (F81_Eok) (told := F81_told) (fl := []) (c := bodyOf fn_F81) (s := F81_sh) (l := F81_fo) (tree := F81_t) fnat_F81 (by kernel_rfl) (by kernel_rfl) (by kernel_rfl) (loopsOK_of (ls := []) (by kernel_rfl) trivial) (fun v => by kernel_rfl)
theorem F81_eq (d e : Dg) : F81 (d, e) = some (crossD d e) := by
 obtain ⟨a, b⟩ := d
 obtain ⟨c, f⟩ := e
 simp only [F81, F81_t, T.run, crossD]
 by_cases h1 : a < c <;> by_cases h2 : c < b <;> by_cases h3 : b < f <;> by_cases h4 : c < a <;> by_cases h5 : a < f <;> by_cases h6 : f < b <;> simp [h1, h2, h3, h4, h5, h6]
def F90_sh : FSh := ⟨[(.one (.si .i64)), (.one (.sl (.pair (.int .i64) (.int .i64)) false false))], []⟩
def F90_L9_sh : LSh := ⟨(fun ex => match ex with | .norm => [(0, none), (1, none), (6, none), (19, none), (20, none), (21, none), (46, none), (47, none), (48, none)] | .exit i => if i = 2 then [(0, none), (1, none), (19, none), (20, none), (21, none)] else if i = 1 then [(0, none), (1, none), (19, none), (20, none), (21, none)] else if i = 0 then [] else [] | .ret => [(4, none)]), [(0, (.one (.si .i64))), (1, (.one (.sl (.pair (.int .i64) (.int .i64)) false false))), (6, (.one (.pf 0 0 0))), (19, (.one (.sl (.pair (.int .i64) (.int .i64)) false false))), (20, (.one (.si .i64))), (21, (.one (.si .i64))), (46, (.one (.sl (.pair (.int .i64) (.int .i64)) false false))), (47, (.one (.si .i64))), (48, (.one (.si .i64)))], [(.rcd 0 [(.si .i64), (.si .i64)])], [⟨.ret, [(4, (.one .sb))], []⟩, ⟨(.exit 2), [(0, (.one (.si .i64))), (1, (.one (.sl (.pair (.int .i64) (.int .i64)) false false))), (19, (.one (.sl (.pair (.int .i64) (.int .i64)) false false))), (20, (.one (.si .i64))), (21, (.one (.si .i64)))], []⟩], [], []⟩
noncomputable def F90_L9_step : ((Int × List ((Int × Int)) × Unit × List ((Int × Int)) × Int × Int × List ((Int × Int)) × Int × Int) × (Int × Int)) → T (((Int × List ((Int × Int)) × Unit × List ((Int × Int)) × Int × Int × List ((Int × Int)) × Int × Int) × (Int × Int)) ⊕ (Bool ⊕ (Int × List ((Int × Int)) × List ((Int × Int)) × Int × Int))) := fun ((n, ds, (), t19, t20, t21, t46, t47, t48), (d_0, d_1)) =>
 (.test (decide (t48 < t47))
 (.test (decide ((0 ≤ t48) ∧ (t48 < (t46.length : Int))))
 (.sub (t46[(Int.toNat t48)]?) fun z0 =>
 (.sub (F81 ((d_0, d_1), z0)) fun z1 =>
 (.test z1
 (.ret (Sum.inr (Sum.inl false)))
 (.ret (Sum.inl ((n, (ds, ((), (t19, (t20, (t21, (t46, (t47, (w64 (t48 + 1)))))))))), (d_0, d_1)))))))
 .fail)
 (.ret (Sum.inr (Sum.inr (n, (ds, (t19, (t20, t21))))))))
noncomputable def F90_L9 (v) := loopO (fun v => (F90_L9_step v).run) v
def F90_L4_sh : LSh := ⟨(fun ex => match ex with | .norm => [(0, none), (1, none), (19, none), (20, none), (21, none)] | .exit i => if i = 0 then [] else [] | .ret => [(4, none)]), [(0, (.one (.si .i64))), (1, (.one (.sl (.pair (.int .i64) (.int .i64)) false false))), (19, (.one (.sl (.pair (.int .i64) (.int .i64)) false false))), (20, (.one (.si .i64))), (21, (.one (.si .i64)))], [], [⟨.ret, [(4, (.one .sb))], []⟩, ⟨(.exit 0), [], []⟩], [], []⟩
noncomputable def F90_L4_step : (Int × List ((Int × Int)) × List ((Int × Int)) × Int × Int) → T ((Int × List ((Int × Int)) × List ((Int × Int)) × Int × Int) ⊕ (Bool ⊕ Unit)) := fun (n, ds, t19, t20, t21) =>
 (.test (decide (t21 < t20))
 (.test (decide ((0 ≤ t21) ∧ (t21 < (t19.length : Int))))
 (.sub (t19[(Int.toNat t21)]?) fun z0 =>
 (.sub (F57 (n, z0)) fun z1 =>
 (.test (! z1)
 (.ret (Sum.inr (Sum.inl false)))
 (.test (decide (t21 > 0))
 (.test (decide ((0 ≤ (w64 (t21 - 1))) ∧ ((w64 (t21 - 1)) < (ds.length : Int))))
 (.sub (ds[(Int.toNat (w64 (t21 - 1)))]?) fun z2 =>
 (.sub (F89 (z2, z0)) fun z3 =>
 (.test (! z3)
 (.ret (Sum.inr (Sum.inl false)))
 (.test (decide (0 ≤ t21))
 (.test (decide ((0 ≤ (Int.toNat t21)) ∧ ((Int.toNat t21) ≤ ds.length)))
 (.sub (F90_L9 ((n, (ds, ((), (t19, (t20, (t21, ((win ds 0 ((Int.toNat t21) - 0)), (((List.length (win ds 0 ((Int.toNat t21) - 0))) : Int), (0 : Int))))))))), z0)) fun z4 =>
 (.test (Sum.isLeft z4)
 (.sub (Sum.getLeft? z4) fun z5 =>
 (.ret (Sum.inr (Sum.inl z5))))
 (.sub (Sum.getRight? z4) fun z6 =>
 (.ret (Sum.inl (z6.1, (z6.2.1, (z6.2.2.1, (z6.2.2.2.1, (w64 (z6.2.2.2.2 + 1)))))))))))
 .fail)
 .fail))))
 .fail)
 (.test (decide (0 ≤ t21))
 (.test (decide ((0 ≤ (Int.toNat t21)) ∧ ((Int.toNat t21) ≤ ds.length)))
 (.sub (F90_L9 ((n, (ds, ((), (t19, (t20, (t21, ((win ds 0 ((Int.toNat t21) - 0)), (((List.length (win ds 0 ((Int.toNat t21) - 0))) : Int), (0 : Int))))))))), z0)) fun z7 =>
 (.test (Sum.isLeft z7)
 (.sub (Sum.getLeft? z7) fun z8 =>
 (.ret (Sum.inr (Sum.inl z8))))
 (.sub (Sum.getRight? z7) fun z9 =>
 (.ret (Sum.inl (z9.1, (z9.2.1, (z9.2.2.1, (z9.2.2.2.1, (w64 (z9.2.2.2.2 + 1)))))))))))
 .fail)
 .fail)))))
 .fail)
 (.ret (Sum.inr (Sum.inr ()))))
noncomputable def F90_L4 (v) := loopO (fun v => (F90_L4_step v).run) v
def F90_fo : List FO := [⟨[(.one .sb)], []⟩]
noncomputable def F90_t : (Int × List ((Int × Int))) → T Bool := fun (n, ds) =>
 (.sub (F118 n) fun z0 =>
 (.test (! z0)
 (.ret false)
 (.test ((ds.length : Int) != (w64 (n - 3)))
 (.ret false)
 (.sub (F90_L4 (n, (ds, (ds, ((ds.length : Int), (0 : Int)))))) fun z1 =>
 (.test (Sum.isLeft z1)
 (.sub (Sum.getLeft? z1) fun z2 =>
 (.ret z2))
 (.sub (Sum.getRight? z1) fun z3 =>
 (.ret true)))))))
noncomputable def F90 (v) := (F90_t v).run
noncomputable def F90_E : TEnv := ((((E0.add1 n_F118 F118_sh F118_fo F118).add1 n_F57 F57_sh F57_fo F57).add1 n_F89 F89_sh F89_fo F89).add1 n_F81 F81_sh F81_fo F81)
theorem F90_Eok : (F90_E).OK := ((((E0ok.add1 F118_ok).add1 F57_ok).add1 F89_ok).add1 F81_ok)
noncomputable def F90_told : Nat → Option SealT := fun id => if id = 9 then some (LSh.told F90_L9_sh 0 (F90_L9_step)) else if id = 4 then some (LSh.told F90_L4_sh 0 (F90_L4_step)) else none
theorem F90_L9_ok : ToldOK Tryz.prog 0 (loopAt (bodyOf fn_F90) [0, 0]) (LSh.told F90_L9_sh 0 (F90_L9_step)) :=
 loop_ok (E := F90_E) (F90_Eok) (told := F90_told) (l := F90_L9_sh) (step := F90_L9_step) (loopsOK_of (ls := []) (by kernel_rfl) trivial) (by kernel_rfl) (fun v => by kernel_rfl)
theorem F90_L4_ok : ToldOK Tryz.prog 0 (loopAt (bodyOf fn_F90) [0]) (LSh.told F90_L4_sh 0 (F90_L4_step)) :=
 loop_ok (E := F90_E) (F90_Eok) (told := F90_told) (l := F90_L4_sh) (step := F90_L4_step) (loopsOK_of (ls := [loopAt (bodyOf fn_F90) [0, 0]]) (by kernel_rfl) ⟨.inr ⟨_, by kernel_rfl, F90_L9_ok⟩, trivial⟩) (by kernel_rfl) (fun v => by kernel_rfl)
theorem F90_ok : FOK Tryz.prog n_F90 F90_sh F90_fo F90 :=
 fn_ok (E := F90_E) (F90_Eok) (told := F90_told) (fl := []) (c := bodyOf fn_F90) (s := F90_sh) (l := F90_fo) (tree := F90_t) fnat_F90 (by kernel_rfl) (by kernel_rfl) (by kernel_rfl) (loopsOK_of (ls := [loopAt (bodyOf fn_F90) [0]]) (by kernel_rfl) ⟨.inr ⟨_, by kernel_rfl, F90_L4_ok⟩, trivial⟩) (fun v => by kernel_rfl)
theorem F90_L9_eq (n : Int) (ds t19 xs : List Dg) (t20 t21 : Int) (d : Dg) (hl : xs.length < 4611686018427387904) :
  F90_L9 ((n, (ds, ((), (t19, (t20, (t21, (xs, ((xs.length : Int), (0 : Int))))))))), d) = some (if xs.any (crossD d) then .inl false else .inr (n, (ds, (t19, (t20, t21))))) := by
 obtain ⟨a, b⟩ := d
 have h := loop_any (step := fun v => (F90_L9_step v).run) (xs := xs) (crossD (a, b)) (fun k => ((n, (ds, ((), (t19, (t20, (t21, (xs, ((xs.length : Int), (k : Int))))))))), (a, b))) (.inl false) (.inr (n, (ds, (t19, (t20, t21)))))
  (fun k x hx => by
   have hlt := getElem?_lt hx
   have w1 : w64 ((k : Int) + 1) = ((k + 1 : Nat) : Int) := by rw [w64_id (by omega) (by omega)]; omega
   rw [F90_L9_step, T.run_test, if_pos (decide_eq_true (by omega)), T.run_test, if_pos (decide_eq_true (by omega)), T.run_sub, Int.toNat_natCast, hx, Option.bind_some, T.run_sub, F81_eq, Option.bind_some, T.run_test, w1]
   cases crossD (a, b) x <;> rfl)
  (by rw [F90_L9_step, T.run_test, if_neg (by simp), T.run_ret])
 simp only [Int.natCast_zero] at h
 exact h
theorem F90_eq (n : Int) (ds : List Dg) (hl : ds.length < 4611686018427387904) : F90 (n, ds) = some (isTri n ds) := by
 rw [F90, F90_t, T.run_sub, F118, F118_t, T.run_sub, F117_eq, Option.bind_some, T.run_ret, Option.bind_some, T.run_test, isTri]
 cases hn : inB 3 12 n with
 | false => rfl
 | true =>
  rw [inB_iff] at hn
  have w3 : w64 (n - 3) = n - 3 := w64_id (by omega) (by omega)
  rw [if_neg (by simp), T.run_test, w3]
  by_cases he : (ds.length : Int) = n - 3
  ·have h := loop_any (step := fun v => (F90_L4_step v).run) (xs := List.range ds.length) (badT n ds) (fun k => (n, (ds, (ds, ((ds.length : Int), (k : Int)))))) (.inl false) (.inr ())
    (fun k x hx => by
     obtain ⟨hk, e⟩ := List.getElem?_eq_some_iff.1 hx
     simp only [List.getElem_range] at e
     subst e
     rw [List.length_range] at hk
     have g0 := gD_some hk
     have w1 : w64 ((k : Int) + 1) = ((k + 1 : Nat) : Int) := by rw [w64_id (by omega) (by omega)]; omega
     have tw : win ds 0 (k - 0) = ds.take k := win_take _ _
     have hcr := F90_L9_eq n ds ds (ds.take k) (ds.length : Int) (k : Int) (gD ds k) (by simp; omega)
     have hdg : F57 (n, gD ds k) = some (inDg n (gD ds k)) := F57_eq n (gD ds k) (by omega) (by omega)
     rw [F90_L4_step, T.run_test, if_pos (decide_eq_true (by omega)), T.run_test, if_pos (decide_eq_true (by omega)), T.run_sub, Int.toNat_natCast, g0, Option.bind_some, T.run_sub, hdg, Option.bind_some, T.run_test, badT]
     cases hd : inDg n (gD ds k) with
     | false => rfl
     | true =>
      rw [if_neg (by simp), T.run_test]
      by_cases hk0 : 0 < k
      ·have w2 : w64 ((k : Int) - 1) = ((k - 1 : Nat) : Int) := by rw [w64_id (by omega) (by omega)]; omega
       have g1 := gD_some (show k - 1 < ds.length by omega)
       have hls : F89 (gD ds (k - 1), gD ds k) = some (ltD (gD ds (k - 1)) (gD ds k)) := F89_eq _ _
       rw [if_pos (decide_eq_true (by omega)), T.run_test, w2, if_pos (decide_eq_true (by omega)), T.run_sub, Int.toNat_natCast, g1, Option.bind_some, T.run_sub, hls, Option.bind_some, T.run_test, decide_eq_true hk0]
       cases ltD (gD ds (k - 1)) (gD ds k) with
       | false => rfl
       | true =>
        rw [if_neg (by simp), T.run_test, if_pos (decide_eq_true (by omega)), T.run_test, if_pos (decide_eq_true (by omega)), T.run_sub, tw, hcr, Option.bind_some, T.run_test, ← w1]
        cases (ds.take k).any (crossD (gD ds k)) <;> rfl
      ·rw [if_neg (by rw [decide_eq_true_eq]; omega), T.run_test, if_pos (decide_eq_true (by omega)), T.run_test, if_pos (decide_eq_true (by omega)), T.run_sub, tw, hcr, Option.bind_some, T.run_test, decide_eq_false hk0, ← w1]
       cases (ds.take k).any (crossD (gD ds k)) <;> rfl)
    (by rw [F90_L4_step, T.run_test, if_neg (by simp), T.run_ret])
   simp only [Int.natCast_zero] at h
   rw [if_neg (by simp [he]), T.run_sub, F90_L4, h, Option.bind_some, T.run_test, decide_eq_true he]
   cases (List.range ds.length).any (badT n ds) <;> rfl
  ·rw [if_pos (by simp [he]), T.run_ret, decide_eq_false he]
   rfl
def F67_sh : FSh := ⟨[(.one (.pf 0 0 0)), (.one (.si .i64))], [(.rcd 0 [(.sl (.int .u8) false true), (.si .i64), (.si .u64)])]⟩
def F67_fo : List FO := [⟨[(.one .sb)], [(.rcd 0 [(.sl (.int .u8) false true), (.si .i64), (.si .u64)])]⟩]
noncomputable def F67_t : ((Unit × Int) × (List (Int) × Int × Int)) → T (Bool × (List (Int) × Int × Int)) := fun (((), n), (c_0, c_1, c_2)) =>
 (.sub (F56 (((), n), (c_0, (c_1, c_2)))) fun z0 =>
 (.ret ((z0.1 == 0), (z0.2.1, (z0.2.2.1, z0.2.2.2)))))
noncomputable def F67 (v) := (F67_t v).run
noncomputable def F67_E : TEnv := (E0.add1 n_F56 F56_sh F56_fo F56)
theorem F67_Eok : (F67_E).OK := (E0ok.add1 F56_ok)
noncomputable def F67_told : Nat → Option SealT := fun id => none
theorem F67_ok : FOK Tryz.prog n_F67 F67_sh F67_fo F67 :=
 fn_ok (E := F67_E) (F67_Eok) (told := F67_told) (fl := []) (c := bodyOf fn_F67) (s := F67_sh) (l := F67_fo) (tree := F67_t) fnat_F67 (by kernel_rfl) (by kernel_rfl) (by kernel_rfl) (loopsOK_of (ls := []) (by kernel_rfl) trivial) (fun v => by kernel_rfl)
def curOK (k : Int) (c : List Int × Int × Int) : Prop := (∀ x ∈ c.1, 0 ≤ x ∧ x ≤ 255) ∧ 0 ≤ c.2.1 ∧ c.2.1 ≤ k
theorem curOK.mono {k m : Int} {c : List Int × Int × Int} (h : curOK k c) (hk : k ≤ m) : curOK m c := ⟨h.1, h.2.1, Int.le_trans h.2.2 hk⟩
theorem wu64_id {z : Int} (h1 : 0 ≤ z) (h2 : z ≤ 18446744073709551615) : wu64 z = z := by
 simp [wu64, IntKind.wrap, IntKind.bits, IntKind.signed]; omega
theorem mask_ok (n : Nat) : 0 ≤ w64 (wu64 ((n &&& 255 : Nat) : Int)) ∧ w64 (wu64 ((n &&& 255 : Nat) : Int)) ≤ 255 := by
 have h : n &&& 255 ≤ 255 := Nat.and_le_right
 generalize n &&& 255 = m at h
 rw [wu64_id (by omega) (by omega), w64_id (by omega) (by omega)]
 omega
theorem next_ok {k : Int} {c : List Int × Int × Int} (h : curOK k c) (hk : k < 1000000000000000) : ∃ v c', F55 ((), c) = some (v, c') ∧ (0 ≤ v ∧ v ≤ 255) ∧ curOK (k + 1) c' := by
 obtain ⟨c0, c1, c2⟩ := c
 obtain ⟨h1, h2, h3⟩ := h
 simp only at h1 h2 h3
 have w1 : w64 (c1 + 1) = c1 + 1 := w64_id (by omega) (by omega)
 rw [F55, F55_t]
 by_cases a : c1 < (c0.length : Int)
 ·have hlt : c1.toNat < c0.length := by omega
  have hx := h1 c0[c1.toNat] (List.getElem_mem hlt)
  rw [T.run_test, if_pos (decide_eq_true a), T.run_test, if_pos (decide_eq_true (by omega)), T.run_sub, List.getElem?_eq_getElem hlt, Option.bind_some, T.run_test, if_pos (decide_eq_true (by rw [w1]; omega)), T.run_ret, w1]
  have w2 : w64 c0[c1.toNat] = c0[c1.toNat] := w64_id (by omega) (by omega)
  refine ⟨_, _, rfl, by rw [w2]; exact hx, h1, ?_, ?_⟩
  ·show 0 ≤ c1 + 1; omega
  ·show c1 + 1 ≤ k + 1; omega
 ·rw [T.run_test, if_neg (by rw [decide_eq_true_eq]; exact a), T.run_test, if_neg (by rw [decide_eq_true_eq, w1]; omega), T.run_ret, w1]
  refine ⟨_, _, rfl, mask_ok _, h1, ?_, ?_⟩
  ·show 0 ≤ c1 + 1; omega
  ·show c1 + 1 ≤ k + 1; omega
theorem pick_ok {k : Int} {c : List Int × Int × Int} (n : Int) (h : curOK k c) (hk : k < 100000000000000) : ∃ v c', F56 (((), n), c) = some (v, c') ∧ 0 ≤ v ∧ (1 ≤ n → v < n) ∧ (n ≤ 1 → v = 0) ∧ curOK (k + 2) c' := by
 obtain ⟨c0, c1, c2⟩ := c
 rw [F56, F56_t]
 by_cases a : n ≤ 1
 ·rw [T.run_test, if_pos (decide_eq_true a), T.run_ret]
  exact ⟨0, _, rfl, Int.le_refl _, fun h => by omega, fun _ => rfl, h.mono (by omega)⟩
 ·obtain ⟨v, ⟨d0, d1, d2⟩, e, hv, hc⟩ := next_ok h (by omega)
  rw [T.run_test, if_neg (by rw [decide_eq_true_eq]; exact a), T.run_sub, e, Option.bind_some, T.run_test]
  by_cases b : n > 200
  ·obtain ⟨u, ⟨f0, f1, f2⟩, e2, hu, hc2⟩ := next_ok hc (by omega)
   rw [if_pos (decide_eq_true b), T.run_sub, e2, Option.bind_some, T.run_test, if_pos (decide_eq_true (by omega)), T.run_ret]
   have w : w64 (w64 (v * 256) + u) = v * 256 + u := by rw [w64_id (z := v * 256) (by omega) (by omega), w64_id (by omega) (by omega)]
   refine ⟨_, _, rfl, ?_, fun _ => ?_, fun h => absurd h a, hc2.mono (by omega)⟩
   ·rw [w]; exact Int.tmod_nonneg _ (by omega)
   ·rw [w]; exact Int.tmod_lt_of_pos _ (by omega)
  ·rw [if_neg (by rw [decide_eq_true_eq]; exact b), T.run_test, if_pos (decide_eq_true (by omega)), T.run_ret]
   exact ⟨_, _, rfl, Int.tmod_nonneg _ (by omega), fun _ => Int.tmod_lt_of_pos _ (by omega), fun h => absurd h a, hc.mono (by omega)⟩
theorem among_ok {k : Int} {c : List Int × Int × Int} (l : List Int) (h : curOK k c) (hk : k < 100000000000000) (hl : 1 ≤ l.length) : ∃ v c', F46 (((), l), c) = some (v, c') ∧ v ∈ l ∧ curOK (k + 2) c' := by
 obtain ⟨c0, c1, c2⟩ := c
 obtain ⟨v, ⟨d0, d1, d2⟩, e, h0, h1, _, hc⟩ := pick_ok (l.length : Int) h hk
 have h1 := h1 (by omega)
 have hlt : v.toNat < l.length := by omega
 rw [F46, F46_t, T.run_sub, e, Option.bind_some, T.run_test, if_pos (decide_eq_true (by omega)), T.run_sub, List.getElem?_eq_getElem hlt, Option.bind_some, T.run_ret]
 exact ⟨_, _, rfl, List.getElem_mem hlt, hc⟩
theorem one_ok {k : Int} {c : List Int × Int × Int} (n : Int) (h : curOK k c) (hk : k < 100000000000000) : ∃ v c', F67 (((), n), c) = some (v, c') ∧ curOK (k + 2) c' := by
 obtain ⟨c0, c1, c2⟩ := c
 obtain ⟨v, ⟨d0, d1, d2⟩, e, _, _, _, hc⟩ := pick_ok n h hk
 rw [F67, F67_t, T.run_sub, e, Option.bind_some, T.run_ret]
 exact ⟨_, _, rfl, hc⟩
def bytesOK (code : List Int) : Prop := ∀ x ∈ code, 0 ≤ x ∧ x ≤ 255
theorem cur0 {code : List Int} (h : bytesOK code) : curOK 0 (code, ((0 : Int), (0 : Int))) := ⟨h, Int.le_refl _, Int.le_refl _⟩
theorem win_len {α : Type} (xs : List α) (o n : Nat) (h : o + n ≤ xs.length) : (win xs o n).length = n := by unfold win; rw [List.length_take, List.length_drop]; omega
theorem sureQ_loop (n : Int) (hn : n ≤ 20) : ∀ (m : Nat) (K : Int) (c : List Int × Int × Int) (out : List Int), curOK K c → K + 2 * (m : Int) < 10000000000 → 3 ≤ out.length → out.length ≤ 20 → 20 ≤ out.length + m →
  ∃ c' out', F22_L2 (((), (n, ())), (c, out)) = some ((), (c', out')) ∧ 3 ≤ out'.length ∧ out'.length ≤ 20 ∧ curOK (K + 2 * (m : Int)) c' := by
 intro m
 induction m with
 | zero =>
  intro K c out h hK h3 h20 hm
  obtain ⟨c0, c1, c2⟩ := c
  have c9 : ¬ ((out.length : Int) < n) := by omega
  refine ⟨_, out, ?_, h3, h20, h.mono (by omega)⟩
  simp only [F22_L2]
  exact loopO_done (by simp [F22_L2_step, T.run, c9])
 | succ m ih =>
  intro K c out h hK h3 h20 hm
  obtain ⟨c0, c1, c2⟩ := c
  by_cases c9 : (out.length : Int) < n
  ·obtain ⟨v, ⟨d0, d1, d2⟩, e, h0, h1, h2, hc⟩ := pick_ok (out.length : Int) h (by omega)
   have h1 := h1 (by omega)
   obtain ⟨v, rfl⟩ := Int.eq_ofNat_of_zero_le h0
   have w1 : w64 (1 + (v : Int)) = ((v + 1 : Nat) : Int) := by rw [w64_id (by omega) (by omega)]; omega
   have w2 : w64 (((v + 1 : Nat) : Int) - 1) = (v : Int) := by rw [w64_id (by omega) (by omega)]; omega
   have w3 : w64 (((v + 1 : Nat) : Int) + 1) = ((v + 2 : Nat) : Int) := by rw [w64_id (by omega) (by omega)]; omega
   have hv : v < out.length := by omega
   have l1 : (win out 0 (v + 1)).length = v + 1 := win_len _ _ _ (by omega)
   have l2 : (win out (v + 1) (out.length - (v + 1))).length = out.length - (v + 1) := win_len _ _ _ (by omega)
   have ow := F101_eq (win out 0 (v + 1)) (by omega)
   obtain ⟨W1, hW1⟩ : ∃ W, W = win out 0 (v + 1) := ⟨_, rfl⟩
   obtain ⟨W2, hW2⟩ : ∃ W, W = win out (v + 1) (out.length - (v + 1)) := ⟨_, rfl⟩
   rw [← hW1] at l1 ow
   rw [← hW2] at l2
   have hw : win (W1 ++ [1]) 0 (v + 1 + 1) = W1 ++ [1] := by
    have := win_all (W1 ++ [(1 : Int)])
    rwa [List.length_append, l1] at this
   have hwa : win W1 0 (v + 1) = W1 := by have := win_all W1; rwa [l1] at this
   obtain ⟨L, hL⟩ : ∃ L, L = (W1 ++ [1]) ++ W2 := ⟨_, rfl⟩
   have hLl : L.length = v + 1 + 1 + (out.length - (v + 1)) := by rw [hL]; simp [l1, l2]; omega
   have t1 : Int.tmod ((v + 2 : Nat) : Int) ((v + 1 + 1 + (out.length - (v + 1)) : Nat) : Int) = (((v + 2) % (v + 1 + 1 + (out.length - (v + 1))) : Nat) : Int) := by
    rw [Int.tmod_eq_emod_of_nonneg (by omega)]
    rfl
   have t2 : (v + 2) % (v + 1 + 1 + (out.length - (v + 1))) < v + 1 + 1 + (out.length - (v + 1)) := Nat.mod_lt _ (by omega)
   generalize hq : (v + 2) % (v + 1 + 1 + (out.length - (v + 1))) = q at t1 t2
   have g1 : L[v]? = some (L[v]'(by omega)) := List.getElem?_eq_getElem _
   obtain ⟨x, hx⟩ : ∃ x, L[v]? = some x := ⟨_, g1⟩
   obtain ⟨y, hy⟩ : ∃ y, (L.set v (w64 (x + 1)))[q]? = some y := ⟨_, List.getElem?_eq_getElem (by rw [List.length_set]; omega)⟩
   obtain ⟨c', out', e2, r1, r2, r3⟩ := ih (K + 2) (d0, d1, d2) ((L.set v (w64 (x + 1))).set q (w64 (y + 1))) hc (by omega) (by simp only [List.length_set]; omega) (by simp only [List.length_set]; omega) (by simp only [List.length_set]; omega)
   refine ⟨c', out', ?_, r1, r2, r3.mono (by omega)⟩
   simp only [F22_L2] at e2 ⊢
   rw [← e2]
   refine loopO_next ?_
   have a1 : (0 : Int) ≤ ((v + 1 : Nat) : Int) := by omega
   have a2 : 0 ≤ v + 1 ∧ v + 1 ≤ out.length := by omega
   have a3 : 0 + (v + 1 - 0) ≤ out.length := by omega
   have a4 : 2 * ((v + 1 + 1) * 9) ≤ 140737488355328 := by omega
   have a5 : v + 1 ≤ out.length ∧ out.length ≤ out.length := by omega
   have a6 : 0 + (v + 1) + (out.length - (v + 1)) ≤ out.length := by omega
   have a7 : 2 * ((v + 1 + 1 + (out.length - (v + 1))) * 9) ≤ 140737488355328 := by omega
   have a8 : (0 : Int) ≤ (v : Int) ∧ (v : Int) < ((v + 1 + 1 + (out.length - (v + 1)) : Nat) : Int) := by omega
   have a9 : ((v + 1 + 1 + (out.length - (v + 1)) : Nat) : Int) ≠ 0 := by omega
   have a10 : (0 : Int) ≤ (q : Int) ∧ (q : Int) < ((v + 1 + 1 + (out.length - (v + 1)) : Nat) : Int) := by omega
   rw [F22_L2_step, T.run_test, if_pos (decide_eq_true c9), T.run_sub, e, Option.bind_some]
   simp only [w1, Int.toNat_natCast, Nat.sub_zero, Nat.zero_add, ← hW1, ← hW2]
   rw [T.run_test, if_pos (decide_eq_true a1), T.run_test, if_pos (decide_eq_true a2), T.run_test, if_pos (decide_eq_true (by omega)), T.run_sub, ow, Option.bind_some]
   simp only [l1, l2, hwa, win_one, hw, w2, w3, Int.toNat_natCast, ← hL, List.length_append, List.length_singleton]
   have e0 : (((v + 1 : Nat) : Int) + 1 + ((out.length - (v + 1) : Nat) : Int)) = ((v + 1 + 1 + (out.length - (v + 1)) : Nat) : Int) := by push_cast; omega
   simp only [e0, t1, Int.toNat_natCast, List.length_set, hLl]
   rw [T.run_test, if_pos (by first | rfl | exact decide_eq_true (by omega))]
   rw [T.run_test, if_pos (by first | rfl | exact decide_eq_true (by omega))]
   rw [T.run_test, if_pos (by first | rfl | exact decide_eq_true (by omega))]
   rw [T.run_test, if_pos (by first | rfl | exact decide_eq_true (by omega))]
   rw [T.run_test, if_pos (by first | rfl | exact decide_eq_true (by omega))]
   rw [T.run_test, if_pos (by first | rfl | exact decide_eq_true (by omega))]
   rw [T.run_test, if_pos (by first | rfl | exact decide_eq_true (by omega))]
   rw [T.run_test, if_pos (by first | rfl | exact decide_eq_true (by omega))]
   rw [T.run_test, if_pos (by first | rfl | exact decide_eq_true (by omega))]
   rw [T.run_sub, hx, Option.bind_some]
   rw [T.run_test, if_pos (by first | rfl | exact decide_eq_true (by omega))]
   rw [T.run_sub, Option.bind_some]
   rw [T.run_test, if_pos (by first | rfl | exact decide_eq_true (by omega))]
   rw [T.run_test, if_pos (by first | rfl | exact decide_eq_true (by omega))]
   rw [T.run_sub, hy, Option.bind_some]
   rw [T.run_test, if_pos (by first | rfl | exact decide_eq_true (by omega))]
   rw [T.run_sub, Option.bind_some]
   rw [T.run_test, if_pos (by simp)]
   rfl
  ·refine ⟨_, out, ?_, h3, h20, h.mono (by omega)⟩
   simp only [F22_L2]
   exact loopO_done (by simp [F22_L2_step, T.run, c9])
theorem sureQ_ok {K : Int} {c : List Int × Int × Int} (n : Int) (hn : n ≤ 20) (h : curOK K c) (hK : K < 1000000000) :
  ∃ c' out', F22 (((), n), c) = some ((), (c', out')) ∧ 3 ≤ out'.length ∧ out'.length ≤ 20 ∧ curOK (K + 40) c' := by
 obtain ⟨c0, c1, c2⟩ := c
 obtain ⟨⟨d0, d1, d2⟩, out', e, h1, h2, h3⟩ := sureQ_loop n hn 17 K (c0, c1, c2) [1, 1, 1] h (by omega) (by simp) (by simp) (by simp)
 refine ⟨(d0, d1, d2), out', ?_, h1, h2, h3.mono (by omega)⟩
 rw [F22, F22_t, T.run_test, if_pos (by simp), T.run_sub, show (List.set (List.set (List.set (List.replicate 3 (0 : Int)) 0 (1 : Int)) 1 (1 : Int)) 2 (1 : Int)) = [1, 1, 1] from rfl, e, Option.bind_some, T.run_test, if_pos (by simp), T.run_ret]
theorem polygon_ok {K : Int} {c : List Int × Int × Int} (N : Int) (hN : 3 ≤ N ∧ N ≤ 12) (h : curOK K c) (hK : K < 100000000) :
  ∃ n ds c', F38 (((), N), c) = some ((n, ()), (c', ds)) ∧ ds.length ≤ 20 ∧ curOK (K + 60) c' := by
 obtain ⟨c0, c1, c2⟩ := c
 obtain ⟨v, d, e, h0, h1, _, hc⟩ := pick_ok (N - 2) h (by omega)
 have h1 := h1 (by omega)
 have w0 : w64 (N - 2) = N - 2 := w64_id (by omega) (by omega)
 have w1 : w64 (3 + v) = 3 + v := w64_id (by omega) (by omega)
 have w2 : w64 (3 + v + 1) = 3 + v + 1 := w64_id (by omega) (by omega)
 obtain ⟨a, out, e2, g1, g2, hc2⟩ := sureQ_ok (3 + v) (by omega) hc (by omega)
 obtain ⟨r, hr, ep, hds⟩ := F120_eq out (by omega)
 obtain ⟨u, b, e3, u0, u1, _, hc3⟩ := pick_ok 16 hc2 (by omega)
 obtain ⟨z, hz, hzl⟩ : ∃ z : (Unit × Bool) × List Dg, F120 out = some z ∧ z.2.length ≤ 9 := by
  refine ⟨_, ep, ?_⟩
  cases ht : trOf out with
  | none => exact hr
  | some ds => exact hds (by rw [ht]; rfl) ds ht
 obtain ⟨zb, ds⟩ := z
 simp only at hzl
 rw [F38, F38_t, T.run_sub, w0, e, Option.bind_some, T.run_sub, w1, e2, Option.bind_some]
 simp only [win_all]
 rw [T.run_test, if_pos (by simp), T.run_sub, hz, Option.bind_some, T.run_sub, e3, Option.bind_some, T.run_test]
 dsimp only
 by_cases c0 : (u == 0) = true
 ·rw [if_pos c0, T.run_test]
  by_cases hd : (ds.length : Int) > 0
  ·obtain ⟨x, f, e4, x0, x1, _, hc4⟩ := pick_ok (ds.length : Int) hc3 (by omega)
   have x1 := x1 (by omega)
   obtain ⟨y, g, e5, _, hc5⟩ := among_ok [-1, 0, 1] hc4 (by omega) (by simp)
   obtain ⟨y2, g2, e6, _, hc6⟩ := among_ok [1, 2, 3, 3 + v, 4611686018427387904] hc5 (by omega) (by simp)
   have hlt : x.toNat < ds.length := by omega
   rw [if_pos (decide_eq_true hd), T.run_sub, e4, Option.bind_some, T.run_test, if_pos rfl, T.run_sub, e5, Option.bind_some, T.run_test, if_pos (by simp), T.run_sub, e6, Option.bind_some, T.run_test, if_pos (decide_eq_true ⟨x0, x1⟩), T.run_sub, Nat.zero_add, List.getElem?_eq_getElem hlt, Option.bind_some, T.run_test, if_pos (by simp), T.run_ret]
   exact ⟨_, _, _, rfl, by rw [List.length_set]; omega, hc6.mono (by omega)⟩
  ·rw [if_neg (by rw [decide_eq_true_eq]; exact hd), T.run_test, if_pos (by simp), T.run_ret]
   exact ⟨_, _, _, rfl, by omega, hc3.mono (by omega)⟩
 rw [if_neg c0, T.run_test]
 by_cases c1 : (u == 1) = true
 ·obtain ⟨y, g, e5, _, hc5⟩ := among_ok [-1, 2, 3 + v + 1, 4611686018427387904] hc3 (by omega) (by simp)
  rw [if_pos c1, T.run_test, if_pos (by simp), T.run_sub, w2, e5, Option.bind_some, T.run_test, if_pos (by simp), T.run_ret]
  exact ⟨_, _, _, rfl, by omega, hc5.mono (by omega)⟩
 rw [if_neg c1, T.run_test]
 by_cases c2 : (u == 2) = true
 ·rw [if_pos c2, T.run_test, if_pos rfl, T.run_test, if_pos (by simp), T.run_test, if_pos (decide_eq_true (by omega)), T.run_test, if_pos (by simp), T.run_ret]
  exact ⟨_, _, _, rfl, by rw [List.length_append, List.length_singleton]; omega, hc3.mono (by omega)⟩
 rw [if_neg c2, T.run_test, if_pos (by simp), T.run_ret]
 exact ⟨_, _, _, rfl, by omega, hc3.mono (by omega)⟩
def F68_sh : FSh := ⟨[(.one (.pf 0 0 0)), (.one (.si .i64))], [(.rcd 0 [(.sl (.int .u8) false true), (.si .i64), (.si .u64)])]⟩
def F68_L6_sh : LSh := ⟨(fun ex => match ex with | .norm => [(0, none), (6, none), (8, none), (23, none), (24, none), (25, none)] | .exit i => if i = 0 then [(6, none), (8, none)] else [] | .ret => [(4, none), (5, none)]), [(0, (.one (.pf 0 0 0))), (6, (.one (.si .i64))), (8, (.one (.rw 1 0))), (23, (.one (.rw 2 0))), (24, (.one (.si .i64))), (25, (.one (.si .i64)))], [(.rcd 0 [(.sl (.int .u8) false true), (.si .i64), (.si .u64)]), (.row 0 (.pair (.int .i64) (.int .i64))), (.row 0 (.pair (.int .i64) (.int .i64)))], [⟨(.exit 0), [(6, (.one (.si .i64))), (8, (.one (.rw 1 0)))], [(.rcd 0 [(.sl (.int .u8) false true), (.si .i64), (.si .u64)]), (.row 0 (.pair (.int .i64) (.int .i64)))]⟩], [], []⟩
noncomputable def F68_L6_step : ((Unit × Int × Unit × Unit × Int × Int) × ((List (Int) × Int × Int) × List ((Int × Int)) × List ((Int × Int)))) → T (((Unit × Int × Unit × Unit × Int × Int) × ((List (Int) × Int × Int) × List ((Int × Int)) × List ((Int × Int)))) ⊕ ((Int × Unit) × ((List (Int) × Int × Int) × List ((Int × Int))))) := fun (((), n, (), (), t24, t25), ((c_0, c_1, c_2), out, t23)) =>
 (.test (decide (t25 < t24))
 (.test (decide ((0 ≤ t25) ∧ (t25 < (t23.length : Int))))
 (.sub (t23[(0 + (Int.toNat t25))]?) fun z0 =>
 (.sub (F67 (((), (2 : Int)), (c_0, (c_1, c_2)))) fun z1 =>
 (.test (! z1.1)
 (.test (decide (1 ≤ 1))
 (.test (decide ((0 + out.length) ≤ out.length))
 (.test (decide ((2 * ((out.length + 1) * 17)) ≤ 140737488355328))
 (.test (decide ((0 = 0) ∧ ((out.length + 1) = (List.length ((win out 0 out.length) ++ [z0])))))
 (.test (decide ((0 = 0) ∧ (t23.length = t23.length)))
 (.ret (Sum.inl (((), (n, ((), ((), (t24, (w64 (t25 + 1))))))), (z1.2, (((win out 0 out.length) ++ [z0]), t23)))))
 .fail)
 .fail)
 .fail)
 .fail)
 .fail)
 (.test (decide ((0 = 0) ∧ (out.length = out.length)))
 (.test (decide ((0 = 0) ∧ (t23.length = t23.length)))
 (.ret (Sum.inl (((), (n, ((), ((), (t24, (w64 (t25 + 1))))))), (z1.2, (out, t23)))))
 .fail)
 .fail))))
 .fail)
 (.test (decide ((0 = 0) ∧ (out.length = out.length)))
 (.ret (Sum.inr ((n, ()), ((c_0, (c_1, c_2)), out))))
 .fail))
noncomputable def F68_L6 (v) := loopO (fun v => (F68_L6_step v).run) v
def F68_fo : List FO := [⟨[(.one (.si .i64)), (.one (.rw 1 0))], [(.rcd 0 [(.sl (.int .u8) false true), (.si .i64), (.si .u64)]), (.row 0 (.pair (.int .i64) (.int .i64)))]⟩]
noncomputable def F68_t : ((Unit × Int) × (List (Int) × Int × Int)) → T ((Int × Unit) × ((List (Int) × Int × Int) × List ((Int × Int)))) := fun (((), most), (c_0, c_1, c_2)) =>
 (.sub (F38 (((), most), (c_0, (c_1, c_2)))) fun z0 =>
 (.test (decide ((0 + z0.2.2.length) ≤ z0.2.2.length))
 (.sub (F90 (z0.1.1, (win z0.2.2 0 z0.2.2.length))) fun z1 =>
 (.test (! z1)
 (.test (decide ((0 = 0) ∧ (z0.2.2.length = z0.2.2.length)))
 (.ret ((z0.1.1, ()), z0.2))
 .fail)
 (.test (decide ((0 = 0) ∧ (0 = (List.length ([] : List (Int × Int))))))
 (.test (decide ((0 = 0) ∧ (z0.2.2.length = z0.2.2.length)))
 (.sub (F68_L6 (((), (z0.1.1, ((), ((), ((z0.2.2.length : Int), (0 : Int)))))), (z0.2.1, (([] : List (Int × Int)), z0.2.2)))) fun z2 =>
 (.test (decide ((0 = 0) ∧ (z2.2.2.length = z2.2.2.length)))
 (.ret ((z2.1.1, ()), z2.2))
 .fail))
 .fail)
 .fail)))
 .fail))
noncomputable def F68 (v) := (F68_t v).run
noncomputable def F68_E : TEnv := (((E0.add1 n_F38 F38_sh F38_fo F38).add1 n_F90 F90_sh F90_fo F90).add1 n_F67 F67_sh F67_fo F67)
theorem F68_Eok : (F68_E).OK := (((E0ok.add1 F38_ok).add1 F90_ok).add1 F67_ok)
noncomputable def F68_told : Nat → Option SealT := fun id => if id = 6 then some (LSh.told F68_L6_sh 1 (F68_L6_step)) else none
theorem F68_L6_ok : ToldOK Tryz.prog 1 (loopAt (bodyOf fn_F68) [0]) (LSh.told F68_L6_sh 1 (F68_L6_step)) :=
 loop_ok (E := F68_E) (F68_Eok) (told := F68_told) (l := F68_L6_sh) (step := F68_L6_step) (loopsOK_of (ls := []) (by kernel_rfl) trivial) (by kernel_rfl) (fun v => by kernel_rfl)
theorem F68_ok : FOK Tryz.prog n_F68 F68_sh F68_fo F68 :=
 fn_ok (E := F68_E) (F68_Eok) (told := F68_told) (fl := []) (c := bodyOf fn_F68) (s := F68_sh) (l := F68_fo) (tree := F68_t) fnat_F68 (by kernel_rfl) (by kernel_rfl) (by kernel_rfl) (loopsOK_of (ls := [loopAt (bodyOf fn_F68) [0]]) (by kernel_rfl) ⟨.inr ⟨_, by kernel_rfl, F68_L6_ok⟩, trivial⟩) (fun v => by kernel_rfl)
theorem cut_loop {n : Int} (xs : List Dg) (hx : xs.length ≤ 20) : ∀ (m k : Nat) (K : Int) (c : List Int × Int × Int) (out : List Dg), k + m = xs.length → curOK K c → K + 2 * (m : Int) < 100000000 → out.length ≤ k →
  ∃ c' r, F68_L6 (((), (n, ((), ((), ((xs.length : Int), (k : Int)))))), (c, (out, xs))) = some ((n, ()), (c', r)) ∧ r.length ≤ 20 ∧ curOK (K + 2 * (m : Int)) c'
 | 0, k, K, c, out, hk, hc, hK, ho => by
  obtain ⟨c0, c1, c2⟩ := c
  refine ⟨(c0, c1, c2), out, loopO_done ?_, by omega, hc.mono (by omega)⟩
  rw [F68_L6_step, T.run_test, if_neg (by rw [decide_eq_true_eq]; omega), T.run_test, if_pos (by simp), T.run_ret]
 | m + 1, k, K, c, out, hk, hc, hK, ho => by
  obtain ⟨c0, c1, c2⟩ := c
  have hlt : 0 + k < xs.length := by omega
  have w1 : w64 ((k : Int) + 1) = ((k + 1 : Nat) : Int) := by rw [w64_id (by omega) (by omega)]; omega
  obtain ⟨b, d, e, hc2⟩ := one_ok 2 hc (by omega)
  by_cases hb : (!b) = true
  ·obtain ⟨c', r, e2, h2, h3⟩ := cut_loop xs hx m (k + 1) (K + 2) d (out ++ [xs[0 + k]]) (by omega) hc2 (by omega) (by rw [List.length_append, List.length_singleton]; omega)
   refine ⟨c', r, ?_, h2, h3.mono (by omega)⟩
   rw [← e2]
   refine loopO_next ?_
   rw [F68_L6_step, T.run_test, if_pos (decide_eq_true (by omega)), T.run_test, if_pos (decide_eq_true (by omega)), T.run_sub, Int.toNat_natCast, List.getElem?_eq_getElem hlt, Option.bind_some, T.run_sub, e, Option.bind_some, T.run_test, if_pos hb, T.run_test, if_pos (by rfl), T.run_test, if_pos (by simp), T.run_test, if_pos (decide_eq_true (by omega)), T.run_test, if_pos (by simp [win_all]), T.run_test, if_pos (by simp), T.run_ret, w1, win_all]
  ·obtain ⟨c', r, e2, h2, h3⟩ := cut_loop xs hx m (k + 1) (K + 2) d out (by omega) hc2 (by omega) (by omega)
   refine ⟨c', r, ?_, h2, h3.mono (by omega)⟩
   rw [← e2]
   refine loopO_next ?_
   rw [F68_L6_step, T.run_test, if_pos (decide_eq_true (by omega)), T.run_test, if_pos (decide_eq_true (by omega)), T.run_sub, Int.toNat_natCast, List.getElem?_eq_getElem hlt, Option.bind_some, T.run_sub, e, Option.bind_some, T.run_test, if_neg hb, T.run_test, if_pos (by simp), T.run_test, if_pos (by simp), T.run_ret, w1]
theorem cut_some {K : Int} {c : List Int × Int × Int} (N : Int) (hN : 3 ≤ N ∧ N ≤ 12) (h : curOK K c) (hK : K < 1000000) :
  ∃ n ds c', F68 (((), N), c) = some ((n, ()), (c', ds)) ∧ ds.length ≤ 20 ∧ curOK (K + 100) c' := by
 obtain ⟨c0, c1, c2⟩ := c
 obtain ⟨n, ds, c', e, hl, hc⟩ := polygon_ok N hN h (by omega)
 rw [F68, F68_t, T.run_sub, e, Option.bind_some, T.run_test, if_pos (by simp), T.run_sub]
 dsimp only
 rw [win_all, F90_eq n ds (by omega), Option.bind_some, T.run_test]
 by_cases c : isTri n ds = true
 ·obtain ⟨c'', r, e2, h2, h3⟩ := cut_loop (n := n) ds hl ds.length 0 (K + 60) c' [] (by omega) hc (by omega) (by simp)
  rw [if_neg (by rw [c]; decide), T.run_test, if_pos (by simp), T.run_test, if_pos (by simp), T.run_sub]
  have e2' : F68_L6 (((), (n, ((), ((), ((ds.length : Int), (0 : Int)))))), (c', (([] : List (Int × Int)), ds))) = _ := e2
  rw [e2', Option.bind_some, T.run_test, if_pos (by simp), T.run_ret]
  exact ⟨_, _, _, rfl, h2, h3.mono (by omega)⟩
 ·rw [if_pos (by simp at c ⊢; exact c), T.run_test, if_pos (by simp), T.run_ret]
  exact ⟨_, _, _, rfl, hl, hc.mono (by omega)⟩
def F69_sh : FSh := ⟨[(.one (.sl (.int .u8) false true))], []⟩
def F69_fo : List FO := [⟨[(.one (.si .i64)), (.one (.rw 0 0))], [(.row 0 (.pair (.int .i64) (.int .i64)))]⟩]
noncomputable def F69_t : List (Int) → T ((Int × Unit) × List ((Int × Int))) := fun code =>
 (.sub (F68 (((), (12 : Int)), (code, ((0 : Int), (0 : Int))))) fun z0 =>
 (.test (decide ((0 = 0) ∧ (z0.2.2.length = z0.2.2.length)))
 (.ret ((z0.1.1, ()), z0.2.2))
 .fail))
noncomputable def F69 (v) := (F69_t v).run
noncomputable def F69_E : TEnv := (E0.add1 n_F68 F68_sh F68_fo F68)
theorem F69_Eok : (F69_E).OK := (E0ok.add1 F68_ok)
noncomputable def F69_told : Nat → Option SealT := fun id => none
theorem F69_ok : FOK Tryz.prog n_F69 F69_sh F69_fo F69 :=
 fn_ok (E := F69_E) (F69_Eok) (told := F69_told) (fl := []) (c := bodyOf fn_F69) (s := F69_sh) (l := F69_fo) (tree := F69_t) fnat_F69 (by kernel_rfl) (by kernel_rfl) (by kernel_rfl) (loopsOK_of (ls := []) (by kernel_rfl) trivial) (fun v => by kernel_rfl)
def F27_sh : FSh := ⟨[(.one (.sl (.int .u8) false true))], []⟩
def F27_fo : List FO := [⟨[(.one (.si .i64)), (.one (.rw 0 0))], [(.row 0 (.pair (.int .i64) (.int .i64)))]⟩]
noncomputable def F27_t : List (Int) → T ((Int × Unit) × List ((Int × Int))) := fun code =>
 (.sub (F69 code) fun z0 =>
 (.test (decide ((0 = 0) ∧ (z0.2.length = z0.2.length)))
 (.ret ((z0.1.1, ()), z0.2))
 .fail))
noncomputable def F27 (v) := (F27_t v).run
noncomputable def F27_E : TEnv := (E0.add1 n_F69 F69_sh F69_fo F69)
theorem F27_Eok : (F27_E).OK := (E0ok.add1 F69_ok)
noncomputable def F27_told : Nat → Option SealT := fun id => none
theorem F27_ok : FOK Tryz.prog n_F27 F27_sh F27_fo F27 :=
 fn_ok (E := F27_E) (F27_Eok) (told := F27_told) (fl := []) (c := bodyOf fn_F27) (s := F27_sh) (l := F27_fo) (tree := F27_t) fnat_F27 (by kernel_rfl) (by kernel_rfl) (by kernel_rfl) (loopsOK_of (ls := []) (by kernel_rfl) trivial) (fun v => by kernel_rfl)
theorem F27_some {code : List Int} (h : bytesOK code) : ∃ n ds, F27 code = some ((n, ()), ds) ∧ ds.length ≤ 20 := by
 obtain ⟨n, ds, c', e, hl, hc⟩ := cut_some 12 (by omega) (cur0 h) (by omega)
 rw [F27, F27_t, T.run_sub, F69, F69_t, T.run_sub, e, Option.bind_some, T.run_test, if_pos (by simp), T.run_ret, Option.bind_some, T.run_test, if_pos (by simp), T.run_ret]
 exact ⟨_, _, rfl, hl⟩
def F92_sh : FSh := ⟨[(.one (.si .i64)), (.one (.si .i64)), (.one (.si .i64))], []⟩
def F92_fo : List FO := [⟨[(.one .sb)], []⟩]
noncomputable def F92_t : (Int × Int × Int) → T Bool := fun (n, low, high) =>
 (.test (decide (n ≥ low))
 (.ret (decide (n ≤ high)))
 (.ret false))
noncomputable def F92 (v) := (F92_t v).run
noncomputable def F92_E : TEnv := E0
theorem F92_Eok : (F92_E).OK := E0ok
noncomputable def F92_told : Nat → Option SealT := fun id => none
theorem F92_ok : FOK Tryz.prog n_F92 F92_sh F92_fo F92 :=
 fn_ok (E := F92_E) (F92_Eok) (told := F92_told) (fl := []) (c := bodyOf fn_F92) (s := F92_sh) (l := F92_fo) (tree := F92_t) fnat_F92 (by kernel_rfl) (by kernel_rfl) (by kernel_rfl) (loopsOK_of (ls := []) (by kernel_rfl) trivial) (fun v => by kernel_rfl)
theorem F92_eq (n low high : Int) : F92 (n, low, high) = some (inB low high n) := by
 simp only [F92, F92_t, T.run, ge_iff_le, decide_eq_true_eq, inB]
 by_cases h : low ≤ n <;> simp [h]
def F70_sh : FSh := ⟨[(.one (.si .i64))], []⟩
def F70_fo : List FO := [⟨[(.one .sb)], []⟩]
noncomputable def F70_t : Int → T Bool := fun n =>
 (.sub (F92 (n, ((3 : Int), (12 : Int)))) fun z0 =>
 (.ret z0))
noncomputable def F70 (v) := (F70_t v).run
noncomputable def F70_E : TEnv := (E0.add1 n_F92 F92_sh F92_fo F92)
theorem F70_Eok : (F70_E).OK := (E0ok.add1 F92_ok)
noncomputable def F70_told : Nat → Option SealT := fun id => none
theorem F70_ok : FOK Tryz.prog n_F70 F70_sh F70_fo F70 :=
 fn_ok (E := F70_E) (F70_Eok) (told := F70_told) (fl := []) (c := bodyOf fn_F70) (s := F70_sh) (l := F70_fo) (tree := F70_t) fnat_F70 (by kernel_rfl) (by kernel_rfl) (by kernel_rfl) (loopsOK_of (ls := []) (by kernel_rfl) trivial) (fun v => by kernel_rfl)
def F58_sh : FSh := ⟨[(.one (.si .i64)), (.ag [(.si .i64), (.si .i64)])], []⟩
def F58_fo : List FO := [⟨[(.one .sb)], []⟩]
noncomputable def F58_t : (Int × (Int × Int)) → T Bool := fun (n, (d_0, d_1)) =>
 (.sub (F92 (d_0, ((0 : Int), (w64 (n - 1))))) fun z0 =>
 (.test z0
 (.sub (F92 (d_1, ((0 : Int), (w64 (n - 1))))) fun z1 =>
 (.test z1
 (.test (decide ((w64 (d_1 - d_0)) > 1))
 (.test (d_0 == 0)
 (.ret (! (d_1 == (w64 (n - 1)))))
 (.ret true))
 (.ret false))
 (.ret false)))
 (.ret false)))
noncomputable def F58 (v) := (F58_t v).run
noncomputable def F58_E : TEnv := (E0.add1 n_F92 F92_sh F92_fo F92)
theorem F58_Eok : (F58_E).OK := (E0ok.add1 F92_ok)
noncomputable def F58_told : Nat → Option SealT := fun id => none
theorem F58_ok : FOK Tryz.prog n_F58 F58_sh F58_fo F58 :=
 fn_ok (E := F58_E) (F58_Eok) (told := F58_told) (fl := []) (c := bodyOf fn_F58) (s := F58_sh) (l := F58_fo) (tree := F58_t) fnat_F58 (by kernel_rfl) (by kernel_rfl) (by kernel_rfl) (loopsOK_of (ls := []) (by kernel_rfl) trivial) (fun v => by kernel_rfl)
theorem F58_eq (n : Int) (d : Dg) (h1 : 0 ≤ n) (h2 : n ≤ 1000000) : F58 (n, d) = some (inDg n d) := by
 obtain ⟨a, b⟩ := d
 have w1 : w64 (n - 1) = n - 1 := w64_id (by omega) (by omega)
 simp only [F58, F58_t, T.run, F92_eq, Option.bind_some, w1, inDg]
 cases ha : inB 0 (n - 1) a with
 | false => simp
 | true =>
  cases hb : inB 0 (n - 1) b with
  | false => simp
  | true =>
   rw [inB_iff] at ha hb
   have w2 : w64 (b - a) = b - a := w64_id (by omega) (by omega)
   rw [w2]
   by_cases h4 : a = 0
   ·subst h4
    rw [Int.sub_zero]
    by_cases h5 : b > 1 <;> simp [h5, beq_int]
   ·by_cases h5 : b - a > 1 <;> simp [h5, h4]
def F47_sh : FSh := ⟨[(.one (.si .i64))], []⟩
def F47_fo : List FO := [⟨[(.one .sb)], []⟩]
noncomputable def F47_t : Int → T Bool := fun x =>
 (.ret (x != x))
noncomputable def F47 (v) := (F47_t v).run
noncomputable def F47_E : TEnv := E0
theorem F47_Eok : (F47_E).OK := E0ok
noncomputable def F47_told : Nat → Option SealT := fun id => none
theorem F47_ok : FOK Tryz.prog n_F47 F47_sh F47_fo F47 :=
 fn_ok (E := F47_E) (F47_Eok) (told := F47_told) (fl := []) (c := bodyOf fn_F47) (s := F47_sh) (l := F47_fo) (tree := F47_t) fnat_F47 (by kernel_rfl) (by kernel_rfl) (by kernel_rfl) (loopsOK_of (ls := []) (by kernel_rfl) trivial) (fun v => by kernel_rfl)
def F39_sh : FSh := ⟨[(.one (.si .i64)), (.one (.si .i64))], []⟩
def F39_fo : List FO := [⟨[(.one (.si .i64))], []⟩]
noncomputable def F39_t : (Int × Int) → T Int := fun (x, y) =>
 (.sub (F47 x) fun z0 =>
 (.sub (F47 y) fun z1 =>
 (.test z0
 (.test z1
 (.ret (0 : Int))
 (.ret (-1)))
 (.test z1
 (.ret (1 : Int))
 (.test (decide (x < y))
 (.ret (-1))
 (.test (decide (x > y))
 (.ret (1 : Int))
 (.ret (0 : Int))))))))
noncomputable def F39 (v) := (F39_t v).run
noncomputable def F39_E : TEnv := (E0.add1 n_F47 F47_sh F47_fo F47)
theorem F39_Eok : (F39_E).OK := (E0ok.add1 F47_ok)
noncomputable def F39_told : Nat → Option SealT := fun id => none
theorem F39_ok : FOK Tryz.prog n_F39 F39_sh F39_fo F39 :=
 fn_ok (E := F39_E) (F39_Eok) (told := F39_told) (fl := []) (c := bodyOf fn_F39) (s := F39_sh) (l := F39_fo) (tree := F39_t) fnat_F39 (by kernel_rfl) (by kernel_rfl) (by kernel_rfl) (loopsOK_of (ls := []) (by kernel_rfl) trivial) (fun v => by kernel_rfl)
theorem F39_eq (a b : Int) : F39 (a, b) = some (if a < b then -1 else if b < a then 1 else 0) := by
 have h : ∀ x, F47 x = some false := fun x => by simp [F47, F47_t, T.run]
 simp only [F39, F39_t, T.run, h, Option.bind_some]
 by_cases h1 : a < b
 ·simp [h1]
 ·by_cases h2 : b < a <;> simp [h1, h2]
def F73_sh : FSh := ⟨[(.one (.sl (.int .i64) false false))], []⟩
def F73_L3_sh : LSh := ⟨(fun ex => match ex with | .norm => [(3, none), (6, none), (7, none), (8, none)] | .exit i => if i = 0 then [(3, none)] else [] | .ret => [(2, none)]), [(3, (.one (.si .i64))), (6, (.one (.sl (.int .i64) false false))), (7, (.one (.si .i64))), (8, (.one (.si .i64)))], [], [⟨.ret, [(2, (.one (.si .i64)))], []⟩, ⟨(.exit 0), [(3, (.one (.si .i64)))], []⟩], [], []⟩
noncomputable def F73_L3_step : (Int × List (Int) × Int × Int) → T ((Int × List (Int) × Int × Int) ⊕ (Int ⊕ Int)) := fun (zero, t6, t7, t8) =>
 (.test (decide (t8 < t7))
 (.test (decide ((0 ≤ t8) ∧ (t8 < (t6.length : Int))))
 (.sub (t6[(Int.toNat t8)]?) fun z0 =>
 (.test (z0 != zero)
 (.ret (Sum.inr (Sum.inl z0)))
 (.ret (Sum.inl (zero, (t6, (t7, (w64 (t8 + 1)))))))))
 .fail)
 (.ret (Sum.inr (Sum.inr zero))))
noncomputable def F73_L3 (v) := loopO (fun v => (F73_L3_step v).run) v
def F73_fo : List FO := [⟨[(.one (.si .i64))], []⟩]
noncomputable def F73_t : List (Int) → T Int := fun vals =>
 (.sub (F73_L3 ((0 : Int), (vals, ((vals.length : Int), (0 : Int))))) fun z0 =>
 (.test (Sum.isLeft z0)
 (.sub (Sum.getLeft? z0) fun z1 =>
 (.ret z1))
 (.sub (Sum.getRight? z0) fun z2 =>
 (.ret z2))))
noncomputable def F73 (v) := (F73_t v).run
noncomputable def F73_E : TEnv := E0
theorem F73_Eok : (F73_E).OK := E0ok
noncomputable def F73_told : Nat → Option SealT := fun id => if id = 3 then some (LSh.told F73_L3_sh 0 (F73_L3_step)) else none
theorem F73_L3_ok : ToldOK Tryz.prog 0 (loopAt (bodyOf fn_F73) [0]) (LSh.told F73_L3_sh 0 (F73_L3_step)) :=
 loop_ok (E := F73_E) (F73_Eok) (told := F73_told) (l := F73_L3_sh) (step := F73_L3_step) (loopsOK_of (ls := []) (by kernel_rfl) trivial) (by kernel_rfl) (fun v => by kernel_rfl)
theorem F73_ok : FOK Tryz.prog n_F73 F73_sh F73_fo F73 :=
 fn_ok (E := F73_E) (F73_Eok) (told := F73_told) (fl := []) (c := bodyOf fn_F73) (s := F73_sh) (l := F73_fo) (tree := F73_t) fnat_F73 (by kernel_rfl) (by kernel_rfl) (by kernel_rfl) (loopsOK_of (ls := [loopAt (bodyOf fn_F73) [0]]) (by kernel_rfl) ⟨.inr ⟨_, by kernel_rfl, F73_L3_ok⟩, trivial⟩) (fun v => by kernel_rfl)
theorem F73_two (a b : Int) : F73 [a, b] = some (if a = 0 then b else a) := by
 simp only [F73, F73_t, T.run, F73_L3]
 rw [loopO_step]
 simp only [F73_L3_step, T.run]
 by_cases ha : a = 0
 ·subst ha
  simp [w64_id (z := 1)]
  rw [loopO_step]
  simp only [F73_L3_step, T.run]
  by_cases hb : b = 0
  ·subst hb
   simp [w64_id (z := 2)]
   rw [loopO_step]
   simp [F73_L3_step, T.run]
  ·simp [hb]
 ·simp [ha]
def F25_sh : FSh := ⟨[(.ag [(.si .i64), (.si .i64)]), (.ag [(.si .i64), (.si .i64)])], []⟩
def F25_fo : List FO := [⟨[(.one (.si .i64))], []⟩]
noncomputable def F25_t : ((Int × Int) × (Int × Int)) → T Int := fun ((a_0, a_1), (b_0, b_1)) =>
 (.sub (F39 (a_0, b_0)) fun z0 =>
 (.sub (F39 (a_1, b_1)) fun z1 =>
 (.test (decide (2 ≤ (List.length (List.set (List.set (List.replicate 2 (0 : Int)) 0 z0) 1 z1))))
 (.sub (F73 (win (List.set (List.set (List.replicate 2 (0 : Int)) 0 z0) 1 z1) 0 2)) fun z2 =>
 (.ret z2))
 .fail)))
noncomputable def F25 (v) := (F25_t v).run
noncomputable def F25_E : TEnv := ((E0.add1 n_F39 F39_sh F39_fo F39).add1 n_F73 F73_sh F73_fo F73)
theorem F25_Eok : (F25_E).OK := ((E0ok.add1 F39_ok).add1 F73_ok)
noncomputable def F25_told : Nat → Option SealT := fun id => none
theorem F25_ok : FOK Tryz.prog n_F25 F25_sh F25_fo F25 :=
 fn_ok (E := F25_E) (F25_Eok) (told := F25_told) (fl := []) (c := bodyOf fn_F25) (s := F25_sh) (l := F25_fo) (tree := F25_t) fnat_F25 (by kernel_rfl) (by kernel_rfl) (by kernel_rfl) (loopsOK_of (ls := []) (by kernel_rfl) trivial) (fun v => by kernel_rfl)
theorem F25_eq (d e : Dg) : F25 (d, e) = some (cmpD d e) := by
 obtain ⟨a, b⟩ := d
 obtain ⟨c, f⟩ := e
 have h2 : win (List.set (List.set (List.replicate 2 (0 : Int)) 0 (if a < c then -1 else if c < a then 1 else 0)) 1 (if b < f then -1 else if f < b then 1 else 0)) 0 2 = [if a < c then -1 else if c < a then 1 else 0, if b < f then -1 else if f < b then 1 else 0] := rfl
 simp only [F25, F25_t, T.run, F39_eq, Option.bind_some, h2, F73_two]
 simp only [List.length_set, List.length_replicate, Nat.le_refl, decide_true, if_true]
 congr 1
 unfold cmpD ltD
 simp only [decide_eq_true_eq]
 split <;> split <;> (try split) <;> (try split) <;> omega
theorem cmpD_lt (d e : Dg) : decide (cmpD d e < 0) = ltD d e := by
 unfold cmpD
 cases ltD d e <;> simp
 split <;> omega
theorem cmpD_ge (d e : Dg) : decide (cmpD d e ≥ 0) = !ltD d e := by
 unfold cmpD
 cases ltD d e <;> simp
 split <;> omega
def F82_sh : FSh := ⟨[(.ag [(.si .i64), (.si .i64)]), (.ag [(.si .i64), (.si .i64)])], []⟩
def F82_fo : List FO := [⟨[(.one .sb)], []⟩]
noncomputable def F82_t : ((Int × Int) × (Int × Int)) → T Bool := fun ((d_0, d_1), (e_0, e_1)) =>
 (.test (decide (d_0 < e_0))
 (.test (decide (e_0 < d_1))
 (.test (decide (d_1 < e_1))
 (.ret true)
 (.test (decide (e_0 < d_0))
 (.test (decide (d_0 < e_1))
 (.ret (decide (e_1 < d_1)))
 (.ret false))
 (.ret false)))
 (.test (decide (e_0 < d_0))
 (.test (decide (d_0 < e_1))
 (.ret (decide (e_1 < d_1)))
 (.ret false))
 (.ret false)))
 (.test (decide (e_0 < d_0))
 (.test (decide (d_0 < e_1))
 (.ret (decide (e_1 < d_1)))
 (.ret false))
 (.ret false)))
noncomputable def F82 (v) := (F82_t v).run
noncomputable def F82_E : TEnv := E0
theorem F82_Eok : (F82_E).OK := E0ok
noncomputable def F82_told : Nat → Option SealT := fun id => none
theorem F82_ok : FOK Tryz.prog n_F82 F82_sh F82_fo F82 :=
 fn_ok (E := F82_E) (F82_Eok) (told := F82_told) (fl := []) (c := bodyOf fn_F82) (s := F82_sh) (l := F82_fo) (tree := F82_t) fnat_F82 (by kernel_rfl) (by kernel_rfl) (by kernel_rfl) (loopsOK_of (ls := []) (by kernel_rfl) trivial) (fun v => by kernel_rfl)
theorem F82_eq (d e : Dg) : F82 (d, e) = some (crossD d e) := by
 obtain ⟨a, b⟩ := d
 obtain ⟨c, f⟩ := e
 simp only [F82, F82_t, T.run, crossD]
 by_cases h1 : a < c <;> by_cases h2 : c < b <;> by_cases h3 : b < f <;> by_cases h4 : c < a <;> by_cases h5 : a < f <;> by_cases h6 : f < b <;> simp [h1, h2, h3, h4, h5, h6]
def F71_sh : FSh := ⟨[(.ag [(.si .i64), (.si .i64)]), (.one (.pf 0 0 0))], [(.rcd 0 [(.si .i64), (.si .i64)])]⟩
def F71_fo : List FO := [⟨[(.one .sb)], [(.rcd 0 [(.si .i64), (.si .i64)])]⟩]
noncomputable def F71_t : (((Int × Int) × Unit) × (Int × Int)) → T (Bool × (Int × Int)) := fun (((e_0, e_1), ()), (t1_0, t1_1)) =>
 (.sub (F82 ((t1_0, t1_1), (e_0, e_1))) fun z0 =>
 (.ret (z0, (t1_0, t1_1))))
noncomputable def F71 (v) := (F71_t v).run
noncomputable def F71_E : TEnv := (E0.add1 n_F82 F82_sh F82_fo F82)
theorem F71_Eok : (F71_E).OK := (E0ok.add1 F82_ok)
noncomputable def F71_told : Nat → Option SealT := fun id => none
theorem F71_ok : FOK Tryz.prog n_F71 F71_sh F71_fo F71 :=
 fn_ok (E := F71_E) (F71_Eok) (told := F71_told) (fl := []) (c := bodyOf fn_F71) (s := F71_sh) (l := F71_fo) (tree := F71_t) fnat_F71 (by kernel_rfl) (by kernel_rfl) (by kernel_rfl) (loopsOK_of (ls := []) (by kernel_rfl) trivial) (fun v => by kernel_rfl)
def F9_sh : FSh := ⟨[(.one (.sl (.pair (.int .i64) (.int .i64)) false false)), (.clo n_F71 [(.one (.pf 0 0 0))])], [(.rcd 0 [(.si .i64), (.si .i64)])]⟩
def F9_L2_sh : LSh := ⟨(fun ex => match ex with | .norm => [(0, none), (1, none), (7, none), (8, none)] | .exit i => if i = 0 then [] else [] | .ret => [(4, none)]), [(0, (.one (.sl (.pair (.int .i64) (.int .i64)) false false))), (1, (.clo n_F71 [(.one (.pf 0 0 0))])), (7, (.one (.si .i64))), (8, (.one (.si .i64)))], [(.rcd 0 [(.si .i64), (.si .i64)])], [⟨.ret, [(4, (.one (.si .i64)))], [(.rcd 0 [(.si .i64), (.si .i64)])]⟩, ⟨(.exit 0), [], [(.rcd 0 [(.si .i64), (.si .i64)])]⟩], [], []⟩
noncomputable def F9_L2_step : ((List ((Int × Int)) × Unit × Int × Int) × (Int × Int)) → T (((List ((Int × Int)) × Unit × Int × Int) × (Int × Int)) ⊕ ((Int × (Int × Int)) ⊕ (Unit × (Int × Int)))) := fun ((s, (), t7, t8), (r0_0, r0_1)) =>
 (.test (decide (t8 < t7))
 (.test (decide ((0 ≤ t8) ∧ (t8 < (s.length : Int))))
 (.sub (s[(Int.toNat t8)]?) fun z0 =>
 (.sub (F71 (((z0.1, z0.2), ()), (r0_0, r0_1))) fun z1 =>
 (.test z1.1
 (.ret (Sum.inr (Sum.inl (t8, (z1.2.1, z1.2.2)))))
 (.ret (Sum.inl ((s, ((), (t7, (w64 (t8 + 1))))), (z1.2.1, z1.2.2)))))))
 .fail)
 (.ret (Sum.inr (Sum.inr ((), (r0_0, r0_1))))))
noncomputable def F9_L2 (v) := loopO (fun v => (F9_L2_step v).run) v
def F9_fo : List FO := [⟨[(.one (.si .i64))], [(.rcd 0 [(.si .i64), (.si .i64)])]⟩]
noncomputable def F9_t : ((List ((Int × Int)) × Unit) × (Int × Int)) → T (Int × (Int × Int)) := fun ((s, ()), (r0_0, r0_1)) =>
 (.sub (F9_L2 ((s, ((), ((s.length : Int), (0 : Int)))), (r0_0, r0_1))) fun z0 =>
 (.test (Sum.isLeft z0)
 (.sub (Sum.getLeft? z0) fun z1 =>
 (.ret (z1.1, (z1.2.1, z1.2.2))))
 (.sub (Sum.getRight? z0) fun z2 =>
 (.ret ((-1), (z2.2.1, z2.2.2))))))
noncomputable def F9 (v) := (F9_t v).run
noncomputable def F9_E : TEnv := (E0.add1 n_F71 F71_sh F71_fo F71)
theorem F9_Eok : (F9_E).OK := (E0ok.add1 F71_ok)
noncomputable def F9_told : Nat → Option SealT := fun id => if id = 2 then some (LSh.told F9_L2_sh 1 (F9_L2_step)) else none
theorem F9_L2_ok : ToldOK Tryz.prog 1 (loopAt (bodyOf fn_F16) [0]) (LSh.told F9_L2_sh 1 (F9_L2_step)) :=
 loop_ok (E := F9_E) (F9_Eok) (told := F9_told) (l := F9_L2_sh) (step := F9_L2_step) (loopsOK_of (ls := []) (by kernel_rfl) trivial) (by kernel_rfl) (fun v => by kernel_rfl)
theorem F9_ok : FOK Tryz.prog n_F16 F9_sh F9_fo F9 :=
 fn_ok (E := F9_E) (F9_Eok) (told := F9_told) (fl := []) (c := bodyOf fn_F16) (s := F9_sh) (l := F9_fo) (tree := F9_t) fnat_F16 (by kernel_rfl) (by kernel_rfl) (by kernel_rfl) (loopsOK_of (ls := [loopAt (bodyOf fn_F16) [0]]) (by kernel_rfl) ⟨.inr ⟨_, by kernel_rfl, F9_L2_ok⟩, trivial⟩) (fun v => by kernel_rfl)
def F7_sh : FSh := ⟨[(.one (.sl (.pair (.int .i64) (.int .i64)) false false)), (.clo n_F71 [(.one (.pf 0 0 0))])], [(.rcd 0 [(.si .i64), (.si .i64)])]⟩
def F7_fo : List FO := [⟨[(.one .sb)], [(.rcd 0 [(.si .i64), (.si .i64)])]⟩]
noncomputable def F7_t : ((List ((Int × Int)) × Unit) × (Int × Int)) → T (Bool × (Int × Int)) := fun ((s, ()), (r0_0, r0_1)) =>
 (.sub (F9 ((s, ()), (r0_0, r0_1))) fun z0 =>
 (.ret ((decide (z0.1 ≥ 0)), (z0.2.1, z0.2.2))))
noncomputable def F7 (v) := (F7_t v).run
noncomputable def F7_E : TEnv := (E0.add1 n_F16 F9_sh F9_fo F9)
theorem F7_Eok : (F7_E).OK := (E0ok.add1 F9_ok)
noncomputable def F7_told : Nat → Option SealT := fun id => none
theorem F7_ok : FOK Tryz.prog n_F13 F7_sh F7_fo F7 :=
 fn_ok (E := F7_E) (F7_Eok) (told := F7_told) (fl := []) (c := bodyOf fn_F13) (s := F7_sh) (l := F7_fo) (tree := F7_t) fnat_F13 (by kernel_rfl) (by kernel_rfl) (by kernel_rfl) (loopsOK_of (ls := []) (by kernel_rfl) trivial) (fun v => by kernel_rfl)
theorem F7_eq (s : List Dg) (d : Dg) (hl : s.length < 4611686018427387904) : F7 ((s, ()), d) = some (s.any (crossD d), d) := by
 obtain ⟨a, b⟩ := d
 have hc : ∀ e : Dg, F71 ((e, ()), (a, b)) = some (crossD (a, b) e, (a, b)) := by
  intro e
  obtain ⟨e0, e1⟩ := e
  simp [F71, F71_t, T.run, F82_eq]
 have h := loop_find (step := fun v => (F9_L2_step v).run) (xs := s) (crossD (a, b)) (fun k => ((s, ((), ((s.length : Int), (k : Int)))), (a, b))) (fun k => .inl ((k : Int), (a, b))) (.inr ((), (a, b)))
  (fun k x hx => by
   have hlt := getElem?_lt hx
   have h1 : (k : Int) < (s.length : Int) := by omega
   have h2 : (0 : Int) ≤ k ∧ (k : Int) < (s.length : Int) := by omega
   simp only [F9_L2_step, T.run, Int.toNat_natCast, hx, Option.bind_some, h1, h2, decide_true, if_true, and_self, hc]
   rw [w64_id (z := (k : Int) + 1) (by omega) (by omega)]
   cases hv : crossD (a, b) x <;> simp)
  (by simp [F9_L2_step, T.run])
 rw [show ((0 : Nat) : Int) = 0 from rfl] at h
 have hi : F9 ((s, ()), (a, b)) = some (idxI (crossD (a, b)) s, (a, b)) := by
  simp only [F9, F9_t, T.run, F9_L2]
  rw [h]
  simp only [idxI]
  cases hf : s.findIdx? (crossD (a, b)) <;> simp [Sum.isLeft]
 simp only [F7, F7_t, T.run, hi, Option.bind_some, idxI_ge]
def F83_sh : FSh := ⟨[(.one (.sl (.pair (.int .i64) (.int .i64)) false false)), (.ag [(.si .i64), (.si .i64)])], []⟩
def F83_fo : List FO := [⟨[(.one .sb)], []⟩]
noncomputable def F83_t : (List ((Int × Int)) × (Int × Int)) → T Bool := fun (ds, (d_0, d_1)) =>
 (.sub (F7 ((ds, ()), (d_0, d_1))) fun z0 =>
 (.ret z0.1))
noncomputable def F83 (v) := (F83_t v).run
noncomputable def F83_E : TEnv := (E0.add1 n_F13 F7_sh F7_fo F7)
theorem F83_Eok : (F83_E).OK := (E0ok.add1 F7_ok)
noncomputable def F83_told : Nat → Option SealT := fun id => none
theorem F83_ok : FOK Tryz.prog n_F83 F83_sh F83_fo F83 :=
 fn_ok (E := F83_E) (F83_Eok) (told := F83_told) (fl := []) (c := bodyOf fn_F83) (s := F83_sh) (l := F83_fo) (tree := F83_t) fnat_F83 (by kernel_rfl) (by kernel_rfl) (by kernel_rfl) (loopsOK_of (ls := []) (by kernel_rfl) trivial) (fun v => by kernel_rfl)
theorem F83_eq (s : List Dg) (d : Dg) (hl : s.length < 4611686018427387904) : F83 (s, d) = some (s.any (crossD d)) := by
 obtain ⟨a, b⟩ := d
 rw [F83, F83_t, T.run_sub, F7_eq s (a, b) hl, Option.bind_some, T.run_ret]
theorem sorted_ext {l m : List Int} (h1 : l.Pairwise (· < ·)) (h2 : m.Pairwise (· < ·)) (h : ∀ v, v ∈ l ↔ v ∈ m) : l = m := by
 have n1 : l.Nodup := h1.imp fun {a b} h => by omega
 have n2 : m.Nodup := h2.imp fun {a b} h => by omega
 exact List.Perm.eq_of_pairwise (fun a b _ _ g1 g2 => by omega) h1 h2 ((List.perm_ext_iff_of_nodup n1 n2).2 h)
theorem exists_min {α : Type} (f : α → Nat) (p : α → Prop) : ∀ (l : List α), (∃ x ∈ l, p x) → ∃ x ∈ l, p x ∧ ∀ y ∈ l, p y → f x ≤ f y
 | [], h => by obtain ⟨x, hx, _⟩ := h; cases hx
 | a :: l, h => by
  by_cases g : ∃ x ∈ l, p x
  ·obtain ⟨x, hx, px, hm⟩ := exists_min f p l g
   by_cases pa : p a
   ·by_cases c : f a ≤ f x
    ·exact ⟨a, by simp, pa, fun y hy py => by
      rcases List.mem_cons.1 hy with rfl | hy
      ·exact Nat.le_refl _
      ·exact Nat.le_trans c (hm y hy py)⟩
    ·exact ⟨x, by simp [hx], px, fun y hy py => by
      rcases List.mem_cons.1 hy with rfl | hy
      ·omega
      ·exact hm y hy py⟩
   ·exact ⟨x, by simp [hx], px, fun y hy py => by
     rcases List.mem_cons.1 hy with rfl | hy
     ·exact absurd py pa
     ·exact hm y hy py⟩
  ·obtain ⟨x, hx, px⟩ := h
   rcases List.mem_cons.1 hx with rfl | hx
   ·exact ⟨x, by simp, px, fun y hy py => by
     rcases List.mem_cons.1 hy with rfl | hy
     ·exact Nat.le_refl _
     ·exact absurd ⟨y, hy, py⟩ g⟩
   ·exact absurd ⟨x, hx, px⟩ g
def covD (ds : List Dg) (k : Dg) (v : Int) : Bool := ds.any fun d => decide (k.1 ≤ d.1 ∧ d.1 < v ∧ v < d.2 ∧ d.2 ≤ k.2 ∧ d ≠ k)
def pcs (n : Nat) (ds : List Dg) (k : Dg) : List Int := (nameL n).filter fun v => decide (k.1 ≤ v ∧ v ≤ k.2) && !covD ds k v
theorem covD_iff {ds : List Dg} {k : Dg} {v : Int} : covD ds k v = true ↔ ∃ d ∈ ds, k.1 ≤ d.1 ∧ d.1 < v ∧ v < d.2 ∧ d.2 ≤ k.2 ∧ d ≠ k := by
 unfold covD
 rw [List.any_eq_true]
 simp only [decide_eq_true_eq]
theorem nameL_iff {n : Nat} {v : Int} : v ∈ nameL n ↔ 0 ≤ v ∧ v < (n : Int) := by
 constructor
 ·exact nameL_mem
 ·intro h
  exact List.mem_of_getElem? (by rw [nameL_get (p := v.toNat) (by omega)]; rw [Int.toNat_of_nonneg h.1])
theorem pcs_mem {n : Nat} {ds : List Dg} {k : Dg} {v : Int} : v ∈ pcs n ds k ↔ (0 ≤ v ∧ v < (n : Int)) ∧ (k.1 ≤ v ∧ v ≤ k.2) ∧ ∀ d ∈ ds, k.1 ≤ d.1 → d.2 ≤ k.2 → d ≠ k → d.1 < v → v < d.2 → False := by
 unfold pcs
 rw [List.mem_filter, nameL_iff, Bool.and_eq_true, decide_eq_true_eq, Bool.not_eq_true', ← Bool.not_eq_true, covD_iff]
 constructor
 ·rintro ⟨h1, h2, h3⟩
  exact ⟨h1, h2, fun d hd a b c e f => h3 ⟨d, hd, a, e, f, b, c⟩⟩
 ·rintro ⟨h1, h2, h3⟩
  exact ⟨h1, h2, fun ⟨d, hd, a, e, f, b, c⟩ => h3 d hd a b c e f⟩
theorem pcs_sorted (n : Nat) (ds : List Dg) (k : Dg) : (pcs n ds k).Pairwise (· < ·) := (nameL_sorted n).filter _
def wholeD (n : Nat) : Dg := (0, (n : Int) - 1)
def CutD (n : Nat) (ds : List Dg) : Prop := (∀ d ∈ ds, 0 ≤ d.1 ∧ d.1 + 1 < d.2 ∧ d.2 < (n : Int) ∧ d ≠ wholeD n) ∧ ds.Pairwise fun d e => d ≠ e ∧ crossD d e = false
theorem cross_no {d e : Dg} (h : crossD d e = false) : ¬ (d.1 < e.1 ∧ e.1 < d.2 ∧ d.2 < e.2) ∧ ¬ (e.1 < d.1 ∧ d.1 < e.2 ∧ e.2 < d.2) := by
 unfold crossD at h
 simp only [Bool.or_eq_false_iff, Bool.and_eq_false_iff, decide_eq_false_iff_not] at h
 omega
theorem CutD.apart {n : Nat} {ds : List Dg} (h : CutD n ds) {d e : Dg} (hd : d ∈ wholeD n :: ds) (he : e ∈ wholeD n :: ds) : ¬ (d.1 < e.1 ∧ e.1 < d.2 ∧ d.2 < e.2) := by
 have low : ∀ d ∈ wholeD n :: ds, 0 ≤ d.1 ∧ d.2 < (n : Int) := fun d hd => by
  rcases List.mem_cons.1 hd with rfl | hd
  ·simp only [wholeD]; omega
  ·have := h.1 d hd; omega
 rcases List.mem_cons.1 hd with rfl | hd
 ·have := low e he; simp only [wholeD]; omega
 ·rcases List.mem_cons.1 he with rfl | he
  ·have := h.1 d hd; simp only [wholeD]; omega
  ·by_cases e1 : d = e
   ·subst e1; omega
   ·obtain ⟨i, hi, ei⟩ := List.getElem_of_mem hd
    obtain ⟨j, hj, ej⟩ := List.getElem_of_mem he
    have hp := List.pairwise_iff_getElem.1 h.2
    rcases Nat.lt_trichotomy i j with c | c | c
    ·have := hp i j hi hj c
     rw [ei, ej] at this
     exact (cross_no this.2).1
    ·subst c; exact absurd (ei.symm.trans ej) e1
    ·have := hp j i hj hi c
     rw [ei, ej] at this
     exact (cross_no this.2).2
theorem CutD.front {n : Nat} {ds es : List Dg} (h : CutD n (ds ++ es)) : CutD n ds := ⟨fun d hd => h.1 d (by simp [hd]), (List.pairwise_append.1 h.2).1⟩
theorem CutD.nodup {n : Nat} {ds : List Dg} (h : CutD n ds) : (wholeD n :: ds).Nodup := by
 rw [List.nodup_cons]
 exact ⟨fun hm => (h.1 _ hm).2.2.2 rfl, h.2.imp fun {a b} h => h.1⟩
structure MoreD (n : Nat) (ds : List Dg) (d k : Dg) : Prop where
 cut : CutD n (ds ++ [d])
 key : k ∈ wholeD n :: ds
 lo : d.1 ∈ pcs n ds k
 hi : d.2 ∈ pcs n ds k
theorem MoreD.enc {n : Nat} {ds : List Dg} {d k : Dg} (h : MoreD n ds d k) : k.1 ≤ d.1 ∧ d.1 + 1 < d.2 ∧ d.2 ≤ k.2 ∧ d ≠ k := by
 have h1 := (pcs_mem.1 h.lo).2.1
 have h2 := (pcs_mem.1 h.hi).2.1
 have h3 := h.cut.1 d (by simp)
 refine ⟨h1.1, h3.2.1, h2.2, fun e => ?_⟩
 subst e
 rcases List.mem_cons.1 h.key with e | e
 ·exact h3.2.2.2 e
 ·exact ((List.pairwise_append.1 h.cut.2).2.2 d e d (by simp)).1 rfl
theorem MoreD.ap {n : Nat} {ds : List Dg} {d k : Dg} (h : MoreD n ds d k) {e : Dg} (he : e ∈ wholeD n :: ds) : ¬ (d.1 < e.1 ∧ e.1 < d.2 ∧ d.2 < e.2) ∧ ¬ (e.1 < d.1 ∧ d.1 < e.2 ∧ e.2 < d.2) := by
 have he' : e ∈ wholeD n :: (ds ++ [d]) := by
  rcases List.mem_cons.1 he with rfl | he
  ·simp
  ·simp [he]
 exact ⟨h.cut.apart (by simp) he', h.cut.apart he' (by simp)⟩
theorem more_exists {n : Nat} {ds : List Dg} {d : Dg} (h : CutD n (ds ++ [d])) : ∃ k, MoreD n ds d k := by
 have hd := h.1 d (by simp)
 have ap : ∀ e ∈ ds, ¬ (d.1 < e.1 ∧ e.1 < d.2 ∧ d.2 < e.2) ∧ ¬ (e.1 < d.1 ∧ d.1 < e.2 ∧ e.2 < d.2) := fun e he =>
  ⟨h.apart (by simp) (by simp [he]), h.apart (by simp [he]) (by simp)⟩
 obtain ⟨k, hk, ⟨k1, k2⟩, hm⟩ := exists_min (fun k : Dg => (k.2 - k.1).toNat) (fun k => k.1 ≤ d.1 ∧ d.2 ≤ k.2) (wholeD n :: ds) ⟨wholeD n, by simp, by simp only [wholeD]; omega⟩
 have key : ∀ v, v = d.1 ∨ v = d.2 → v ∈ pcs n ds k := fun v hv => by
  rw [pcs_mem]
  refine ⟨by omega, by omega, fun e he h1 h2 h3 h4 h5 => ?_⟩
  have := ap e he
  have hm := hm e (by simp [he]) (by omega)
  have hne : ¬ (e.1 = k.1 ∧ e.2 = k.2) := fun h => h3 (Prod.ext h.1 h.2)
  omega
 exact ⟨k, h, hk, key _ (.inl rfl), key _ (.inr rfl)⟩
theorem more_unique {n : Nat} {ds : List Dg} {d k l : Dg} (h1 : MoreD n ds d k) (h2 : MoreD n ds d l) : k = l := by
 have e1 := h1.enc
 have e2 := h2.enc
 have c := h1.cut.front
 have a1 := c.apart h1.key h2.key
 have a2 := c.apart h2.key h1.key
 have m1 := (pcs_mem.1 h1.lo).2.2
 have m2 := (pcs_mem.1 h1.hi).2.2
 have m3 := (pcs_mem.1 h2.lo).2.2
 have m4 := (pcs_mem.1 h2.hi).2.2
 have low : ∀ k ∈ wholeD n :: ds, ∀ l ∈ wholeD n :: ds, (k.1 ≤ l.1 ∧ l.2 ≤ k.2) → l ≠ k → l ∈ ds := fun k hk l hl hi hne => by
  rcases List.mem_cons.1 hl with rfl | hl
  ·exfalso
   rcases List.mem_cons.1 hk with rfl | hk
   ·exact hne rfl
   ·have := c.1 k hk
    simp only [wholeD] at hi
    exact this.2.2.2 (Prod.ext (by simp only [wholeD]; omega) (by simp only [wholeD]; omega))
  ·exact hl
 apply Classical.byContradiction
 intro hne
 have hne' : ¬ (k.1 = l.1 ∧ k.2 = l.2) := fun h => hne (Prod.ext h.1 h.2)
 have hd1 : ¬ (d.1 = k.1 ∧ d.2 = k.2) := fun h => e1.2.2.2 (Prod.ext h.1 h.2)
 have hd2 : ¬ (d.1 = l.1 ∧ d.2 = l.2) := fun h => e2.2.2.2 (Prod.ext h.1 h.2)
 by_cases g : k.1 ≤ l.1 ∧ l.2 ≤ k.2
 ·have hl := low k h1.key l h2.key g (Ne.symm hne)
  have g1 := m1 l hl g.1 g.2 (Ne.symm hne)
  have g2 := m2 l hl g.1 g.2 (Ne.symm hne)
  by_cases c1 : l.1 < d.1
  ·exact g1 c1 (by omega)
  ·exact g2 (by omega) (by omega)
 ·have g : l.1 ≤ k.1 ∧ k.2 ≤ l.2 := by omega
  have hk := low l h2.key k h1.key g hne
  have g1 := m3 k hk g.1 g.2 hne
  have g2 := m4 k hk g.1 g.2 hne
  by_cases c1 : k.1 < d.1
  ·exact g1 c1 (by omega)
  ·exact g2 (by omega) (by omega)
theorem more_front {n : Nat} {ds : List Dg} {d k : Dg} (h : MoreD n ds d k) : pcs n (ds ++ [d]) k = (pcs n ds k).filter fun v => decide (v ≤ d.1 ∨ d.2 ≤ v) := by
 have e := h.enc
 refine sorted_ext (pcs_sorted ..) ((pcs_sorted ..).filter _) fun v => ?_
 rw [List.mem_filter, pcs_mem, pcs_mem, decide_eq_true_eq]
 constructor
 ·rintro ⟨h1, h2, h3⟩
  refine ⟨⟨h1, h2, fun d hd => h3 d (by simp [hd])⟩, ?_⟩
  have : ¬ (d.1 < v ∧ v < d.2) := fun ⟨x, y⟩ => h3 d (by simp) e.1 e.2.2.1 e.2.2.2 x y
  omega
 ·rintro ⟨⟨h1, h2, h3⟩, h4⟩
  refine ⟨h1, h2, fun f hf => ?_⟩
  rcases List.mem_append.1 hf with hf | hf
  ·exact h3 f hf
  ·rw [List.mem_singleton] at hf
   subst hf
   intro _ _ _ g4 g5
   omega
theorem more_mid {n : Nat} {ds : List Dg} {d k : Dg} (h : MoreD n ds d k) : pcs n (ds ++ [d]) d = (pcs n ds k).filter fun v => decide (d.1 ≤ v ∧ v ≤ d.2) := by
 have e := h.enc
 have m1 := (pcs_mem.1 h.lo).2.2
 have m2 := (pcs_mem.1 h.hi).2.2
 refine sorted_ext (pcs_sorted ..) ((pcs_sorted ..).filter _) fun v => ?_
 rw [List.mem_filter, pcs_mem, pcs_mem, decide_eq_true_eq]
 constructor
 ·rintro ⟨h1, h2, h3⟩
  refine ⟨⟨h1, by omega, fun f hf g1 g2 g3 g4 g5 => ?_⟩, h2⟩
  have := h.ap (e := f) (by simp [hf])
  have n1 : f ≠ k → ¬ (f.1 < d.1 ∧ d.1 < f.2) := fun g ⟨x, y⟩ => m1 f hf (by omega) (by omega) g x y
  have n2 : f ≠ k → ¬ (f.1 < d.2 ∧ d.2 < f.2) := fun g ⟨x, y⟩ => m2 f hf (by omega) (by omega) g x y
  have n1 := n1 g3
  have n2 := n2 g3
  by_cases c : d.1 ≤ f.1 ∧ f.2 ≤ d.2
  ·by_cases c2 : f = d
   ·subst c2
    exact ((List.pairwise_append.1 h.cut.2).2.2 f hf f (by simp)).1 rfl
   ·exact h3 f (by simp [hf]) c.1 c.2 c2 g4 g5
  ·omega
 ·rintro ⟨⟨h1, h2, h3⟩, h4⟩
  refine ⟨h1, h4, fun f hf g1 g2 g3 g4 g5 => ?_⟩
  rcases List.mem_append.1 hf with hf | hf
  ·refine h3 f hf (by omega) (by omega) (fun hk => ?_) g4 g5
   subst hk
   exact g3 (Prod.ext (by omega) (by omega))
  ·rw [List.mem_singleton] at hf
   exact g3 hf
theorem more_else {n : Nat} {ds : List Dg} {d k l : Dg} (h : MoreD n ds d k) (hl : l ∈ wholeD n :: ds) (hne : l ≠ k) : pcs n (ds ++ [d]) l = pcs n ds l := by
 have e := h.enc
 have hd := h.cut.1 d (by simp)
 refine sorted_ext (pcs_sorted ..) (pcs_sorted ..) fun v => ?_
 rw [pcs_mem, pcs_mem]
 constructor
 ·rintro ⟨h1, h2, h3⟩
  exact ⟨h1, h2, fun d hd => h3 d (by simp [hd])⟩
 ·rintro ⟨h1, h2, h3⟩
  refine ⟨h1, h2, fun f hf g1 g2 g3 g4 g5 => ?_⟩
  rcases List.mem_append.1 hf with hf | hf
  ·exact h3 f hf g1 g2 g3 g4 g5
  ·rw [List.mem_singleton] at hf
   subst hf
   apply hne
   refine more_unique ⟨h.cut, hl, pcs_mem.2 ⟨by omega, by omega, fun g hg i1 i2 i3 i4 i5 => ?_⟩, pcs_mem.2 ⟨by omega, by omega, fun g hg i1 i2 i3 i4 i5 => ?_⟩⟩ h
   ·have a := h.ap (e := g) (by simp [hg])
    exact h3 g hg i1 i2 i3 (by omega) (by omega)
   ·have a := h.ap (e := g) (by simp [hg])
    exact h3 g hg i1 i2 i3 (by omega) (by omega)
def splitD (d : Dg) : List (List Int) → List (List Int)
 | [] => []
 | p :: t => if d.1 ∈ p ∧ d.2 ∈ p then p.filter (fun v => decide (v ≤ d.1 ∨ d.2 ≤ v)) :: (t ++ [p.filter fun v => decide (d.1 ≤ v ∧ v ≤ d.2)]) else p :: splitD d t
theorem splitD_at (d : Dg) : ∀ (out : List (List Int)), (∃ p ∈ out, d.1 ∈ p ∧ d.2 ∈ p) → ∃ l p r, out = l ++ p :: r ∧ d.1 ∈ p ∧ d.2 ∈ p ∧ splitD d out = l ++ p.filter (fun v => decide (v ≤ d.1 ∨ d.2 ≤ v)) :: (r ++ [p.filter fun v => decide (d.1 ≤ v ∧ v ≤ d.2)])
 | [], h => by obtain ⟨p, hp, _⟩ := h; cases hp
 | q :: t, h => by
  by_cases c : d.1 ∈ q ∧ d.2 ∈ q
  ·exact ⟨[], q, t, rfl, c.1, c.2, by rw [splitD, if_pos c]; rfl⟩
  ·obtain ⟨p, hp, h1, h2⟩ := h
   have hp : p ∈ t := by
    rcases List.mem_cons.1 hp with rfl | hp
    ·exact absurd ⟨h1, h2⟩ c
    ·exact hp
   obtain ⟨l, p, r, e, i1, i2, e2⟩ := splitD_at d t ⟨p, hp, h1, h2⟩
   exact ⟨q :: l, p, r, by rw [e]; rfl, i1, i2, by rw [splitD, if_neg c, e2]; rfl⟩
theorem split_perm {n : Nat} {ds : List Dg} {d : Dg} (h : CutD n (ds ++ [d])) {out : List (List Int)} (ho : out.Perm ((wholeD n :: ds).map (pcs n ds))) :
  (splitD d out).Perm ((wholeD n :: (ds ++ [d])).map (pcs n (ds ++ [d]))) := by
 obtain ⟨k, hk⟩ := more_exists h
 have hmem : pcs n ds k ∈ out := ho.mem_iff.2 (List.mem_map_of_mem hk.key)
 obtain ⟨l, p, r, e, h1, h2, e2⟩ := splitD_at d out ⟨_, hmem, hk.lo, hk.hi⟩
 have hp : p = pcs n ds k := by
  have : p ∈ (wholeD n :: ds).map (pcs n ds) := ho.mem_iff.1 (by rw [e]; simp)
  obtain ⟨k', hk', rfl⟩ := List.mem_map.1 this
  rw [more_unique ⟨h, hk', h1, h2⟩ hk]
 obtain ⟨m1, m2, em⟩ := List.append_of_mem hk.key
 have nd := h.front.nodup
 rw [em] at nd
 have els : ∀ l ∈ m1 ++ m2, pcs n (ds ++ [d]) l = pcs n ds l := fun l hl => by
  refine more_else hk ?_ ?_
  ·rw [em]; simp only [List.mem_append, List.mem_cons] at hl ⊢; rcases hl with hl | hl <;> simp [hl]
  ·rintro rfl
   have := (List.perm_middle (a := l) (l₁ := m1) (l₂ := m2)).nodup_iff.1 nd
   exact (List.nodup_cons.1 this).1 hl
 have eg : wholeD n :: (ds ++ [d]) = (m1 ++ k :: m2) ++ [d] := by rw [← em]; rfl
 rw [e2, hp, ← more_front hk, ← more_mid hk, eg]
 have ho' : (l ++ r).Perm ((m1 ++ m2).map (pcs n ds)) := by
  rw [e, hp, em] at ho
  rw [List.map_append, List.map_cons] at ho
  have := (List.perm_middle.symm.trans ho).trans List.perm_middle
  rw [List.map_append]
  exact (List.perm_cons _).1 this
 have hmap : (m1 ++ m2).map (pcs n ds) = (m1 ++ m2).map (pcs n (ds ++ [d])) := List.map_congr_left fun l hl => (els l hl).symm
 rw [hmap] at ho'
 have s1 : (l ++ pcs n (ds ++ [d]) k :: (r ++ [pcs n (ds ++ [d]) d])).Perm (pcs n (ds ++ [d]) k :: pcs n (ds ++ [d]) d :: (l ++ r)) := by
  refine List.perm_middle.trans (List.Perm.cons _ ?_)
  rw [← List.append_assoc]
  exact List.perm_append_singleton _ _
 refine s1.trans ?_
 rw [List.map_append, List.map_append, List.map_cons]
 have s2 : (m1.map (pcs n (ds ++ [d])) ++ pcs n (ds ++ [d]) k :: m2.map (pcs n (ds ++ [d])) ++ [d].map (pcs n (ds ++ [d]))).Perm (pcs n (ds ++ [d]) k :: pcs n (ds ++ [d]) d :: (m1 ++ m2).map (pcs n (ds ++ [d]))) := by
  rw [List.append_assoc, List.cons_append]
  refine List.perm_middle.trans (List.Perm.cons _ ?_)
  rw [← List.append_assoc, List.map_append]
  exact List.perm_append_singleton _ _
 exact ((ho'.cons _).cons _).trans s2.symm
def joinD (n : Nat) (ds : List Dg) (a b : Int) : Bool := decide (b - a = 1) || (decide (b - a = (n : Int) - 1) || decide ((a, b) ∈ ds))
theorem joinD_iff {n : Nat} {ds : List Dg} {a b : Int} : joinD n ds a b = true ↔ b - a = 1 ∨ b - a = (n : Int) - 1 ∨ (a, b) ∈ ds := by
 unfold joinD
 simp only [Bool.or_eq_true, decide_eq_true_eq]
theorem key_low {n : Nat} {ds : List Dg} (h : CutD n ds) (hn : 3 ≤ n) {k : Dg} (hk : k ∈ wholeD n :: ds) : 0 ≤ k.1 ∧ k.1 + 1 < k.2 ∧ k.2 < (n : Int) := by
 rcases List.mem_cons.1 hk with rfl | hk
 ·simp only [wholeD]; omega
 ·have := h.1 k hk; omega
theorem key_ends {n : Nat} {ds : List Dg} (h : CutD n ds) (hn : 3 ≤ n) {k : Dg} (hk : k ∈ wholeD n :: ds) : k.1 ∈ pcs n ds k ∧ k.2 ∈ pcs n ds k := by
 have := key_low h hn hk
 constructor
 ·rw [pcs_mem]; exact ⟨by omega, by omega, fun d hd a b c e f => by omega⟩
 ·rw [pcs_mem]; exact ⟨by omega, by omega, fun d hd a b c e f => by omega⟩
theorem next_corner {n : Nat} {ds : List Dg} (h : CutD n ds) (hn : 3 ≤ n) {k : Dg} (hk : k ∈ wholeD n :: ds) {i c : Int} (hi : i ∈ pcs n ds k) (h1 : i < c) (h2 : c ≤ k.2) (hj : joinD n ds i c = true) (hne : (i, c) ≠ k)
  (hm : ∀ c', c < c' → c' ≤ k.2 → (i, c') ≠ k → joinD n ds i c' = false) : c ∈ pcs n ds k ∧ ∀ v, i < v → v < c → v ∉ pcs n ds k := by
 have hlow := key_low h hn hk
 obtain ⟨i1, i2, i3⟩ := pcs_mem.1 hi
 have hin : c ≠ i + 1 → (i, c) ∈ ds := fun hc => by
  rcases joinD_iff.1 hj with g | g | g
  ·omega
  ·exfalso
   rcases List.mem_cons.1 hk with rfl | hk
   ·simp only [wholeD] at *
    exact hne (Prod.ext (by simp only; omega) (by simp only; omega))
   ·have := (h.1 k hk).2.2.2
    exact this (Prod.ext (by simp only [wholeD]; omega) (by simp only [wholeD]; omega))
  ·exact g
 constructor
 ·rw [pcs_mem]
  refine ⟨by omega, by omega, fun e he g1 g2 g3 g4 g5 => ?_⟩
  have u := i3 e he g1 g2 g3
  by_cases c1 : e.1 < i
  ·exact u c1 (by omega)
  ·by_cases c2 : e.1 = i
   ·have := hm e.2 g5 g2 (fun hh => g3 (by rw [← hh, ← c2]))
    rw [← Bool.not_eq_true] at this
    exact this (joinD_iff.2 (.inr (.inr (by rw [← c2]; exact he))))
   ·have := h.apart (d := (i, c)) (e := e) (by simp [hin (by omega)]) (by simp [he])
    simp only at this
    omega
 ·intro v hv1 hv2 hv
  have hd := hin (by omega)
  exact (pcs_mem.1 hv).2.2 (i, c) hd (by simp only; omega) (by simp only; omega) hne hv1 hv2
theorem after_corner {n : Nat} {ds : List Dg} {k : Dg} {i c : Int} (h1 : i < c) (hc : c ∈ pcs n ds k) (hno : ∀ v, i < v → v < c → v ∉ pcs n ds k) :
  ((pcs n ds k).filter fun v => decide (i < v)) = c :: (pcs n ds k).filter fun v => decide (c < v) := by
 refine sorted_ext ((pcs_sorted ..).filter _) ?_ fun v => ?_
 ·rw [List.pairwise_cons]
  exact ⟨fun v hv => by rw [List.mem_filter, decide_eq_true_eq] at hv; exact hv.2, (pcs_sorted ..).filter _⟩
 ·rw [List.mem_filter, List.mem_cons, List.mem_filter, decide_eq_true_eq, decide_eq_true_eq]
  constructor
  ·rintro ⟨g1, g2⟩
   by_cases e : v = c
   ·exact .inl e
   ·by_cases l : v < c
    ·exact absurd g1 (hno v g2 l)
    ·exact .inr ⟨g1, by omega⟩
  ·rintro (rfl | ⟨g1, g2⟩)
   ·exact ⟨hc, h1⟩
   ·exact ⟨g1, by omega⟩
theorem pcs_first {n : Nat} {ds : List Dg} (h : CutD n ds) (hn : 3 ≤ n) {k : Dg} (hk : k ∈ wholeD n :: ds) : pcs n ds k = k.1 :: (pcs n ds k).filter fun v => decide (k.1 < v) := by
 have he := (key_ends h hn hk).1
 refine sorted_ext (pcs_sorted ..) ?_ fun v => ?_
 ·rw [List.pairwise_cons]
  exact ⟨fun v hv => by rw [List.mem_filter, decide_eq_true_eq] at hv; exact hv.2, (pcs_sorted ..).filter _⟩
 ·rw [List.mem_cons, List.mem_filter, decide_eq_true_eq]
  constructor
  ·intro hv
   have := (pcs_mem.1 hv).2.1
   by_cases e : v = k.1
   ·exact .inl e
   ·exact .inr ⟨hv, by omega⟩
  ·rintro (rfl | ⟨g1, _⟩)
   ·exact he
   ·exact g1
theorem pcs_last (n : Nat) (ds : List Dg) (k : Dg) : ((pcs n ds k).filter fun v => decide (k.2 < v)) = [] := by
 rw [List.filter_eq_nil_iff]
 intro v hv
 have := (pcs_mem.1 hv).2.1
 rw [decide_eq_true_eq]; omega
theorem next_exists {n : Nat} {ds : List Dg} {k : Dg} {i : Int} (hw : k.1 + 1 < k.2) (h1 : i < k.2) :
  ∃ c, i < c ∧ c ≤ k.2 ∧ joinD n ds i c = true ∧ (i, c) ≠ k ∧ ∀ c', c < c' → c' ≤ k.2 → (i, c') ≠ k → joinD n ds i c' = false := by
 have key : ∀ (m : Nat) (t : Int), t = i + 1 + (m : Int) → t ≤ k.2 → (∀ c', t < c' → c' ≤ k.2 → (i, c') ≠ k → joinD n ds i c' = false) →
   ∃ c, i < c ∧ c ≤ k.2 ∧ joinD n ds i c = true ∧ (i, c) ≠ k ∧ ∀ c', c < c' → c' ≤ k.2 → (i, c') ≠ k → joinD n ds i c' = false := by
  intro m
  induction m with
  | zero =>
   intro t ht h2 hm
   refine ⟨t, by omega, h2, joinD_iff.2 (.inl (by omega)), fun e => ?_, hm⟩
   rw [← e] at hw
   simp only at hw
   omega
  | succ m ih =>
   intro t ht h2 hm
   by_cases g : joinD n ds i t = true ∧ (i, t) ≠ k
   ·exact ⟨t, by omega, h2, g.1, g.2, hm⟩
   ·refine ih (t - 1) (by omega) (by omega) fun c' hc1 hc2 hc3 => ?_
    by_cases e : c' = t
    ·subst e
     rw [← Bool.not_eq_true]
     exact fun hj => g ⟨hj, hc3⟩
    ·exact hm c' (by omega) hc2 hc3
 exact key (k.2 - i - 1).toNat k.2 (by omega) (by omega) fun c' a b => by omega
theorem pcs_len {n : Nat} {ds : List Dg} (h : CutD n ds) (hn : 3 ≤ n) {k : Dg} (hk : k ∈ wholeD n :: ds) : 3 ≤ (pcs n ds k).length ∧ (pcs n ds k).length ≤ n := by
 have hlow := key_low h hn hk
 have hends := key_ends h hn hk
 obtain ⟨c, c1, c2, c3, c4, c5⟩ := next_exists (n := n) (ds := ds) (k := k) (i := k.1) hlow.2.1 (by omega)
 obtain ⟨g1, g2⟩ := next_corner h hn hk hends.1 c1 c2 c3 c4 c5
 have hc : c < k.2 := by
  apply Classical.byContradiction
  intro hh
  exact c4 (Prod.ext rfl (by simp only; omega))
 constructor
 ·rw [pcs_first h hn hk, after_corner c1 g1 g2]
  have : k.2 ∈ (pcs n ds k).filter fun v => decide (c < v) := List.mem_filter.2 ⟨hends.2, decide_eq_true hc⟩
  have := List.length_pos_of_mem this
  simp only [List.length_cons]
  omega
 ·have := List.length_filter_le (fun v => decide (k.1 ≤ v ∧ v ≤ k.2) && !covD ds k v) (nameL n)
  rw [nameL_length] at this
  exact this
def keysOf (n : Nat) (ds : List Dg) (a : Nat) : List Dg := ((List.range n).filter fun b => decide (a + 1 < b) && joinD n ds (a : Int) (b : Int)).map fun (b : Nat) => ((a : Int), (b : Int))
def specP (n : Nat) (ds : List Dg) : List (List Int) := ((List.range n).flatMap (keysOf n ds)).map (pcs n ds)
theorem keysOf_mem {n : Nat} {ds : List Dg} {a : Nat} {k : Dg} : k ∈ keysOf n ds a ↔ k.1 = (a : Int) ∧ (a : Int) + 1 < k.2 ∧ k.2 < (n : Int) ∧ joinD n ds k.1 k.2 = true := by
 unfold keysOf
 rw [List.mem_map]
 constructor
 ·rintro ⟨b, hb, rfl⟩
  rw [List.mem_filter, List.mem_range, Bool.and_eq_true, decide_eq_true_eq] at hb
  exact ⟨rfl, by simp only; omega, by simp only; omega, hb.2.2⟩
 ·rintro ⟨h1, h2, h3, h4⟩
  refine ⟨k.2.toNat, ?_, Prod.ext h1.symm (by simp only; omega)⟩
  rw [List.mem_filter, List.mem_range, Bool.and_eq_true, decide_eq_true_eq]
  refine ⟨by omega, by omega, ?_⟩
  rw [Int.toNat_of_nonneg (by omega), ← h1]
  exact h4
theorem specP_perm {n : Nat} {ds : List Dg} (h : CutD n ds) (hn : 3 ≤ n) : (specP n ds).Perm ((wholeD n :: ds).map (pcs n ds)) := by
 unfold specP
 refine List.Perm.map _ ((List.perm_ext_iff_of_nodup ?_ h.nodup).2 fun k => ?_)
 ·show List.Pairwise _ _
  rw [List.pairwise_flatMap]
  refine ⟨fun a _ => ?_, ?_⟩
  ·unfold keysOf
   rw [List.pairwise_map]
   refine (List.nodup_range.filter _).imp fun {x y} hxy e => hxy ?_
   have := congrArg Prod.snd e
   simp only at this
   omega
  ·refine List.nodup_range.imp fun {x y} hxy p hp q hq e => hxy ?_
   have h1 := (keysOf_mem.1 hp).1
   have h2 := (keysOf_mem.1 hq).1
   subst e
   omega
 ·rw [List.mem_flatMap]
  constructor
  ·rintro ⟨a, ha, hk⟩
   obtain ⟨h1, h2, h3, h4⟩ := keysOf_mem.1 hk
   rw [List.mem_cons]
   rcases joinD_iff.1 h4 with g | g | g
   ·omega
   ·exact .inl (Prod.ext (by simp only [wholeD]; omega) (by simp only [wholeD]; omega))
   ·exact .inr g
  ·intro hk
   have := key_low h hn hk
   refine ⟨k.1.toNat, List.mem_range.2 (by omega), keysOf_mem.2 ⟨by omega, by omega, by omega, joinD_iff.2 ?_⟩⟩
   rcases List.mem_cons.1 hk with rfl | hk
   ·exact .inr (.inl (by simp only [wholeD]; omega))
   ·exact .inr (.inr hk)
def implP (n : Nat) (ds : List Dg) : List (List Int) := ds.foldl (fun out d => splitD d out) [nameL n]
theorem implP_perm (n : Nat) (hn : 3 ≤ n) (ds : List Dg) (h : CutD n ds) : (implP n ds).Perm ((wholeD n :: ds).map (pcs n ds)) := by
 have key : ∀ (es ds : List Dg) (out : List (List Int)), CutD n (ds ++ es) → out.Perm ((wholeD n :: ds).map (pcs n ds)) → (es.foldl (fun out d => splitD d out) out).Perm ((wholeD n :: (ds ++ es)).map (pcs n (ds ++ es))) := by
  intro es
  induction es with
  | nil => intro ds out _ ho; simpa using ho
  | cons d es ih =>
   intro ds out hc ho
   have e : ds ++ d :: es = (ds ++ [d]) ++ es := by simp
   rw [e] at hc ⊢
   exact ih (ds ++ [d]) (splitD d out) hc (split_perm hc.front ho)
 have := key ds [] [nameL n] (by simpa using h) (by
  have : pcs n [] (wholeD n) = nameL n := by
   unfold pcs covD wholeD
   rw [List.filter_eq_self]
   intro v hv
   have := nameL_mem hv
   simp; omega
  simp [this])
 simpa [implP] using this
theorem pieces_same {n : Nat} {ds : List Dg} (hn : 3 ≤ n) (h : CutD n ds) : (implP n ds).Perm (specP n ds) := (implP_perm n hn ds h).trans (specP_perm h hn).symm
theorem implP_len {n : Nat} {ds : List Dg} (hn : 3 ≤ n) (h : CutD n ds) {p : List Int} (hp : p ∈ implP n ds) : 3 ≤ p.length ∧ p.length ≤ n := by
 obtain ⟨k, hk, rfl⟩ := List.mem_map.1 ((implP_perm n hn ds h).mem_iff.1 hp)
 exact pcs_len h hn hk
theorem implP_count {n : Nat} {ds : List Dg} (hn : 3 ≤ n) (h : CutD n ds) : (implP n ds).length = ds.length + 1 := by
 have := (implP_perm n hn ds h).length_eq
 simpa using this
theorem bad_iff (n : Int) (ds : List Dg) : (!(List.range ds.length).any (badT n ds)) = true ↔ (∀ d ∈ ds, inDg n d = true) ∧ ds.Pairwise (fun d e => ltD d e = true ∧ crossD e d = false) := by
 rw [Bool.not_eq_true', List.any_eq_false]
 simp only [List.mem_range, badT, Bool.or_eq_true, Bool.not_eq_true', Bool.and_eq_true, decide_eq_true_eq, not_or, not_and, Bool.not_eq_false, Bool.not_eq_true]
 have ltT : ∀ {a b c : Dg}, ltD a b = true → ltD b c = true → ltD a c = true := by
  intro a b c h1 h2; rw [ltD_iff] at *; omega
 constructor
 ·intro h
  refine ⟨fun d hd => ?_, ?_⟩
  ·obtain ⟨k, hk, e⟩ := List.getElem_of_mem hd
   have := (h k hk).1.1
   rwa [gD_eq hk, e] at this
  ·have up : ∀ m p, p + m + 1 < ds.length → ltD (gD ds p) (gD ds (p + m + 1)) = true := by
    intro m
    induction m with
    | zero => intro p hp; have := (h (p + 1) hp).1.2 (by omega); simpa using this
    | succ m ih =>
     intro p hp
     have := (h (p + m + 1 + 1) (by omega)).1.2 (by omega)
     rw [show p + m + 1 + 1 - 1 = p + m + 1 by omega] at this
     have e2 := ltT (ih p (by omega)) this
     rwa [show p + (m + 1) + 1 = p + m + 1 + 1 by omega]
   rw [List.pairwise_iff_getElem]
   intro p q hp hq hpq
   have h2' := up (q - p - 1) p (by omega)
   rw [show p + (q - p - 1) + 1 = q by omega, gD_eq hp, gD_eq hq] at h2'
   refine ⟨h2', ?_⟩
   have := (h q hq).2
   rw [List.any_eq_false] at this
   have := this ds[p] (List.mem_take_iff_getElem.2 ⟨p, by omega, rfl⟩)
   rw [gD_eq hq] at this
   simpa using this
 ·rintro ⟨g1, g2⟩ k hk
  rw [List.pairwise_iff_getElem] at g2
  refine ⟨⟨by rw [gD_eq hk]; exact g1 _ (List.getElem_mem hk), fun hk0 => ?_⟩, ?_⟩
  ·rw [gD_eq hk, gD_eq (show k - 1 < ds.length by omega)]
   exact (g2 (k - 1) k (by omega) hk (by omega)).1
  ·rw [List.any_eq_false]
   intro e he
   obtain ⟨p, hp, e'⟩ := List.mem_take_iff_getElem.1 he
   have := (g2 p k (by omega) hk (by omega)).2
   rw [e', ← gD_eq hk] at this
   simpa using this
def isCut (n : Int) (ds : List Dg) : Bool := inB 3 12 n && decide ((ds.length : Int) ≤ n - 3) && !(List.range ds.length).any (badT n ds)
theorem isCut_cut {n : Int} {ds : List Dg} (h : isCut n ds = true) : ∃ k : Nat, n = (k : Int) ∧ 3 ≤ k ∧ k ≤ 12 ∧ ds.length + 3 ≤ k ∧ CutD k ds := by
 unfold isCut at h
 rw [Bool.and_eq_true, Bool.and_eq_true, inB_iff, decide_eq_true_eq, bad_iff] at h
 obtain ⟨⟨h1, h2⟩, h3, h4⟩ := h
 obtain ⟨k, rfl⟩ := Int.eq_ofNat_of_zero_le (show 0 ≤ n by omega)
 refine ⟨k, rfl, by omega, by omega, by omega, fun d hd => ?_, h4.imp fun {d e} hde => ⟨fun he => ?_, ?_⟩⟩
 ·have := h3 d hd
  unfold inDg at this
  simp only [Bool.and_eq_true, inB_iff, decide_eq_true_eq, Bool.not_eq_true'] at this
  obtain ⟨⟨⟨g1, g2⟩, g3⟩, g4⟩ := this
  refine ⟨by omega, by omega, by omega, fun e => ?_⟩
  rw [e] at g4
  simp [wholeD] at g4
 ·subst he
  have := ltD_iff.1 hde.1
  omega
 ·rw [crossD_comm]; exact hde.2
theorem filter_mid (p : List Int) (f : Int → Bool) (i j : Nat) (hij : i ≤ j) (hj : j ≤ p.length) (h1 : ∀ x (h : x < p.length), x < i → f p[x] = false) (h2 : ∀ x (h : x < p.length), i ≤ x → x < j → f p[x] = true) (h3 : ∀ x (h : x < p.length), j ≤ x → f p[x] = false) :
  p.filter f = (p.drop i).take (j - i) := by
 have e : p.take i ++ ((p.drop i).take (j - i) ++ p.drop j) = p := by
  have : (p.drop i).drop (j - i) = p.drop j := by rw [List.drop_drop]; congr 1; omega
  rw [← this, List.take_append_drop, List.take_append_drop]
 have h := congrArg (List.filter f) e
 rw [List.filter_append, List.filter_append, List.filter_eq_nil_iff.2, List.filter_eq_self.2, List.filter_eq_nil_iff.2, List.nil_append, List.append_nil] at h
 ·exact h.symm
 ·intro v hv
  obtain ⟨x, hx, rfl⟩ := List.mem_drop_iff_getElem.1 hv
  rw [h3 (j + x) (by omega) (by omega)]; simp
 ·intro v hv
  obtain ⟨x, hx, rfl⟩ := List.mem_take_iff_getElem.1 hv
  rw [List.getElem_drop]
  rw [List.length_drop] at hx
  exact h2 (i + x) (by omega) (by omega) (by omega)
 ·intro v hv
  obtain ⟨x, hx, rfl⟩ := List.mem_take_iff_getElem.1 hv
  rw [h1 x (by omega) (by omega)]; simp
theorem filter_out (p : List Int) (f : Int → Bool) (i j : Nat) (hij : i ≤ j) (hj : j ≤ p.length) (h1 : ∀ x (h : x < p.length), x < i → f p[x] = true) (h2 : ∀ x (h : x < p.length), i ≤ x → x < j → f p[x] = false) (h3 : ∀ x (h : x < p.length), j ≤ x → f p[x] = true) :
  p.filter f = p.take i ++ p.drop j := by
 have e : p.take i ++ ((p.drop i).take (j - i) ++ p.drop j) = p := by
  have : (p.drop i).drop (j - i) = p.drop j := by rw [List.drop_drop]; congr 1; omega
  rw [← this, List.take_append_drop, List.take_append_drop]
 have h := congrArg (List.filter f) e
 rw [List.filter_append, List.filter_append, List.filter_eq_self.2, List.filter_eq_nil_iff.2, List.filter_eq_self.2, List.nil_append] at h
 ·exact h.symm
 ·intro v hv
  obtain ⟨x, hx, rfl⟩ := List.mem_drop_iff_getElem.1 hv
  exact h3 (j + x) (by omega) (by omega)
 ·intro v hv
  obtain ⟨x, hx, rfl⟩ := List.mem_take_iff_getElem.1 hv
  rw [List.length_drop] at hx
  rw [List.getElem_drop, h2 (i + x) (by omega) (by omega) (by omega)]; simp
 ·intro v hv
  obtain ⟨x, hx, rfl⟩ := List.mem_take_iff_getElem.1 hv
  exact h1 x (by omega) (by omega)
theorem sorted_lt {p : List Int} (hs : p.Pairwise (· < ·)) {i j : Nat} (hi : i < p.length) (hj : j < p.length) : p[i] < p[j] ↔ i < j := by
 have h := List.pairwise_iff_getElem.1 hs
 constructor
 ·intro hlt
  rcases Nat.lt_trichotomy i j with c | c | c
  ·exact c
  ·subst c; omega
  ·have := h j i hj hi c; omega
 ·exact fun c => h i j hi hj c
theorem idxI_no {v : Int} {p : List Int} (h : v ∉ p) : idxI (fun x => v == x) p = -1 := by
 unfold idxI
 have : p.findIdx? (fun x => v == x) = none := by
  rw [List.findIdx?_eq_none_iff]
  intro x hx
  rw [beq_eq_false_iff_ne]
  rintro rfl
  exact h hx
 rw [this]
theorem idxI_yes {v : Int} {p : List Int} (h : v ∈ p) : ∃ i, ∃ hi : i < p.length, p[i] = v ∧ idxI (fun x => v == x) p = (i : Int) := by
 unfold idxI
 cases hf : p.findIdx? (fun x => v == x) with
 | none =>
  rw [List.findIdx?_eq_none_iff] at hf
  have := hf v h
  simp at this
 | some i =>
  obtain ⟨h1, h2, _⟩ := List.findIdx?_eq_some_iff_getElem.1 hf
  exact ⟨i, h1, (eq_of_beq h2).symm, rfl⟩
def F106_sh : FSh := ⟨[(.one (.si .i64)), (.one (.sl (.pair (.int .i64) (.int .i64)) false false))], []⟩
def F106_L4_sh : LSh := ⟨(fun ex => match ex with | .norm => [(0, none), (1, none), (17, none), (18, none), (19, none)] | .exit i => if i = 0 then [] else [] | .ret => [(4, none)]), [(0, (.one (.si .i64))), (1, (.one (.sl (.pair (.int .i64) (.int .i64)) false false))), (17, (.one (.sl (.pair (.int .i64) (.int .i64)) false false))), (18, (.one (.si .i64))), (19, (.one (.si .i64)))], [], [⟨.ret, [(4, (.one .sb))], []⟩, ⟨(.exit 0), [], []⟩], [], []⟩
noncomputable def F106_L4_step : (Int × List ((Int × Int)) × List ((Int × Int)) × Int × Int) → T ((Int × List ((Int × Int)) × List ((Int × Int)) × Int × Int) ⊕ (Bool ⊕ Unit)) := fun (n, ds, t17, t18, t19) =>
 (.test (decide (t19 < t18))
 (.test (decide ((0 ≤ t19) ∧ (t19 < (t17.length : Int))))
 (.sub (t17[(Int.toNat t19)]?) fun z0 =>
 (.sub (F58 (n, (z0.1, z0.2))) fun z1 =>
 (.test (! z1)
 (.ret (Sum.inr (Sum.inl false)))
 (.test (decide (t19 > 0))
 (.test (decide ((0 ≤ (w64 (t19 - 1))) ∧ ((w64 (t19 - 1)) < (ds.length : Int))))
 (.sub (ds[(Int.toNat (w64 (t19 - 1)))]?) fun z2 =>
 (.sub (F25 ((z2.1, z2.2), (z0.1, z0.2))) fun z3 =>
 (.test (decide (z3 ≥ 0))
 (.ret (Sum.inr (Sum.inl false)))
 (.test (decide (0 ≤ t19))
 (.test (decide ((0 ≤ (Int.toNat t19)) ∧ ((Int.toNat t19) ≤ ds.length)))
 (.sub (F83 ((win ds 0 ((Int.toNat t19) - 0)), (z0.1, z0.2))) fun z4 =>
 (.test z4
 (.ret (Sum.inr (Sum.inl false)))
 (.ret (Sum.inl (n, (ds, (t17, (t18, (w64 (t19 + 1))))))))))
 .fail)
 .fail))))
 .fail)
 (.test (decide (0 ≤ t19))
 (.test (decide ((0 ≤ (Int.toNat t19)) ∧ ((Int.toNat t19) ≤ ds.length)))
 (.sub (F83 ((win ds 0 ((Int.toNat t19) - 0)), (z0.1, z0.2))) fun z5 =>
 (.test z5
 (.ret (Sum.inr (Sum.inl false)))
 (.ret (Sum.inl (n, (ds, (t17, (t18, (w64 (t19 + 1))))))))))
 .fail)
 .fail)))))
 .fail)
 (.ret (Sum.inr (Sum.inr ()))))
noncomputable def F106_L4 (v) := loopO (fun v => (F106_L4_step v).run) v
def F106_fo : List FO := [⟨[(.one .sb)], []⟩]
noncomputable def F106_t : (Int × List ((Int × Int))) → T Bool := fun (n, ds) =>
 (.sub (F70 n) fun z0 =>
 (.test (! z0)
 (.ret false)
 (.test (decide ((ds.length : Int) > (w64 (n - 3))))
 (.ret false)
 (.sub (F106_L4 (n, (ds, (ds, ((ds.length : Int), (0 : Int)))))) fun z1 =>
 (.test (Sum.isLeft z1)
 (.sub (Sum.getLeft? z1) fun z2 =>
 (.ret z2))
 (.sub (Sum.getRight? z1) fun z3 =>
 (.ret true)))))))
noncomputable def F106 (v) := (F106_t v).run
noncomputable def F106_E : TEnv := ((((E0.add1 n_F70 F70_sh F70_fo F70).add1 n_F58 F58_sh F58_fo F58).add1 n_F25 F25_sh F25_fo F25).add1 n_F83 F83_sh F83_fo F83)
theorem F106_Eok : (F106_E).OK := ((((E0ok.add1 F70_ok).add1 F58_ok).add1 F25_ok).add1 F83_ok)
noncomputable def F106_told : Nat → Option SealT := fun id => if id = 4 then some (LSh.told F106_L4_sh 0 (F106_L4_step)) else none
theorem F106_L4_ok : ToldOK Tryz.prog 0 (loopAt (bodyOf fn_F106) [0]) (LSh.told F106_L4_sh 0 (F106_L4_step)) :=
 loop_ok (E := F106_E) (F106_Eok) (told := F106_told) (l := F106_L4_sh) (step := F106_L4_step) (loopsOK_of (ls := []) (by kernel_rfl) trivial) (by kernel_rfl) (fun v => by kernel_rfl)
theorem F106_ok : FOK Tryz.prog n_F106 F106_sh F106_fo F106 :=
 fn_ok (E := F106_E) (F106_Eok) (told := F106_told) (fl := []) (c := bodyOf fn_F106) (s := F106_sh) (l := F106_fo) (tree := F106_t) fnat_F106 (by kernel_rfl) (by kernel_rfl) (by kernel_rfl) (loopsOK_of (ls := [loopAt (bodyOf fn_F106) [0]]) (by kernel_rfl) ⟨.inr ⟨_, by kernel_rfl, F106_L4_ok⟩, trivial⟩) (fun v => by kernel_rfl)
theorem F106_eq (n : Int) (ds : List Dg) (hl : ds.length < 4611686018427387904) : F106 (n, ds) = some (isCut n ds) := by
 simp only [F106, F106_t, T.run, F70, F70_t, F92_eq, Option.bind_some, isCut]
 cases hn : inB 3 12 n with
 | false => simp
 | true =>
  rw [inB_iff] at hn
  rw [w64_id (z := n - 3) (by omega) (by omega)]
  by_cases he : (ds.length : Int) ≤ n - 3
  ·have h := loop_any (step := fun v => (F106_L4_step v).run) (xs := List.range ds.length) (badT n ds) (fun k => (n, (ds, (ds, ((ds.length : Int), (k : Int)))))) (.inl false) (.inr ())
    (fun k x hx => by
     obtain ⟨hk, e⟩ := List.getElem?_eq_some_iff.1 hx
     simp only [List.getElem_range] at e
     subst e
     rw [List.length_range] at hk
     have g0 := gD_some hk
     have c0 : (k : Int) < (ds.length : Int) := by omega
     have c1 : (0 : Int) ≤ (k : Int) ∧ (k : Int) < (ds.length : Int) := by omega
     have w1 : w64 ((k : Int) + 1) = ((k + 1 : Nat) : Int) := by rw [w64_id (by omega) (by omega)]; omega
     have c2 : 0 ≤ k ∧ k ≤ ds.length := by omega
     have c3 : (0 : Int) ≤ (k : Int) := by omega
     have tw : win ds 0 (k - 0) = ds.take k := win_take _ _
     have hlt : (ds.take k).length < 4611686018427387904 := by simp; omega
     have hcr : F83 (ds.take k, ((gD ds k).1, (gD ds k).2)) = some ((ds.take k).any (crossD (gD ds k))) := F83_eq _ _ hlt
     simp only [F106_L4_step, T.run, c0, c1, c2, c3, decide_true, if_true, and_self, Int.toNat_natCast, g0, Option.bind_some, F58_eq n (gD ds k) (by omega) (by omega), tw, hcr, w1, badT]
     rcases Bool.eq_false_or_eq_true (inDg n (gD ds k)) with hd | hd
     rotate_left
     ·simp [hd]
     ·simp only [hd]
      by_cases hk0 : 0 < k
      ·have w2 : w64 ((k : Int) - 1) = ((k - 1 : Nat) : Int) := by rw [w64_id (by omega) (by omega)]; omega
       have c4 : (0 : Int) ≤ ((k - 1 : Nat) : Int) ∧ ((k - 1 : Nat) : Int) < (ds.length : Int) := by omega
       have g1 := gD_some (show k - 1 < ds.length by omega)
       have c5 : (k : Int) > 0 := by omega
       simp only [w2, c4, c5, decide_true, if_true, and_self, Int.toNat_natCast, g1, Option.bind_some, F25_eq, cmpD_ge, hk0]
       cases ltD (gD ds (k - 1)) (gD ds k) <;> simp
       cases (ds.take k).any (crossD (gD ds k)) <;> simp
      ·have c5 : ¬ (k : Int) > 0 := by omega
       simp only [c5, decide_false, hk0, if_false]
       cases (ds.take k).any (crossD (gD ds k)) <;> simp)
    (by simp [F106_L4_step, T.run])
   rw [show ((0 : Nat) : Int) = 0 from rfl] at h
   have he' : ¬ ((ds.length : Int) > n - 3) := by omega
   simp only [F106_L4, h, he', decide_eq_true he, decide_eq_false he']
   cases (List.range ds.length).any (badT n ds) <;> simp
  ·have he' : (ds.length : Int) > n - 3 := by omega
   simp [he, he']
def F35_sh : FSh := ⟨[(.one (.sl (.int .i64) false false)), (.one (.si .i64))], []⟩
def F35_L2_sh : LSh := ⟨(fun ex => match ex with | .norm => [(0, none), (1, none), (7, none), (8, none)] | .exit i => if i = 0 then [] else [] | .ret => [(4, none)]), [(0, (.one (.sl (.int .i64) false false))), (1, (.one (.si .i64))), (7, (.one (.si .i64))), (8, (.one (.si .i64)))], [], [⟨.ret, [(4, (.one (.si .i64)))], []⟩, ⟨(.exit 0), [], []⟩], [], []⟩
noncomputable def F35_L2_step : (List (Int) × Int × Int × Int) → T ((List (Int) × Int × Int × Int) ⊕ (Int ⊕ Unit)) := fun (s, v, t7, t8) =>
 (.test (decide (t8 < t7))
 (.test (decide ((0 ≤ t8) ∧ (t8 < (s.length : Int))))
 (.sub (s[(Int.toNat t8)]?) fun z0 =>
 (.test (v == z0)
 (.ret (Sum.inr (Sum.inl t8)))
 (.ret (Sum.inl (s, (v, (t7, (w64 (t8 + 1)))))))))
 .fail)
 (.ret (Sum.inr (Sum.inr ()))))
noncomputable def F35_L2 (v) := loopO (fun v => (F35_L2_step v).run) v
def F35_fo : List FO := [⟨[(.one (.si .i64))], []⟩]
noncomputable def F35_t : (List (Int) × Int) → T Int := fun (s, v) =>
 (.sub (F35_L2 (s, (v, ((s.length : Int), (0 : Int))))) fun z0 =>
 (.test (Sum.isLeft z0)
 (.sub (Sum.getLeft? z0) fun z1 =>
 (.ret z1))
 (.sub (Sum.getRight? z0) fun z2 =>
 (.ret (-1)))))
noncomputable def F35 (v) := (F35_t v).run
noncomputable def F35_E : TEnv := E0
theorem F35_Eok : (F35_E).OK := E0ok
noncomputable def F35_told : Nat → Option SealT := fun id => if id = 2 then some (LSh.told F35_L2_sh 0 (F35_L2_step)) else none
theorem F35_L2_ok : ToldOK Tryz.prog 0 (loopAt (bodyOf fn_F35) [0]) (LSh.told F35_L2_sh 0 (F35_L2_step)) :=
 loop_ok (E := F35_E) (F35_Eok) (told := F35_told) (l := F35_L2_sh) (step := F35_L2_step) (loopsOK_of (ls := []) (by kernel_rfl) trivial) (by kernel_rfl) (fun v => by kernel_rfl)
theorem F35_ok : FOK Tryz.prog n_F35 F35_sh F35_fo F35 :=
 fn_ok (E := F35_E) (F35_Eok) (told := F35_told) (fl := []) (c := bodyOf fn_F35) (s := F35_sh) (l := F35_fo) (tree := F35_t) fnat_F35 (by kernel_rfl) (by kernel_rfl) (by kernel_rfl) (loopsOK_of (ls := [loopAt (bodyOf fn_F35) [0]]) (by kernel_rfl) ⟨.inr ⟨_, by kernel_rfl, F35_L2_ok⟩, trivial⟩) (fun v => by kernel_rfl)
theorem F35_eq (s : List Int) (v : Int) (hl : s.length < 4611686018427387904) : F35 (s, v) = some (idxI (fun x => v == x) s) := by
 have h := loop_find (step := fun v => (F35_L2_step v).run) (xs := s) (fun x => v == x) (fun k => (s, (v, ((s.length : Int), (k : Int))))) (fun k => .inl (k : Int)) (.inr ())
  (fun k x hx => by
   have hlt := getElem?_lt hx
   have h1 : (k : Int) < (s.length : Int) := by omega
   have h2 : (0 : Int) ≤ k ∧ (k : Int) < (s.length : Int) := by omega
   simp only [F35_L2_step, T.run, Int.toNat_natCast, hx, Option.bind_some, h1, h2, decide_true, if_true, and_self]
   rw [w64_id (z := (k : Int) + 1) (by omega) (by omega)]
   cases hv : (v == x) <;> simp [hv])
  (by simp [F35_L2_step, T.run])
 rw [show ((0 : Nat) : Int) = 0 from rfl] at h
 simp only [F35, F35_t, T.run, F35_L2]
 rw [h]
 simp only [idxI]
 cases hf : s.findIdx? (fun x => v == x) <;> simp [Sum.isLeft, hf]
def F40_sh : FSh := ⟨[.one (.nl true true), .one (.si .i64)], []⟩
def F40_fo : List FO := [⟨[.one (.rw 0 0)], [.row 0 (.int .i64)]⟩]
def F40 (v : Unit × Int) : Option (Unit × List Int) := if 0 ≤ v.2 ∧ v.2 ≤ 1000000000000 ∧ v.2.toNat * 8 ≤ 140737488355328 then some ((), []) else none
def F40_ren : Shelf.Ren := ⟨fun _ => n_F40, fun t => if t = 0 then 0 else if t = 4 then 4 else if t = 9 then 9 else if t = 20 then 20 else if t = 22 then 44 else 3, fun x => x⟩
theorem F40_lay : Lays8.n4 Tryz.prog F40_ren :=
 { f4 := ⟨"slices.Grow[[]int,int]", by kernel_rfl, by kernel_rfl⟩, mixed := by kernel_rfl, t0 := by kernel_rfl, a0 := fun w => by kernel_rfl, z0 := fun w => by kernel_rfl, v0 := fun w => by kernel_rfl, t3 := by kernel_rfl, a3 := fun w => by kernel_rfl, z3 := fun w => by kernel_rfl, v3 := fun w => by kernel_rfl, t4 := by kernel_rfl, a4 := fun w => by kernel_rfl, z4 := fun w => by kernel_rfl, v4 := fun w => by kernel_rfl, t9 := by kernel_rfl, a9 := fun w => by kernel_rfl, z9 := fun w => by kernel_rfl, v9 := fun w => by kernel_rfl, t20 := by kernel_rfl, a20 := fun w => by kernel_rfl, z20 := fun w => by kernel_rfl, v20 := fun w => by kernel_rfl, t22 := by kernel_rfl, a22 := fun w => by kernel_rfl, z22 := fun w => by kernel_rfl, v22 := fun w => by kernel_rfl }
noncomputable def F40_info : TypeInfo := (Tryz.prog.info? 3).get (by kernel_rfl)
theorem F40_ok : FOK Tryz.prog n_F40 F40_sh F40_fo F40 :=
 grow_ok ⟨_, fnat_F40, by kernel_rfl, by kernel_rfl⟩ (ρr := F40_ren) rfl F40_lay (.int .i64) F40_info (.int .i64 0) (by kernel_rfl) (by kernel_rfl) (by kernel_rfl) (by decide) 8 (by kernel_rfl)
def F28_sh : FSh := ⟨[(.one (.sl (.list true (.int .i64)) false false))], []⟩
def F28_L3_sh : LSh := ⟨(fun ex => match ex with | .norm => [(0, none), (3, none), (9, none), (10, none), (11, none)] | .exit i => if i = 0 then [(0, none), (3, none)] else [] | .ret => [(2, none)]), [(0, (.one (.sl (.list true (.int .i64)) false false))), (3, (.one (.si .i64))), (9, (.one (.sl (.list true (.int .i64)) false false))), (10, (.one (.si .i64))), (11, (.one (.si .i64)))], [], [⟨(.exit 0), [(0, (.one (.sl (.list true (.int .i64)) false false))), (3, (.one (.si .i64)))], []⟩], [], []⟩
noncomputable def F28_L3_step : (List (List (Int)) × Int × List (List (Int)) × Int × Int) → T ((List (List (Int)) × Int × List (List (Int)) × Int × Int) ⊕ (List (List (Int)) × Int)) := fun (slices, size, t9, t10, t11) =>
 (.test (decide (t11 < t10))
 (.test (decide ((0 ≤ t11) ∧ (t11 < (t9.length : Int))))
 (.sub (t9[(Int.toNat t11)]?) fun z0 =>
 (.test (decide ((w64 (size + (z0.length : Int))) < 0))
 .fail
 (.ret (Sum.inl (slices, ((w64 (size + (z0.length : Int))), (t9, (t10, (w64 (t11 + 1))))))))))
 .fail)
 (.ret (Sum.inr (slices, size))))
noncomputable def F28_L3 (v) := loopO (fun v => (F28_L3_step v).run) v
def F28_L11_sh : LSh := ⟨(fun ex => match ex with | .norm => [(6, none), (25, none), (26, none), (27, none)] | .exit i => if i = 2 then [(6, none)] else [] | .ret => [(2, none)]), [(6, (.one (.rw 0 0))), (25, (.one (.sl (.list true (.int .i64)) false false))), (26, (.one (.si .i64))), (27, (.one (.si .i64)))], [(.row 0 (.int .i64))], [⟨(.exit 2), [(6, (.one (.rw 0 0)))], [(.row 0 (.int .i64))]⟩], [], []⟩
noncomputable def F28_L11_step : ((Unit × List (List (Int)) × Int × Int) × List (Int)) → T (((Unit × List (List (Int)) × Int × Int) × List (Int)) ⊕ (Unit × List (Int))) := fun (((), t25, t26, t27), newslice) =>
 (.test (decide (t27 < t26))
 (.test (decide ((0 ≤ t27) ∧ (t27 < (t25.length : Int))))
 (.sub (t25[(Int.toNat t27)]?) fun z0 =>
 (.test (decide ((0 + newslice.length) ≤ newslice.length))
 (.test (decide ((2 * ((newslice.length + z0.length) * 9)) ≤ 140737488355328))
 (.test (decide ((0 = 0) ∧ ((newslice.length + z0.length) = (List.length ((win newslice 0 newslice.length) ++ z0)))))
 (.ret (Sum.inl (((), (t25, (t26, (w64 (t27 + 1))))), ((win newslice 0 newslice.length) ++ z0))))
 .fail)
 .fail)
 .fail))
 .fail)
 (.test (decide ((0 = 0) ∧ (newslice.length = newslice.length)))
 (.ret (Sum.inr ((), newslice)))
 .fail))
noncomputable def F28_L11 (v) := loopO (fun v => (F28_L11_step v).run) v
def F28_fo : List FO := [⟨[(.one (.rw 0 0))], [(.row 0 (.int .i64))]⟩]
noncomputable def F28_t : List (List (Int)) → T (Unit × List (Int)) := fun slices =>
 (.sub (F28_L3 (slices, ((0 : Int), (slices, ((slices.length : Int), (0 : Int)))))) fun z0 =>
 (.sub (F40 ((), z0.2)) fun z1 =>
 (.test (decide ((0 = 0) ∧ (z1.2.length = z1.2.length)))
 (.sub (F28_L11 (((), (z0.1, ((z0.1.length : Int), (0 : Int)))), z1.2)) fun z2 =>
 (.test (decide ((0 = 0) ∧ (z2.2.length = z2.2.length)))
 (.ret ((), z2.2))
 .fail))
 .fail)))
noncomputable def F28 (v) := (F28_t v).run
noncomputable def F28_E : TEnv := (E0.add1 n_F40 F40_sh F40_fo F40)
theorem F28_Eok : (F28_E).OK := (E0ok.add1 F40_ok)
noncomputable def F28_told : Nat → Option SealT := fun id => if id = 3 then some (LSh.told F28_L3_sh 0 (F28_L3_step)) else if id = 11 then some (LSh.told F28_L11_sh 0 (F28_L11_step)) else none
theorem F28_L3_ok : ToldOK Tryz.prog 0 (loopAt (bodyOf fn_F28) [0]) (LSh.told F28_L3_sh 0 (F28_L3_step)) :=
 loop_ok (E := F28_E) (F28_Eok) (told := F28_told) (l := F28_L3_sh) (step := F28_L3_step) (loopsOK_of (ls := []) (by kernel_rfl) trivial) (by kernel_rfl) (fun v => by kernel_rfl)
theorem F28_L11_ok : ToldOK Tryz.prog 0 (loopAt (bodyOf fn_F28) [1]) (LSh.told F28_L11_sh 0 (F28_L11_step)) :=
 loop_ok (E := F28_E) (F28_Eok) (told := F28_told) (l := F28_L11_sh) (step := F28_L11_step) (loopsOK_of (ls := []) (by kernel_rfl) trivial) (by kernel_rfl) (fun v => by kernel_rfl)
theorem F28_ok : FOK Tryz.prog n_F28 F28_sh F28_fo F28 :=
 fn_ok (E := F28_E) (F28_Eok) (told := F28_told) (fl := []) (c := bodyOf fn_F28) (s := F28_sh) (l := F28_fo) (tree := F28_t) fnat_F28 (by kernel_rfl) (by kernel_rfl) (by kernel_rfl) (loopsOK_of (ls := [loopAt (bodyOf fn_F28) [0], loopAt (bodyOf fn_F28) [1]]) (by kernel_rfl) ⟨.inr ⟨_, by kernel_rfl, F28_L3_ok⟩, ⟨.inr ⟨_, by kernel_rfl, F28_L11_ok⟩, trivial⟩⟩) (fun v => by kernel_rfl)
theorem F28_two (a b : List Int) (hl : a.length + b.length ≤ 1000) : F28 [a, b] = some ((), a ++ b) := by
 have h3 : F28_L3 ([a, b], ((0 : Int), ([a, b], ((2 : Int), (0 : Int))))) = some ([a, b], ((a.length + b.length : Nat) : Int)) := by
  simp only [F28_L3]
  have w0 : w64 (a.length : Int) = (a.length : Int) := w64_id (by omega) (by omega)
  have w1 : w64 (1 : Int) = 1 := w64_id (by omega) (by omega)
  have w2 : w64 ((a.length : Int) + (b.length : Int)) = ((a.length + b.length : Nat) : Int) := by rw [w64_id (by omega) (by omega)]; omega
  have w3 : w64 ((1 : Int) + 1) = 2 := w64_id (by omega) (by omega)
  have c0 : ¬ ((a.length : Int) < 0) := by omega
  have c1 : ¬ (((a.length + b.length : Nat) : Int) < 0) := by omega
  have s1 : (F28_L3_step ([a, b], ((0 : Int), ([a, b], ((2 : Int), (0 : Int)))))).run = some (.inl ([a, b], ((a.length : Int), ([a, b], ((2 : Int), (1 : Int)))))) := by
   simp [F28_L3_step, T.run, w0, w1, c0]
  have s2 : (F28_L3_step ([a, b], ((a.length : Int), ([a, b], ((2 : Int), (1 : Int)))))).run = some (.inl ([a, b], (((a.length + b.length : Nat) : Int), ([a, b], ((2 : Int), (2 : Int)))))) := by
   simp only [F28_L3_step, T.run, w2, w3]
   simp [c1]
   omega
  have s3 : (F28_L3_step ([a, b], (((a.length + b.length : Nat) : Int), ([a, b], ((2 : Int), (2 : Int)))))).run = some (.inr ([a, b], ((a.length + b.length : Nat) : Int))) := by
   simp [F28_L3_step, T.run]
  rw [loopO_next s1, loopO_next s2, loopO_done s3]
 have hg : F40 ((), ((a.length + b.length : Nat) : Int)) = some ((), []) := by
  unfold F40
  rw [if_pos ⟨by simp only []; omega, by simp only []; omega, by simp only []; omega⟩]
 have h11 : F28_L11 (((), ([a, b], ((2 : Int), (0 : Int)))), ([] : List Int)) = some ((), a ++ b) := by
  simp only [F28_L11]
  have w1 : w64 (1 : Int) = 1 := w64_id (by omega) (by omega)
  have w3 : w64 (2 : Int) = 2 := w64_id (by omega) (by omega)
  have c0 : 2 * (a.length * 9) ≤ 140737488355328 := by omega
  have c1 : 2 * ((a.length + b.length) * 9) ≤ 140737488355328 := by omega
  have hw : win ([] : List Int) 0 0 = [] := rfl
  have s1 : (F28_L11_step (((), ([a, b], ((2 : Int), (0 : Int)))), ([] : List Int))).run = some (.inl (((), ([a, b], ((2 : Int), (1 : Int)))), a)) := by
   simp [F28_L11_step, T.run, w1, c0, hw]
  have s2 : (F28_L11_step (((), ([a, b], ((2 : Int), (1 : Int)))), a)).run = some (.inl (((), ([a, b], ((2 : Int), (2 : Int)))), a ++ b)) := by
   simp [F28_L11_step, T.run, w3, c1, win_all]
  have s3 : (F28_L11_step (((), ([a, b], ((2 : Int), (2 : Int)))), a ++ b)).run = some (.inr ((), a ++ b)) := by
   simp [F28_L11_step, T.run]
  rw [loopO_next s1, loopO_next s2, loopO_done s3]
 simp only [F28, F28_t, T.run, List.length_cons, List.length_nil]
 have e2 : ((0 + 1 + 1 : Nat) : Int) = 2 := rfl
 simp only [e2, h3, Option.bind_some, hg, List.length_nil, true_and, decide_true, if_true, List.length_cons, h11]
def F36_sh : FSh := ⟨[.one (.sl (.int .i64) false false)], []⟩
def F36_fo : List FO := [⟨[.one (.rw 0 0)], [.row 0 (.int .i64)]⟩]
def F36 (v : List Int) : Option (Unit × List Int) := if v.length ≤ maxLen ∧ v.length * 8 ≤ 140737488355328 then some ((), v) else none
def F36_ren : Shelf.Ren := ⟨fun _ => n_F36, fun t => if t = 4 then 4 else if t = 22 then 44 else 3, fun x => x⟩
theorem F36_lay : SlLaysE0.n41 Tryz.prog F36_ren :=
 { mixed := by kernel_rfl, f41 := ⟨"slices.Clone[[]int,int]", by kernel_rfl, by kernel_rfl⟩, t4 := by kernel_rfl, a4 := fun w => by kernel_rfl, z4 := fun w => by kernel_rfl, v4 := fun w => by kernel_rfl, t22 := by kernel_rfl, a22 := fun w => by kernel_rfl, z22 := fun w => by kernel_rfl, v22 := fun w => by kernel_rfl }
noncomputable def F36_info : TypeInfo := (Tryz.prog.info? 3).get (by kernel_rfl)
theorem F36_ok : FOK Tryz.prog n_F36 F36_sh F36_fo F36 :=
 clone_ok (e := .int .i64) ⟨_, fnat_F36, by kernel_rfl, by kernel_rfl⟩ (ρr := F36_ren) rfl F36_lay rfl F36_info (.int .i64 0) 8 (by kernel_rfl) (by kernel_rfl) (by kernel_rfl) (by kernel_rfl) (by decide) (by decide) (fun w => by kernel_rfl)
def F8_sh : FSh := ⟨[.one (.rw 0 0), .one (.fn n_F26)], [.row 0 (.list true (.int .i64))]⟩
def F8_fo : List FO := [⟨[], [.row 0 (.list true (.int .i64))]⟩]
def F8 (v : (Unit × Unit) × List (List Int)) : Option (Unit × List (List Int)) := if v.2.length < 4611686018427387904 ∧ v.2.all (fun l => decide (l.length ≤ 9223372036854775807)) = true then some ((), sortLL v.2) else none
def F8_ren : Shelf.Ren := ⟨fun k => if k = 14 then 137 else if k = 15 then 135 else if k = 20 then 154 else if k = 21 then 155 else if k = 22 then 156 else if k = 23 then 157 else if k = 24 then 158 else if k = 25 then 159 else if k = 26 then 160 else if k = 27 then 161 else if k = 28 then 152 else if k = 29 then 153 else if k = 46 then 177 else if k = 47 then 173 else if k = 48 then 174 else if k = 49 then 178 else if k = 50 then 179 else if k = 57 then 184 else 118, fun t => if t = 0 then 0 else if t = 4 then 4 else if t = 5 then 5 else if t = 9 then 9 else if t = 22 then 55 else if t = 24 then 44 else if t = 25 then 103 else if t = 39 then 113 else if t = 45 then 124 else if t = 46 then 125 else if t = 50 then 29 else if t = 53 then 131 else if t = 55 then 69 else if t = 66 then 147 else if t = 70 then 151 else if t = 76 then 157 else if t = 77 then 24 else 3, fun x => x⟩
theorem F8_lay : SlLaysF.n6 Tryz.prog F8_ren :=
 { mixed := by kernel_rfl, f6 := ⟨"slices.SortFunc[[][]int,[]int]", by kernel_rfl, by kernel_rfl⟩, f14 := ⟨"slices.pdqsortCmpFunc[[]int]", by kernel_rfl, by kernel_rfl⟩, f15 := by kernel_rfl, f20 := ⟨"slices.insertionSortCmpFunc[[]int]", by kernel_rfl, by kernel_rfl⟩, f21 := ⟨"slices.heapSortCmpFunc[[]int]", by kernel_rfl, by kernel_rfl⟩, f22 := ⟨"slices.breakPatternsCmpFunc[[]int]", by kernel_rfl, by kernel_rfl⟩, f23 := ⟨"slices.choosePivotCmpFunc[[]int]", by kernel_rfl, by kernel_rfl⟩, f24 := ⟨"slices.reverseRangeCmpFunc[[]int]", by kernel_rfl, by kernel_rfl⟩, f25 := ⟨"slices.partialInsertionSortCmpFunc[[]int]", by kernel_rfl, by kernel_rfl⟩, f26 := ⟨"slices.partitionEqualCmpFunc[[]int]", by kernel_rfl, by kernel_rfl⟩, f27 := ⟨"slices.partitionCmpFunc[[]int]", by kernel_rfl, by kernel_rfl⟩, f28 := by kernel_rfl, f29 := by kernel_rfl, f46 := ⟨"slices.siftDownCmpFunc[[]int]", by kernel_rfl, by kernel_rfl⟩, f47 := by kernel_rfl, f48 := by kernel_rfl, f49 := ⟨"slices.medianAdjacentCmpFunc[[]int]", by kernel_rfl, by kernel_rfl⟩, f50 := ⟨"slices.medianCmpFunc[[]int]", by kernel_rfl, by kernel_rfl⟩, f57 := ⟨"slices.order2CmpFunc[[]int]", by kernel_rfl, by kernel_rfl⟩, t0 := by kernel_rfl, a0 := fun w => by kernel_rfl, z0 := fun w => by kernel_rfl, v0 := fun w => by kernel_rfl, t3 := by kernel_rfl, a3 := fun w => by kernel_rfl, z3 := fun w => by kernel_rfl, v3 := fun w => by kernel_rfl, t4 := by kernel_rfl, a4 := fun w => by kernel_rfl, z4 := fun w => by kernel_rfl, v4 := fun w => by kernel_rfl, t5 := by kernel_rfl, a5 := fun w => by kernel_rfl, z5 := fun w => by kernel_rfl, v5 := fun w => by kernel_rfl, t9 := by kernel_rfl, a9 := fun w => by kernel_rfl, z9 := fun w => by kernel_rfl, v9 := fun w => by kernel_rfl, t22 := by kernel_rfl, a22 := fun w => by kernel_rfl, z22 := fun w => by kernel_rfl, v22 := fun w => by kernel_rfl, a24 := fun w => by kernel_rfl, z24 := fun w => by kernel_rfl, t25 := by kernel_rfl, a25 := fun w => by kernel_rfl, z25 := fun w => by kernel_rfl, v25 := fun w => by kernel_rfl, t39 := by kernel_rfl, a39 := fun w => by kernel_rfl, z39 := fun w => by kernel_rfl, v39 := fun w => by kernel_rfl, t45 := by kernel_rfl, a45 := fun w => by kernel_rfl, z45 := fun w => by kernel_rfl, v45 := fun w => by kernel_rfl, t46 := by kernel_rfl, a46 := fun w => by kernel_rfl, z46 := fun w => by kernel_rfl, v46 := fun w => by kernel_rfl, t50 := by kernel_rfl, a50 := fun w => by kernel_rfl, z50 := fun w => by kernel_rfl, v50 := fun w => by kernel_rfl, t53 := by kernel_rfl, a53 := fun w => by kernel_rfl, z53 := fun w => by kernel_rfl, v53 := fun w => by kernel_rfl, t55 := by kernel_rfl, a55 := fun w => by kernel_rfl, z55 := fun w => by kernel_rfl, v55 := fun w => by kernel_rfl, t66 := by kernel_rfl, a66 := fun w => by kernel_rfl, z66 := fun w => by kernel_rfl, v66 := fun w => by kernel_rfl, t70 := by kernel_rfl, a70 := fun w => by kernel_rfl, z70 := fun w => by kernel_rfl, v70 := fun w => by kernel_rfl, t76 := by kernel_rfl, a76 := fun w => by kernel_rfl, z76 := fun w => by kernel_rfl, v76 := fun w => by kernel_rfl, t77 := by kernel_rfl, a77 := fun w => by kernel_rfl, z77 := fun w => by kernel_rfl, v77 := fun w => by kernel_rfl }
def F8_cr : Shelf.Ren := ⟨fun k => if k = 122 then 108 else 131, fun t => if t = 4 then 4 else 3, fun x => x⟩
theorem F8_cl : Lays.n122 Tryz.prog F8_cr := { mixed := by kernel_rfl, f122 := by kernel_rfl, f215 := by kernel_rfl, t3 := by kernel_rfl, a3 := fun w => by kernel_rfl, z3 := fun w => by kernel_rfl, v3 := fun w => by kernel_rfl, t4 := by kernel_rfl, a4 := fun w => by kernel_rfl, z4 := fun w => by kernel_rfl, v4 := fun w => by kernel_rfl }
theorem F8_c1 (x y : Int) (w : World) : Calls Tryz.prog 108 #[.int .i64 x, .int .i64 y] w fun e w' => e = .returned (.int .i64 (Lib.compareInt x y)) ∧ w' = w := Any.cmp_Compare_int F8_cl x y w
theorem F8_dr {xs ys : List Int} : ∀ {k : Nat}, (∀ j, j < k → xs.getD j 0 = ys.getD j 0) → k ≤ xs.length → k ≤ ys.length → cmpL xs ys = cmpL (xs.drop k) (ys.drop k)
 | 0, _, _, _ => rfl
 | k + 1, h, h1, h2 => by
  match xs, ys, h, h1, h2 with
  | x :: xs, y :: ys, h, h1, h2 =>
   have h0 := h 0 (by omega)
   simp only [List.getD_cons_zero] at h0
   subst h0
   have ih := F8_dr (xs := xs) (ys := ys) (k := k) (fun j hj => by simpa using h (j + 1) (by omega)) (by simpa using h1) (by simpa using h2)
   simpa [cmpL] using ih
set_option maxHeartbeats 2000000 in
set_option maxRecDepth 100000 in
theorem F8_cw (a1 a2 : Option Addr) (c1 c2 b1 o1 b2 o2 n m : Nat) (xs ys : List Int) (w : World) (hn : n = xs.length) (hm : m = ys.length) (hx : n ≤ 9223372036854775807) (hy : m ≤ 9223372036854775807) (h1 : 0 < n → a1 = some ⟨b1, o1, none⟩) (h2 : 0 < m → a2 = some ⟨b2, o2, none⟩)
  (hc1 : ∀ j, j < n → w.cell? ⟨b1, o1 + j, none⟩ = some (.int .i64 (xs.getD j 0))) (hc2 : ∀ j, j < m → w.cell? ⟨b2, o2 + j, none⟩ = some (.int .i64 (ys.getD j 0))) :
  Calls Tryz.prog 119 #[.slice a1 n c1, .slice a2 m c2] w fun e w' => e = .returned (.int .i64 (cmpL xs ys)) ∧ ∃ q, w' = w.drewN q := by
 have mixed : Tryz.prog.follows .mixedOrders = true := by kernel_rfl
 have t0 : Tryz.prog.underlying 0 = some (TypeDesc.tuple #[]) := by kernel_rfl
 have a0 : ∀ w, (isAgg 0).run Tryz.prog w = .ok false w := fun w => by kernel_rfl
 have z0 : ∀ w, (Go.sizeOf 0).run Tryz.prog w = .ok 1 w := fun w => by kernel_rfl
 have v0 : ∀ w, (zeroValue 0).run Tryz.prog w = .ok (Value.tuple #[]) w := fun w => by kernel_rfl
 have t3 : Tryz.prog.underlying 3 = some (TypeDesc.int IntKind.i64) := by kernel_rfl
 have a3 : ∀ w, (isAgg 3).run Tryz.prog w = .ok false w := fun w => by kernel_rfl
 have z3 : ∀ w, (Go.sizeOf 3).run Tryz.prog w = .ok 1 w := fun w => by kernel_rfl
 have v3 : ∀ w, (zeroValue 3).run Tryz.prog w = .ok (Value.int IntKind.i64 0) w := fun w => by kernel_rfl
 have t4 : Tryz.prog.underlying 4 = some (TypeDesc.bool) := by kernel_rfl
 have a4 : ∀ w, (isAgg 4).run Tryz.prog w = .ok false w := fun w => by kernel_rfl
 have z4 : ∀ w, (Go.sizeOf 4).run Tryz.prog w = .ok 1 w := fun w => by kernel_rfl
 have v4 : ∀ w, (zeroValue 4).run Tryz.prog w = .ok (Value.bool false) w := fun w => by kernel_rfl
 have t22 : Tryz.prog.underlying 44 = some (TypeDesc.slice 3) := by kernel_rfl
 have a22 : ∀ w, (isAgg 44).run Tryz.prog w = .ok false w := fun w => by kernel_rfl
 have z22 : ∀ w, (Go.sizeOf 44).run Tryz.prog w = .ok 1 w := fun w => by kernel_rfl
 have v22 : ∀ w, (zeroValue 44).run Tryz.prog w = .ok (Value.slice none 0 0) w := fun w => by kernel_rfl
 have e104 : ∀ args w, (callFunc 108 args).run Tryz.prog w = .ok (.enter 108 args) w := enters_of Tryz.func108 (by kernel_rfl) rfl
 have K1 : Aside (∀ j, j < n → w.cell? ⟨b1, o1 + j, none⟩ = some (.int .i64 (xs.getD j 0))) := hc1
 have K2 : Aside (∀ j, j < m → w.cell? ⟨b2, o2 + j, none⟩ = some (.int .i64 (ys.getD j 0))) := hc2
 have KN : Aside (n = xs.length ∧ m = ys.length) := ⟨hn, hm⟩
 clear hc1 hc2 hn hm
 go_enter Tryz.func119, Tryz.ntmps119
 go_wp2
 go_loopg [11] n (fun g s11 wr => ∃ k q : Nat, k ≤ n ∧ k ≤ m ∧ n - k ≤ g ∧ s11 = .int .i64 k ∧ wr = w.drewN q ∧ Aside (∀ j, j < k → xs.getD j 0 = ys.getD j 0))
 case atStart => exact ⟨0, 0, Nat.zero_le _, Nat.zero_le _, by omega, rfl, rfl, fun j hj => absurd hj (Nat.not_lt_zero _)⟩
 case round =>
  obtain ⟨k, q, hk, hkm, hg, rfl, rfl, heq⟩ := hrel
  by_cases hlt : k < n
  ·obtain rfl := h1 (by omega)
   have g1 : w.cell? ⟨b1, o1 + k, none⟩ = some (.int .i64 (xs.getD k 0)) := K1.out k (by omega)
   generalize hxk : xs.getD k 0 = x at g1
   have B : Aside (xs.getD k 0 = x) := hxk
   clear hxk
   by_cases hlm : k < m
   ·obtain rfl := h2 (by omega)
    have g2 : w.cell? ⟨b2, o2 + k, none⟩ = some (.int .i64 (ys.getD k 0)) := K2.out k (by omega)
    generalize hyk : ys.getD k 0 = y at g2
    have B2 : Aside (ys.getD k 0 = y) := hyk
    clear hyk
    have hd : cmpL xs ys = if x < y then -1 else if y < x then 1 else cmpL (xs.drop (k + 1)) (ys.drop (k + 1)) := by
     obtain ⟨e1, e2⟩ := KN.out
     rw [F8_dr heq.out (by omega) (by omega), List.drop_eq_getElem_cons (i := k) (l := xs) (by omega), List.drop_eq_getElem_cons (i := k) (l := ys) (by omega)]
     rw [← B.out, ← B2.out, List.getD_eq_getElem?_getD, List.getD_eq_getElem?_getD, List.getElem?_eq_getElem (l := xs) (by omega), List.getElem?_eq_getElem (l := ys) (by omega)]
     rfl
    have D : Aside (cmpL xs ys = if x < y then -1 else if y < x then 1 else cmpL (xs.drop (k + 1)) (ys.drop (k + 1))) := hd
    clear hd
    rcases Int.lt_trichotomy x y with hxy | hxy | hxy
    ·have hc : Lib.compareInt x y = -1 := by unfold Lib.compareInt; rw [if_pos hxy]
     have DD : Aside (cmpL xs ys = -1) := by have := D.out; rwa [if_pos hxy] at this
     go_wp2_with fail
     refine (F8_c1 x y _).mono ?_
     rintro e w' ⟨rfl, rfl⟩
     rw [hc]
     go_wp2
     go_ret
     exact ⟨by rw [DD.out]; rfl, q, rfl⟩
    ·subst hxy
     have hc : Lib.compareInt x x = 0 := by unfold Lib.compareInt; rw [if_neg (Int.lt_irrefl x), if_neg (Int.lt_irrefl x)]
     go_wp2_with fail
     refine (F8_c1 x x _).mono ?_
     rintro e w' ⟨rfl, rfl⟩
     rw [hc]
     go_wp2
     go_roundg (n - (k + 1))
     case measure => omega
     case rel =>
      refine ⟨k + 1, q, by omega, by omega, by omega, by go_num, rfl, fun j hj => ?_⟩
      by_cases e : j = k
      ·subst e
       rw [B.out, B2.out]
      ·exact heq.out j (by omega)
    ·have hc : Lib.compareInt x y = 1 := by unfold Lib.compareInt; rw [if_neg (by omega), if_pos hxy]
     have DD : Aside (cmpL xs ys = 1) := by have := D.out; rwa [if_neg (by omega), if_pos hxy] at this
     go_wp2_with fail
     refine (F8_c1 x y _).mono ?_
     rintro e w' ⟨rfl, rfl⟩
     rw [hc]
     go_wp2
     go_ret
     exact ⟨by rw [DD.out]; rfl, q, rfl⟩
   ·have D0 : cmpL xs ys = 1 := by
     obtain ⟨e1, e2⟩ := KN.out
     have hkm' : k = m := by omega
     rw [F8_dr heq.out (by omega) (by omega), List.drop_eq_getElem_cons (i := k) (l := xs) (by omega), List.drop_of_length_le (l := ys) (by omega)]
     rfl
    have DD : Aside (cmpL xs ys = 1) := D0
    clear D0
    go_wp2_with fail
    go_ret
    exact ⟨by rw [DD.out]; rfl, q, rfl⟩
  ·have : k = n := by omega
   subst this
   obtain ⟨e1, e2⟩ := KN.out
   have hd : cmpL xs ys = cmpL [] (ys.drop k) := by
    rw [F8_dr heq.out (by omega) (by omega), List.drop_of_length_le (l := xs) (by omega)]
   by_cases hkm2 : k < m
   ·have DD : Aside (cmpL xs ys = -1) := by
     show _ = _
     rw [hd, List.drop_eq_getElem_cons (i := k) (l := ys) (by omega)]
     rfl
    clear hd e1 e2
    go_wp2
    go_ret
    exact ⟨by rw [DD.out]; rfl, q, rfl⟩
   ·have DD : Aside (cmpL xs ys = 0) := by
     show _ = _
     rw [hd, List.drop_of_length_le (l := ys) (by omega)]
     rfl
    clear hd e1 e2
    go_wp2
    go_ret
    exact ⟨by rw [DD.out]; rfl, q, rfl⟩
theorem F8_cok : CmpOK Tryz.prog 119 := by
 intro a1 c1 a2 c2 xs ys W hx hy h1 h2
 have split : ∀ (a : Option Addr) (xs : List Int), LInt W a xs → ∃ b o, (0 < xs.length → a = some ⟨b, o, none⟩) ∧ ∀ j, j < xs.length → W.cell? ⟨b, o + j, none⟩ = some (.int .i64 (xs.getD j 0)) := fun a xs h => by
  rcases h with rfl | ⟨b, o, ha, hc⟩
  ·exact ⟨0, 0, fun h => absurd h (Nat.lt_irrefl 0), fun j hj => absurd hj (Nat.not_lt_zero j)⟩
  ·exact ⟨b, o, fun _ => ha, fun j hj => hc j _ (by rw [List.getD_eq_getElem?_getD, List.getElem?_eq_getElem hj]; rfl)⟩
 obtain ⟨b1, o1, p1, q1⟩ := split a1 xs h1
 obtain ⟨b2, o2, p2, q2⟩ := split a2 ys h2
 exact F8_cw a1 a2 c1 c2 b1 o1 b2 o2 xs.length ys.length xs ys W rfl rfl hx hy p1 p2 q1 q2
theorem F8_ok : FOK Tryz.prog n_F23 F8_sh F8_fo F8 :=
 sortLists_ok ⟨_, fnat_F23, by kernel_rfl, by kernel_rfl⟩ (ρr := F8_ren) rfl F8_lay (enters_of fnat_F26 (by kernel_rfl) rfl) F8_cok
theorem lsL_ltL : ∀ a b : List Int, lsL a b = ltL a b
 | [], [] => rfl
 | [], y :: b => rfl
 | x :: a, [] => rfl
 | x :: a, y :: b => by
  have ih := lsL_ltL a b
  unfold lsL at ih ⊢
  unfold cmpL ltL
  split
  ·rfl
  ·split
   ·rfl
   ·exact ih
theorem F8_eq (x : List (List Int)) (h : x.length < 4611686018427387904) (hb : ∀ l ∈ x, l.length ≤ 9223372036854775807) : F8 (((), ()), x) = some ((), sortL x) := by
 unfold F8
 rw [if_pos ⟨h, List.all_eq_true.2 fun l hl => decide_eq_true (hb l hl)⟩]
 have e : sortL x = sortLL x := by
  refine sortLL_unique ((sortL_up x).imp fun {a b} hab => ?_) (sortL_perm x)
  rw [lsL_ltL]
  unfold leL at hab
  simpa using hab
 rw [e]
end Go.Proofs.W
