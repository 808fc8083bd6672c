import Derived.Test.YtppalpflejcjeaaGreatMCiWk4
set_option linter.unusedVariables false
set_option linter.unusedSimpArgs false
set_option maxRecDepth 100000
set_option maxHeartbeats 4000000
namespace Go.Proofs.W
open Go Go.Gm Go.Proofs
open Go.RowKit Go.Shelf
def F0_sh : FSh := ⟨[(.one (.rw 0 0)), (.one (.si .i64)), (.one (.si .i64)), (.one (.fn n_F25))], [(.row 0 (.pair (.int .i64) (.int .i64)))]⟩
def F0_L4_sh : LSh := ⟨(fun ex => match ex with | .norm => [(0, none), (1, none), (2, none), (3, none), (8, none), (9, none)] | .exit i => if i = 2 then [(0, none), (1, none), (2, none), (3, none), (8, none)] else if i = 1 then [(0, none), (1, none), (2, none), (3, none), (8, none)] else if i = 0 then [] else [] | .ret => []), [(0, (.one (.rw 0 0))), (1, (.one (.si .i64))), (2, (.one (.si .i64))), (3, (.one (.fn n_F25))), (8, (.one (.si .i64))), (9, (.one (.si .i64)))], [(.row 0 (.pair (.int .i64) (.int .i64)))], [⟨(.exit 2), [(0, (.one (.rw 0 0))), (1, (.one (.si .i64))), (2, (.one (.si .i64))), (3, (.one (.fn n_F25))), (8, (.one (.si .i64)))], [(.row 0 (.pair (.int .i64) (.int .i64)))]⟩], [], []⟩
noncomputable def F0_L4_step : ((Unit × Int × Int × Unit × Int × Int) × List ((Int × Int))) → T (((Unit × Int × Int × Unit × Int × Int) × List ((Int × Int))) ⊕ ((Unit × Int × Int × Unit × Int) × List ((Int × Int)))) := fun (((), a, b, (), i, j), data) =>
 (.test (decide (j > a))
 (.test (decide ((0 ≤ j) ∧ (j < (data.length : Int))))
 (.sub (data[(0 + (Int.toNat j))]?) fun z0 =>
 (.test (decide ((0 ≤ (w64 (j - 1))) ∧ ((w64 (j - 1)) < (data.length : Int))))
 (.sub (data[(0 + (Int.toNat (w64 (j - 1))))]?) fun z1 =>
 (.sub (F25 ((z0.1, z0.2), (z1.1, z1.2))) fun z2 =>
 (.test (decide (z2 < 0))
 (.test (decide ((0 ≤ (w64 (j - 1))) ∧ ((w64 (j - 1)) < (data.length : Int))))
 (.sub (data[(0 + (Int.toNat (w64 (j - 1))))]?) fun z3 =>
 (.test (decide ((0 ≤ j) ∧ (j < (data.length : Int))))
 (.sub (data[(0 + (Int.toNat j))]?) fun z4 =>
 (.test (decide ((0 ≤ j) ∧ (j < (data.length : Int))))
 (.sub (data[(0 + (Int.toNat j))]?) fun z5 =>
 (.test (decide ((0 ≤ (w64 (j - 1))) ∧ ((w64 (j - 1)) < (data.length : Int))))
 (.sub ((List.set data (0 + (Int.toNat j)) (z3.1, z3.2))[(0 + (Int.toNat (w64 (j - 1))))]?) fun z6 =>
 (.test (decide ((0 = 0) ∧ (data.length = (List.length (List.set (List.set data (0 + (Int.toNat j)) (z3.1, z3.2)) (0 + (Int.toNat (w64 (j - 1)))) (z4.1, z4.2))))))
 (.ret (Sum.inl (((), (a, (b, ((), (i, (w64 (j - 1))))))), (List.set (List.set data (0 + (Int.toNat j)) (z3.1, z3.2)) (0 + (Int.toNat (w64 (j - 1)))) (z4.1, z4.2)))))
 .fail))
 .fail))
 .fail))
 .fail))
 .fail)
 (.test (decide ((0 = 0) ∧ (data.length = data.length)))
 (.ret (Sum.inr (((), (a, (b, ((), i)))), data)))
 .fail))))
 .fail))
 .fail)
 (.test (decide ((0 = 0) ∧ (data.length = data.length)))
 (.ret (Sum.inr (((), (a, (b, ((), i)))), data)))
 .fail))
noncomputable def F0_L4 (v) := loopO (fun v => (F0_L4_step v).run) v
def F0_L1_sh : LSh := ⟨(fun ex => match ex with | .norm => [(0, none), (1, none), (2, none), (3, none), (8, none)] | .exit i => if i = 0 then [] else [] | .ret => []), [(0, (.one (.rw 0 0))), (1, (.one (.si .i64))), (2, (.one (.si .i64))), (3, (.one (.fn n_F25))), (8, (.one (.si .i64)))], [(.row 0 (.pair (.int .i64) (.int .i64)))], [⟨(.exit 0), [], [(.row 0 (.pair (.int .i64) (.int .i64)))]⟩], [], []⟩
noncomputable def F0_L1_step : ((Unit × Int × Int × Unit × Int) × List ((Int × Int))) → T (((Unit × Int × Int × Unit × Int) × List ((Int × Int))) ⊕ (Unit × List ((Int × Int)))) := fun (((), a, b, (), i), data) =>
 (.test (decide (i < b))
 (.test (decide ((0 = 0) ∧ (data.length = data.length)))
 (.sub (F0_L4 (((), (a, (b, ((), (i, i))))), data)) fun z0 =>
 (.test (decide ((0 = 0) ∧ (z0.2.length = z0.2.length)))
 (.ret (Sum.inl (((), (z0.1.2.1, (z0.1.2.2.1, ((), (w64 (z0.1.2.2.2.2 + 1)))))), z0.2)))
 .fail))
 .fail)
 (.ret (Sum.inr ((), data))))
noncomputable def F0_L1 (v) := loopO (fun v => (F0_L1_step v).run) v
def F0_fo : List FO := [⟨[], [(.row 0 (.pair (.int .i64) (.int .i64)))]⟩]
noncomputable def F0_t : ((Unit × Int × Int × Unit) × List ((Int × Int))) → T (Unit × List ((Int × Int))) := fun (((), a, b, ()), data) =>
 (.test (decide ((0 = 0) ∧ (data.length = data.length)))
 (.sub (F0_L1 (((), (a, (b, ((), (w64 (a + 1)))))), data)) fun z0 =>
 (.ret ((), z0.2)))
 .fail)
noncomputable def F0 (v) := (F0_t v).run
noncomputable def F0_E : TEnv := (E0.add1 n_F25 F25_sh F25_fo F25)
theorem F0_Eok : (F0_E).OK := (E0ok.add1 F25_ok)
noncomputable def F0_told : Nat → Option SealT := fun id => if id = 4 then some (LSh.told F0_L4_sh 1 (F0_L4_step)) else if id = 1 then some (LSh.told F0_L1_sh 1 (F0_L1_step)) else none
theorem F0_L4_ok : ToldOK Tryz.prog 1 (loopAt (bodyOf fn_F10) [0, 0]) (LSh.told F0_L4_sh 1 (F0_L4_step)) :=
 loop_ok (E := F0_E) (F0_Eok) (told := F0_told) (l := F0_L4_sh) (step := F0_L4_step) (loopsOK_of (ls := []) (by kernel_rfl) trivial) (by kernel_rfl) (fun v => by kernel_rfl)
theorem F0_L1_ok : ToldOK Tryz.prog 1 (loopAt (bodyOf fn_F10) [0]) (LSh.told F0_L1_sh 1 (F0_L1_step)) :=
 loop_ok (E := F0_E) (F0_Eok) (told := F0_told) (l := F0_L1_sh) (step := F0_L1_step) (loopsOK_of (ls := [loopAt (bodyOf fn_F10) [0, 0]]) (by kernel_rfl) ⟨.inr ⟨_, by kernel_rfl, F0_L4_ok⟩, trivial⟩) (by kernel_rfl) (fun v => by kernel_rfl)
theorem F0_ok : FOK Tryz.prog n_F10 F0_sh F0_fo F0 :=
 fn_ok (E := F0_E) (F0_Eok) (told := F0_told) (fl := []) (c := bodyOf fn_F10) (s := F0_sh) (l := F0_fo) (tree := F0_t) fnat_F10 (by kernel_rfl) (by kernel_rfl) (by kernel_rfl) (loopsOK_of (ls := [loopAt (bodyOf fn_F10) [0]]) (by kernel_rfl) ⟨.inr ⟨_, by kernel_rfl, F0_L1_ok⟩, trivial⟩) (fun v => by kernel_rfl)
theorem F0_sink (b i : Int) : ∀ (j : Nat) (l : List Dg), j < l.length → l.length < 1000000 →
  F0_L4 (((), ((0 : Int), (b, ((), (i, (j : Int)))))), l) = some (((), ((0 : Int), (b, ((), i)))), sinkD j l)
 | 0, l, hj, hl => by
  simp only [F0_L4]
  exact loopO_done (by simp [F0_L4_step, T.run, sinkD])
 | j + 1, l, hj, hl => by
  have ih := F0_sink b i j (swapD l j) (by rw [swapD_length]; omega) (by rw [swapD_length]; omega)
  simp only [F0_L4] at ih ⊢
  have w1 : w64 (((j + 1 : Nat) : Int) - 1) = (j : Int) := by rw [w64_id (by omega) (by omega)]; omega
  have c0 : ((j + 1 : Nat) : Int) > 0 := by omega
  have c1 : (0 : Int) ≤ ((j + 1 : Nat) : Int) ∧ ((j + 1 : Nat) : Int) < (l.length : Int) := by omega
  have c2 : (0 : Int) ≤ (j : Int) ∧ (j : Int) < (l.length : Int) := by omega
  have g1 := gD_some hj
  have g2 := gD_some (show j < l.length by omega)
  cases hlt : ltD (gD l (j + 1)) (gD l j) with
  | false =>
   have e : sinkD (j + 1) l = l := by unfold sinkD; rw [hlt]; rfl
   rw [e]
   refine loopO_done ?_
   simp only [F0_L4_step, T.run, w1, c0, c1, c2, Int.toNat_natCast, Nat.zero_add, g1, g2, Option.bind_some, decide_true, if_true, F25_eq, cmpD_lt, hlt, and_self]
   simp
  | true =>
   have e : sinkD (j + 1) l = sinkD j (swapD l j) := by conv => lhs; unfold sinkD
                                                        rw [hlt]; rfl
   rw [e, ← ih]
   refine loopO_next ?_
   have g3 : (l.set (j + 1) (gD l j))[j]? = some (gD l j) := by rw [List.getElem?_set_ne (by omega)]; exact g2
   simp only [F0_L4_step, T.run, w1, c0, c1, c2, Int.toNat_natCast, Nat.zero_add, g1, g2, g3, Option.bind_some, decide_true, if_true, F25_eq, cmpD_lt, hlt, and_self]
   simp [swapD]
theorem F0_isort : ∀ (n i : Nat) (l : List Dg), i + n = l.length → l.length < 1000000 →
  F0_L1 (((), ((0 : Int), ((l.length : Int), ((), (i : Int))))), l) = some ((), isortD n i l)
 | 0, i, l, hi, hl => by
  simp only [F0_L1]
  refine loopO_done ?_
  have : ¬ ((i : Int) < (l.length : Int)) := by omega
  simp [F0_L1_step, T.run, this, isortD]
 | n + 1, i, l, hi, hl => by
  have ih := F0_isort n (i + 1) (sinkD i l) (by rw [sinkD_length]; omega) (by rw [sinkD_length]; omega)
  rw [sinkD_length] at ih
  simp only [F0_L1] at ih ⊢
  show _ = some ((), isortD n (i + 1) (sinkD i l))
  rw [← ih]
  refine loopO_next ?_
  have c0 : (i : Int) < (l.length : Int) := by omega
  have w1 : w64 ((i : Int) + 1) = ((i + 1 : Nat) : Int) := by rw [w64_id (by omega) (by omega)]; omega
  simp only [F0_L1_step, T.run, c0, decide_true, if_true, F0_sink _ _ i l (by omega) hl, Option.bind_some, w1, and_self]
def F1_sh : FSh := ⟨[(.one (.rw 0 0)), (.one (.si .i64)), (.one (.si .i64)), (.one (.si .i64)), (.one (.fn n_F25))], [(.row 0 (.pair (.int .i64) (.int .i64)))]⟩
def F1_L2_sh : LSh := ⟨(fun ex => match ex with | .norm => [(0, none), (1, none), (2, none), (3, none), (4, none), (10, none), (11, none)] | .exit i => if i = 0 then [] else [] | .ret => []), [(0, (.one (.rw 0 0))), (1, (.one (.si .i64))), (2, (.one (.si .i64))), (3, (.one (.si .i64))), (4, (.one (.fn n_F25))), (10, (.one .sb)), (11, (.one .sb))], [(.row 0 (.pair (.int .i64) (.int .i64)))], [⟨.ret, [], [(.row 0 (.pair (.int .i64) (.int .i64)))]⟩], [], []⟩
noncomputable def F1_L2_step : ((Unit × Int × Int × Int × Unit × Bool × Bool) × List ((Int × Int))) → T (((Unit × Int × Int × Int × Unit × Bool × Bool) × List ((Int × Int))) ⊕ (Unit × List ((Int × Int)))) := fun (((), a, b, limit, (), wasBalanced, wasPartitioned), data) =>
 (.test (decide ((w64 (b - a)) ≤ 12))
 (.test (decide ((0 = 0) ∧ (data.length = data.length)))
 (.sub (F0 (((), (a, (b, ()))), data)) fun z0 =>
 (.ret (Sum.inr ((), z0.2))))
 .fail)
 (.test (limit == 0)
 .fail
 (.test (! wasBalanced)
 .fail
 .fail)))
noncomputable def F1_L2 (v) := loopO (fun v => (F1_L2_step v).run) v
def F1_fo : List FO := [⟨[], [(.row 0 (.pair (.int .i64) (.int .i64)))]⟩]
noncomputable def F1_t : ((Unit × Int × Int × Int × Unit) × List ((Int × Int))) → T (Unit × List ((Int × Int))) := fun (((), a, b, limit, ()), data) =>
 (.test (decide ((0 = 0) ∧ (data.length = data.length)))
 (.sub (F1_L2 (((), (a, (b, (limit, ((), (true, true)))))), data)) fun z0 =>
 (.ret ((), z0.2)))
 .fail)
noncomputable def F1 (v) := (F1_t v).run
noncomputable def F1_E : TEnv := (E0.add1 n_F10 F0_sh F0_fo F0)
theorem F1_Eok : (F1_E).OK := (E0ok.add1 F0_ok)
noncomputable def F1_told : Nat → Option SealT := fun id => if id = 2 then some (LSh.told F1_L2_sh 1 (F1_L2_step)) else none
theorem F1_L2_ok : ToldOK Tryz.prog 1 (loopAt (bodyOf fn_F12) [0]) (LSh.told F1_L2_sh 1 (F1_L2_step)) :=
 loop_ok (E := F1_E) (F1_Eok) (told := F1_told) (l := F1_L2_sh) (step := F1_L2_step) (loopsOK_of (ls := []) (by kernel_rfl) trivial) (by kernel_rfl) (fun v => by kernel_rfl)
theorem F1_ok : FOK Tryz.prog n_F12 F1_sh F1_fo F1 :=
 fn_ok (E := F1_E) (F1_Eok) (told := F1_told) (fl := []) (c := bodyOf fn_F12) (s := F1_sh) (l := F1_fo) (tree := F1_t) fnat_F12 (by kernel_rfl) (by kernel_rfl) (by kernel_rfl) (loopsOK_of (ls := [loopAt (bodyOf fn_F12) [0]]) (by kernel_rfl) ⟨.inr ⟨_, by kernel_rfl, F1_L2_ok⟩, trivial⟩) (fun v => by kernel_rfl)
def F6_sh : FSh := ⟨[(.one (.rw 0 0)), (.one (.fn n_F25))], [(.row 0 (.pair (.int .i64) (.int .i64)))]⟩
def F6_fo : List FO := [⟨[], [(.row 0 (.pair (.int .i64) (.int .i64)))]⟩]
noncomputable def F6_t : ((Unit × Unit) × List ((Int × Int))) → T (Unit × List ((Int × Int))) := fun (((), ()), x) =>
 (.sub (F50 (wu64 (x.length : Int))) fun z0 =>
 (.test (decide ((0 = 0) ∧ (x.length = x.length)))
 (.sub (F1 (((), ((0 : Int), ((x.length : Int), (z0, ())))), x)) fun z1 =>
 (.ret ((), z1.2)))
 .fail))
noncomputable def F6 (v) := (F6_t v).run
noncomputable def F6_E : TEnv := ((E0.add1 n_F50 F50_sh F50_fo F50).add1 n_F12 F1_sh F1_fo F1)
theorem F6_Eok : (F6_E).OK := ((E0ok.add1 F50_ok).add1 F1_ok)
noncomputable def F6_told : Nat → Option SealT := fun id => none
theorem F6_ok : FOK Tryz.prog n_F18 F6_sh F6_fo F6 :=
 fn_ok (E := F6_E) (F6_Eok) (told := F6_told) (fl := []) (c := bodyOf fn_F18) (s := F6_sh) (l := F6_fo) (tree := F6_t) fnat_F18 (by kernel_rfl) (by kernel_rfl) (by kernel_rfl) (loopsOK_of (ls := []) (by kernel_rfl) trivial) (fun v => by kernel_rfl)
theorem F6_eq (l : List Dg) (hl : l.length ≤ 12) : F6 (((), ()), l) = some ((), sortD l) := by
 have hw : wu64 (l.length : Int) = (l.length : Int) := IntWalk.u64_in _ ⟨by omega, by omega⟩
 have hz : F50 (wu64 (l.length : Int)) = some (Lib.bitLen l.length : Int) := by
  rw [hw]; unfold F50; rw [if_pos ⟨by omega, by omega⟩, Int.toNat_natCast]
 have w0 : w64 ((l.length : Int) - 0) = (l.length : Int) := by rw [w64_id (by omega) (by omega)]; omega
 have w1 : w64 ((0 : Int) + 1) = ((1 : Nat) : Int) := by rw [w64_id (by omega) (by omega)]; rfl
 have c0 : (l.length : Int) ≤ 12 := by omega
 have hins : F0 (((), ((0 : Int), ((l.length : Int), ()))), l) = some ((), sortD l) := by
  simp only [F0, F0_t, T.run, w1]
  by_cases h0 : l.length = 0
  ·have : l = [] := List.eq_nil_of_length_eq_zero h0
   subst this
   simp only [F0_L1]
   rw [loopO_done (o := ((), []))]
   ·simp [sortD]
   ·simp [F0_L1_step, T.run]
  ·rw [F0_isort (l.length - 1) 1 l (by omega) (by omega), isortD_eq]
   simp
 simp only [F6, F6_t, T.run, hz, Option.bind_some, F1, F1_t, F1_L2]
 rw [loopO_done (o := ((), sortD l))]
 ·simp
 ·simp only [F1_L2_step, T.run, w0, c0, decide_true, if_true, hins, Option.bind_some]
  simp
theorem pcs_perm {n : Nat} {ds es : List Dg} (h : ds.Perm es) (k : Dg) : pcs n ds k = pcs n es k := by
 unfold pcs
 refine List.filter_congr fun v _ => ?_
 have : covD ds k v = covD es k v := by
  rw [Bool.eq_iff_iff, covD_iff, covD_iff]
  simp only [h.mem_iff]
 rw [this]
theorem CutD.perm {n : Nat} {ds es : List Dg} (h : CutD n ds) (hp : ds.Perm es) : CutD n es :=
 ⟨fun d hd => h.1 d (hp.mem_iff.2 hd), h.2.perm hp fun {a b} hab => ⟨Ne.symm hab.1, by rw [crossD_comm]; exact hab.2⟩⟩
def plen (n : Nat) (ds : List Dg) : List Nat := (wholeD n :: ds).map fun k => (pcs n ds k).length
theorem plen_perm {n : Nat} {ds es : List Dg} (h : ds.Perm es) : (plen n ds).Perm (plen n es) := by
 unfold plen
 have : ((wholeD n :: ds).map fun k => (pcs n ds k).length) = (wholeD n :: ds).map fun k => (pcs n es k).length := List.map_congr_left fun k _ => by rw [pcs_perm h]
 rw [this]
 exact (h.cons _).map _
theorem szL_plen {n : Nat} {ds : List Dg} (h : CutD n ds) (hn : 3 ≤ n) : (szL n ds).Perm ((plen n ds).map fun (x : Nat) => (x : Int)) := by
 unfold szL plen
 rw [List.map_map]
 have := ((sortL_perm (specP n ds)).trans (specP_perm h hn)).map fun p => (p.length : Int)
 rwa [List.map_map] at this
theorem prod_perm_int {l m : List Int} (h : l.Perm m) : l.prod = m.prod := by
 induction h with
 | nil => rfl
 | cons a _ ih => rw [List.prod_cons, List.prod_cons, ih]
 | swap a b l => rw [List.prod_cons, List.prod_cons, List.prod_cons, List.prod_cons, ← Int.mul_assoc, ← Int.mul_assoc, Int.mul_comm b a]
 | trans _ _ h1 h2 => rw [h1, h2]
theorem Fd_plen (n : Nat) (ds : List Dg) : Fd n ds = ((plen n ds).map fun (x : Nat) => catV (x : Int)).prod := by
 unfold Fd plen
 rw [List.map_map]
 rfl
theorem Fd_perm {n : Nat} {ds es : List Dg} (h : ds.Perm es) : Fd n ds = Fd n es := by
 rw [Fd_plen, Fd_plen]
 exact prod_perm_int ((plen_perm h).map _)
theorem fold_prod : ∀ (l : List Int) (o : Int), 1 ≤ o → (∀ s ∈ l, 3 ≤ s ∧ s ≤ 12) → o * 4 ^ ((l.map fun s => (s - 2).toNat).sum) ≤ 1099511627776 →
  l.foldl (fun o s => w64 (o * catV s)) o = o * (l.map catV).prod
 | [], o, _, _, _ => by simp
 | s :: t, o, ho, hl, hb => by
  obtain ⟨c1, c2, c3⟩ := catV_cases s (hl s (by simp)).1 (hl s (by simp)).2
  rw [List.map_cons, List.sum_cons, Int.pow_add, ← Int.mul_assoc] at hb
  have hp : (1 : Int) ≤ 4 ^ ((t.map fun s => (s - 2).toNat).sum) := by
   have : (0 : Int) < 4 ^ ((t.map fun s => (s - 2).toNat).sum) := Int.pow_pos (by omega)
   omega
  have h1 : o * catV s ≤ o * 4 ^ (s - 2).toNat := Int.mul_le_mul_of_nonneg_left c2 (by omega)
  have h0 : 1 ≤ o * catV s := by
   have : 1 * 1 ≤ o * catV s := Int.mul_le_mul ho c1 (by omega) (by omega)
   omega
  have h2 : o * catV s * 4 ^ ((t.map fun s => (s - 2).toNat).sum) ≤ o * 4 ^ (s - 2).toNat * 4 ^ ((t.map fun s => (s - 2).toNat).sum) := Int.mul_le_mul_of_nonneg_right h1 (by omega)
  have h3 : o * catV s * 1 ≤ o * catV s * 4 ^ ((t.map fun s => (s - 2).toNat).sum) := Int.mul_le_mul_of_nonneg_left hp (by omega)
  have hw : w64 (o * catV s) = o * catV s := w64_id (by omega) (by omega)
  rw [List.foldl_cons, hw, fold_prod t (o * catV s) h0 (fun x hx => hl x (by simp [hx])) (by omega), List.map_cons, List.prod_cons, Int.mul_assoc]
theorem sums_of : ∀ l : List Int, (∀ s ∈ l, 3 ≤ s ∧ s ≤ 12) → (((l.map fun s => (s - 2).toNat).sum : Nat) : Int) = l.sum - 2 * (l.length : Int)
 | [], _ => by simp
 | a :: t, hb => by
  have ih := sums_of t fun s hs => hb s (by simp [hs])
  have ha := hb a (by simp)
  simp only [List.map_cons, List.sum_cons, List.length_cons]
  omega
theorem finV_Fd {n : Nat} {ds : List Dg} (h : CutD n ds) (hn : 3 ≤ n) (h12 : n ≤ 12) (hl : ds.length + 3 ≤ n) : (szL n ds).foldl (fun o s => w64 (o * catV s)) 1 = Fd n ds ∧ 1 ≤ Fd n ds ∧ Fd n ds ≤ 1048576 := by
 have hsum := szL_sum h hn
 have hlen := szL_len h hn
 have hb : ∀ s ∈ szL n ds, 3 ≤ s ∧ s ≤ 12 := fun s hs => by have := szL_mem h hn hs; omega
 have s1 := sums_of _ hb
 have hexp : ((szL n ds).map fun s => (s - 2).toNat).sum ≤ 10 := by omega
 have hpow : (4 : Int) ^ (((szL n ds).map fun s => (s - 2).toNat).sum) ≤ 4 ^ 10 := by
  have : (4 : Nat) ^ (((szL n ds).map fun s => (s - 2).toNat).sum) ≤ 4 ^ 10 := Nat.pow_le_pow_right (by omega) hexp
  exact_mod_cast this
 have e := fold_prod (szL n ds) 1 (by omega) hb (by rw [Int.one_mul]; omega)
 obtain ⟨c, c1, _, c3⟩ := prodW (szL n ds) 1 (by omega) hb (by rw [Int.one_mul]; omega)
 have eF : ((szL n ds).map catV).prod = Fd n ds := by
  rw [Fd_plen]
  have := (szL_plen h hn).map catV
  rw [List.map_map] at this
  exact prod_perm_int this
 rw [Int.one_mul, eF] at e
 refine ⟨e, by rw [← e, c3]; omega, ?_⟩
 have bnd : ∀ l : List Int, (∀ s ∈ l, 3 ≤ s ∧ s ≤ 12) → 0 ≤ (l.map catV).prod ∧ (l.map catV).prod ≤ 4 ^ ((l.map fun s => (s - 2).toNat).sum) := by
  intro l
  induction l with
  | nil => intro _; simp
  | cons a t ih =>
   intro hb
   obtain ⟨i1, i2⟩ := ih fun s hs => hb s (by simp [hs])
   obtain ⟨c1, c2, _⟩ := catV_cases a (hb a (by simp)).1 (hb a (by simp)).2
   rw [List.map_cons, List.prod_cons, List.map_cons, List.sum_cons, Int.pow_add]
   exact ⟨Int.mul_nonneg (by omega) i1, Int.mul_le_mul c2 i2 i1 (by have : (0 : Int) < 4 ^ (a - 2).toNat := Int.pow_pos (by omega); omega)⟩
 have := (bnd _ hb).2
 rw [eF] at this
 omega
theorem cat_halves : ∀ s i : Nat, s ≤ 12 → i ≤ 12 → 3 ≤ s → 3 ≤ i → i + 1 ≤ s → catV (i : Int) * catV ((s : Int) + 2 - i) ≤ catV (s : Int) := by
 have : ∀ s : Nat, s ≤ 12 → ∀ i : Nat, i ≤ 12 → 3 ≤ s → 3 ≤ i → i + 1 ≤ s → catV (i : Int) * catV ((s : Int) + 2 - i) ≤ catV (s : Int) := by decide +kernel
 exact fun s i h1 h2 => this s h1 i h2
theorem Fd_less {n : Nat} {ds : List Dg} {d : Dg} (hn : 3 ≤ n) (h12 : n ≤ 12) (h : CutD n (ds ++ [d])) (hl : ds.length + 4 ≤ n) : Fd n (ds ++ [d]) ≤ Fd n ds := by
 obtain ⟨k, hk⟩ := more_exists h
 have hF := F_more hk
 have hs := pcs_len hk.cut.front hn hk.key
 have hsp := len_split (pcs_sorted n ds k) hk.lo hk.hi (by have := hk.enc; omega)
 have hk2 : k ∈ wholeD n :: (ds ++ [d]) := by
  rcases List.mem_cons.1 hk.key with h | h
  ·simp [h]
  ·simp [h]
 have hd2 : d ∈ wholeD n :: (ds ++ [d]) := by simp
 have l1 := pcs_len h hn hk2
 have l2 := pcs_len h hn hd2
 rw [more_front hk] at l1
 rw [more_mid hk] at l2
 generalize ha : ((pcs n ds k).filter fun v => decide (v ≤ d.1 ∨ d.2 ≤ v)).length = a at *
 generalize hb : ((pcs n ds k).filter fun v => decide (d.1 ≤ v ∧ v ≤ d.2)).length = b at *
 generalize hc : (pcs n ds k).length = s at *
 have hh := cat_halves s a (by omega) (by omega) (by omega) (by omega) (by omega)
 rw [show (s : Int) + 2 - a = (b : Int) by omega] at hh
 have cs := catV_cases (s : Int) (by omega) (by omega)
 have f1 := (finV_Fd hk.cut.front hn h12 (by omega)).2.1
 have : Fd n ds * (catV (a : Int) * catV (b : Int)) ≤ Fd n ds * catV (s : Int) := Int.mul_le_mul_of_nonneg_left hh (by omega)
 rw [← hF] at this
 exact Int.le_of_mul_le_mul_right this (by omega)
theorem cut_max {n : Nat} {ds : List Dg} {d : Dg} (hn : 3 ≤ n) (h : CutD n (ds ++ [d])) : ds.length + 4 ≤ n := by
 have h1 := implP_sum n hn (ds ++ [d]).length (ds ++ [d]) rfl h
 have h2 : ∀ p ∈ implP n (ds ++ [d]), 3 ≤ p.length := fun p hp => (implP_len hn h hp).1
 have h3 := implP_count hn h
 have : ∀ l : List (List Int), (∀ p ∈ l, 3 ≤ p.length) → 3 * l.length ≤ (l.map List.length).sum := by
  intro l
  induction l with
  | nil => intro _; simp
  | cons a t ih =>
   intro hb
   have := ih fun p hp => hb p (by simp [hp])
   have := hb a (by simp)
   simp only [List.length_cons, List.map_cons, List.sum_cons]
   omega
 have := this _ h2
 rw [List.length_append, List.length_singleton] at *
 omega
theorem free_nil {n : Nat} {ds : List Dg} (h : CutD n ds) (hn : 3 ≤ n) (h12 : n ≤ 12) (hl : ds.length + 3 ≤ n) : freeL n ds = [] ↔ ds.length + 3 = n := by
 have hs := free_sum h hn h12
 have f1 := (finV_Fd h hn h12 hl).2.1
 constructor
 ·intro e
  rw [e] at hs
  simp only [List.map_nil, List.sum_nil] at hs
  rcases Int.mul_eq_zero.1 hs.symm with h | h <;> omega
 ·intro e
  refine List.eq_nil_iff_forall_not_mem.2 fun d hd => ?_
  have := cut_max hn ((free_more h hn).1 hd)
  omega
theorem corner_count (n : Nat) (hn : 3 ≤ n) (v : Int) (hv : 0 ≤ v ∧ v < (n : Int)) : ∀ (m : Nat) (ds : List Dg), ds.length = m → CutD n ds → ((((wholeD n :: ds).map (pcs n ds)).countP fun p => decide (v ∈ p) : Nat) : Int) = 1 + cnt ds v
 | 0, ds, h, hc => by
  cases ds with
  | cons => simp at h
  | nil =>
   have : v ∈ pcs n [] (wholeD n) := pcs_mem.2 ⟨hv, by unfold wholeD; dsimp only; omega, fun d hd => by cases hd⟩
   simp [this, cnt]
 | m + 1, ds, h, hc => by
  obtain ⟨es, d, rfl⟩ : ∃ es d, ds = es ++ [d] := by
   rcases List.eq_nil_or_concat ds with e | ⟨es, d, e⟩
   ·subst e; simp at h
   ·exact ⟨es, d, by simpa using e⟩
  have ih := corner_count n hn v hv m es (by simpa using h) hc.front
  obtain ⟨k, hk⟩ := more_exists hc
  have nd := hc.front.nodup
  obtain ⟨m1, m2, em⟩ := List.append_of_mem hk.key
  have els : ∀ l ∈ m1 ++ m2, pcs n (es ++ [d]) l = pcs n es l := fun l hl => by
   refine more_else hk ?_ ?_
   ·rw [em]; simp only [List.mem_append, List.mem_cons] at hl ⊢; rcases hl with hl | hl <;> simp [hl]
   ·rintro rfl
    rw [em] at nd
    have := (List.perm_middle (a := l) (l₁ := m1) (l₂ := m2)).nodup_iff.1 nd
    exact (List.nodup_cons.1 this).1 hl
  have c2 : ((m1 ++ m2).map (pcs n (es ++ [d]))).countP (fun p => decide (v ∈ p)) = ((m1 ++ m2).map (pcs n es)).countP (fun p => decide (v ∈ p)) := by
   rw [List.map_congr_left els]
  have cntE : cnt (es ++ [d]) v = cnt es v + cntD d v := by
   rw [cnt_perm (List.perm_append_singleton d es), cnt_cons]; omega
  rw [← List.cons_append, em, cntE]
  rw [em] at ih
  simp only [List.map_append, List.map_cons, List.map_nil, List.countP_append, List.countP_cons, List.countP_nil] at ih c2 ⊢
  have hlt : d.1 < d.2 := by have := hk.enc; omega
  rw [more_front hk, more_mid hk]
  simp only [List.mem_filter, decide_eq_true_eq]
  have hlo := hk.lo
  have hhi := hk.hi
  unfold cntD
  by_cases hp : v ∈ pcs n es k
  ·simp only [hp, true_and, if_true, decide_true] at ih ⊢
   by_cases e1 : d.1 = v
   ·rw [if_pos e1, if_neg (by omega : ¬ d.2 = v), if_pos (by omega : v ≤ d.1 ∨ d.2 ≤ v), if_pos (by omega : d.1 ≤ v ∧ v ≤ d.2)]
    omega
   ·rw [if_neg e1]
    by_cases e2 : d.2 = v
    ·rw [if_pos e2, if_pos (by omega : v ≤ d.1 ∨ d.2 ≤ v), if_pos (by omega : d.1 ≤ v ∧ v ≤ d.2)]
     omega
    ·rw [if_neg e2]
     by_cases e3 : d.1 ≤ v ∧ v ≤ d.2
     ·rw [if_pos e3, if_neg (by omega : ¬ (v ≤ d.1 ∨ d.2 ≤ v))]
      omega
     ·rw [if_neg e3, if_pos (by omega : v ≤ d.1 ∨ d.2 ≤ v)]
      omega
  ·have e1 : d.1 ≠ v := fun e => hp (e ▸ hlo)
   have e2 : d.2 ≠ v := fun e => hp (e ▸ hhi)
   simp only [hp, false_and, if_false, e1, e2, decide_false, Bool.false_eq_true] at ih ⊢
   omega
theorem isCut_iff {n : Int} {ds : List Dg} : isCut n ds = true ↔ (3 ≤ n ∧ n ≤ 12) ∧ (ds.length : Int) + 3 ≤ n ∧ CutD n.toNat ds ∧ ds.Pairwise fun d e => ltD d e = true := by
 constructor
 ·intro h
  obtain ⟨k, rfl, h3, h12, hl, hc⟩ := isCut_cut h
  refine ⟨by omega, by omega, hc, ?_⟩
  unfold isCut at h
  rw [Bool.and_eq_true, bad_iff] at h
  exact h.2.2.imp fun hh => hh.1
 ·rintro ⟨h1, h2, hc, hs⟩
  unfold isCut
  rw [Bool.and_eq_true, Bool.and_eq_true, inB_iff, decide_eq_true_eq, bad_iff]
  refine ⟨⟨by omega, by omega⟩, fun d hd => ?_, (hs.and hc.2).imp fun {d e} hh => ⟨hh.1, by rw [crossD_comm]; exact hh.2.2⟩⟩
  rw [inDg_iff]
  have := hc.1 d hd
  refine ⟨by omega, by omega, by omega, fun e => this.2.2.2 (Prod.ext (by show d.1 = 0; omega) (by show d.2 = (n.toNat : Int) - 1; omega))⟩
theorem sortD_lt {l : List Dg} (h : l.Nodup) : (sortD l).Pairwise fun d e => ltD d e = true :=
 ((sortD_sorted l).and ((sortD_perm l).nodup_iff.2 h)).imp fun hab => ltD_of hab.1 hab.2
theorem cut_sorted {n : Nat} (hn : 3 ≤ n ∧ n ≤ 12) {l : List Dg} (h : CutD n l) (hl : l.length + 3 ≤ n) : isCut n (sortD l) = true :=
 isCut_iff.2 ⟨by omega, by rw [sortD_length]; omega, by rw [Int.toNat_natCast]; exact h.perm (sortD_perm l).symm, sortD_lt (List.nodup_cons.1 h.nodup).2⟩
theorem more_iff {n : Nat} {ds : List Dg} (h : isCut n ds = true) (d : Dg) : isCut n (sortD (ds ++ [d])) = decide (d ∈ freeL n ds) := by
 obtain ⟨h1, h2, hc, hs⟩ := isCut_iff.1 h
 rw [Int.toNat_natCast] at hc
 rw [Bool.eq_iff_iff, decide_eq_true_eq, free_more hc (by omega)]
 constructor
 ·intro hh
  have := (isCut_iff.1 hh).2.2.1
  rw [Int.toNat_natCast] at this
  exact this.perm (sortD_perm _)
 ·intro hh
  have := cut_max (by omega) hh
  exact cut_sorted (by omega) hh (by rw [List.length_append, List.length_singleton]; omega)
theorem free_notin {n : Nat} {ds : List Dg} {d : Dg} (h : d ∈ freeL n ds) : d ∉ ds ∧ inDg n d = true := by
 unfold freeL at h
 rw [List.mem_filter, Bool.and_eq_true, Bool.not_eq_true', decide_eq_false_iff_not, mem_dgL_iff] at h
 exact ⟨h.2.1, h.1⟩
def firstF (n : Nat) : Nat → List Dg → List Dg
 | 0, ds => ds
 | m + 1, ds => firstF n m (sortD (ds ++ [(freeL n ds).headD (0, 0)]))
theorem firstF_ok {n : Nat} : ∀ (m : Nat) (ds : List Dg), isCut n ds = true → ds.length + 3 + m = n → isTri n (firstF n m ds) = true ∧ ∀ d ∈ ds, d ∈ firstF n m ds
 | 0, ds, h, hl => by
  refine ⟨?_, fun d hd => hd⟩
  unfold firstF
  rw [isTri_isCut, h, Bool.true_and, decide_eq_true_eq]
  omega
 | m + 1, ds, h, hl => by
  obtain ⟨h1, h2, hc, hs⟩ := isCut_iff.1 h
  rw [Int.toNat_natCast] at hc
  have hne : freeL n ds ≠ [] := fun e => by
   have := (free_nil hc (by omega) (by omega) (by omega)).1 e
   omega
  obtain ⟨d, t, e⟩ : ∃ d t, freeL n ds = d :: t := by
   cases hf : freeL n ds with
   | nil => exact absurd hf hne
   | cons d t => exact ⟨d, t, rfl⟩
  have hd : d ∈ freeL n ds := by rw [e]; simp
  have hm := more_iff h d
  rw [decide_eq_true hd] at hm
  obtain ⟨i1, i2⟩ := firstF_ok m (sortD (ds ++ [d])) hm (by rw [sortD_length, List.length_append, List.length_singleton]; omega)
  unfold firstF
  rw [e, List.headD_cons]
  exact ⟨i1, fun x hx => i2 x ((sortD_perm _).mem_iff.2 (by simp [hx]))⟩
theorem firstF_len {n : Nat} : ∀ (m : Nat) (ds : List Dg), (firstF n m ds).length = ds.length + m
 | 0, ds => rfl
 | m + 1, ds => by
  unfold firstF
  rw [firstF_len m, sortD_length, List.length_append, List.length_singleton]
  omega
def rotV (n k v : Int) : Int := if v + k < n then v + k else v + k - n
def turnD (n k : Int) (d : Dg) : Dg := if rotV n k d.1 < rotV n k d.2 then (rotV n k d.1, rotV n k d.2) else (rotV n k d.2, rotV n k d.1)
def unV (n k v : Int) : Int := if v < k then v - k + n else v - k
def rotP (n : Nat) (k : Int) (p : List Int) : List Int := (nameL n).filter fun v => decide (unV n k v ∈ p)
theorem unV_rot {n k v : Int} (hk : 0 ≤ k ∧ k < n) (hv : 0 ≤ v ∧ v < n) : unV n k (rotV n k v) = v ∧ 0 ≤ rotV n k v ∧ rotV n k v < n := by
 unfold unV rotV
 split <;> split <;> omega
theorem rot_un {n k v : Int} (hk : 0 ≤ k ∧ k < n) (hv : 0 ≤ v ∧ v < n) : rotV n k (unV n k v) = v ∧ 0 ≤ unV n k v ∧ unV n k v < n := by
 unfold unV rotV
 split <;> split <;> omega
theorem rotP_mem {n : Nat} {k : Int} {p : List Int} {v : Int} : v ∈ rotP n k p ↔ (0 ≤ v ∧ v < (n : Int)) ∧ unV n k v ∈ p := by
 unfold rotP
 rw [List.mem_filter, nameL_iff, decide_eq_true_eq]
theorem rotP_len {n : Nat} {k : Int} (hk : 0 ≤ k ∧ k < (n : Int)) {p : List Int} (hs : p.Pairwise (· < ·)) (hp : ∀ v ∈ p, 0 ≤ v ∧ v < (n : Int)) : (rotP n k p).length = p.length := by
 have h1 : (rotP n k p).Nodup := ((nameL_sorted n).imp fun {a b} h => by omega : (nameL n).Nodup).sublist List.filter_sublist
 have h2 : (p.map (rotV n k)).Nodup := by
  rw [List.nodup_iff_pairwise_ne, List.pairwise_map]
  refine hs.imp_of_mem fun {a b} ha hb hab e => ?_
  have e1 := (unV_rot hk (hp a ha)).1
  have e2 := (unV_rot hk (hp b hb)).1
  rw [e] at e1
  omega
 have : (rotP n k p).Perm (p.map (rotV n k)) := (List.perm_ext_iff_of_nodup h1 h2).2 fun v => by
  rw [rotP_mem, List.mem_map]
  constructor
  ·rintro ⟨hv, hm⟩
   exact ⟨_, hm, (rot_un hk hv).1⟩
  ·rintro ⟨u, hu, rfl⟩
   have := unV_rot hk (hp u hu)
   exact ⟨this.2, by rw [this.1]; exact hu⟩
 rw [this.length_eq, List.length_map]
theorem turnD_rng {n : Int} {k : Int} (hk : 0 ≤ k ∧ k < n) {d : Dg} (h : 0 ≤ d.1 ∧ d.1 + 1 < d.2 ∧ d.2 < n ∧ ¬ (d.1 = 0 ∧ d.2 = n - 1)) :
  0 ≤ (turnD n k d).1 ∧ (turnD n k d).1 + 1 < (turnD n k d).2 ∧ (turnD n k d).2 < n ∧ ¬ ((turnD n k d).1 = 0 ∧ (turnD n k d).2 = n - 1) := by
 unfold turnD rotV
 repeat' split
 all_goals dsimp only
 all_goals omega
theorem turnD_inj {n : Int} {k : Int} (hk : 0 ≤ k ∧ k < n) {d e : Dg} (h : 0 ≤ d.1 ∧ d.1 < d.2 ∧ d.2 < n) (h' : 0 ≤ e.1 ∧ e.1 < e.2 ∧ e.2 < n) (he : turnD n k d = turnD n k e) : d = e := by
 obtain ⟨d1, d2⟩ := d
 obtain ⟨e1, e2⟩ := e
 have g1 := congrArg Prod.fst he
 have g2 := congrArg Prod.snd he
 clear he
 revert g1 g2
 unfold turnD rotV
 dsimp only at *
 rcases (by omega : d1 + k < n ∨ n ≤ d1 + k) with c1 | c1 <;> rcases (by omega : d2 + k < n ∨ n ≤ d2 + k) with c2 | c2 <;> rcases (by omega : e1 + k < n ∨ n ≤ e1 + k) with c3 | c3 <;> rcases (by omega : e2 + k < n ∨ n ≤ e2 + k) with c4 | c4 <;>
  (simp only [c1, c2, c3, c4, if_true, if_neg (Int.not_lt.2 c1), if_neg (Int.not_lt.2 c2), if_neg (Int.not_lt.2 c3), if_neg (Int.not_lt.2 c4)]
   split <;> split <;> dsimp only <;> intro g1 g2 <;> exact Prod.ext (by dsimp only; omega) (by dsimp only; omega))
theorem turnD_cross {n : Int} {k : Int} (hk : 0 ≤ k ∧ k < n) {d e : Dg} (h : 0 ≤ d.1 ∧ d.1 < d.2 ∧ d.2 < n) (h' : 0 ≤ e.1 ∧ e.1 < e.2 ∧ e.2 < n) (hc : crossD d e = false) : crossD (turnD n k d) (turnD n k e) = false := by
 have := cross_no hc
 rw [Bool.eq_false_iff, ne_eq]
 unfold crossD
 simp only [Bool.or_eq_true, Bool.and_eq_true, decide_eq_true_eq]
 unfold turnD rotV
 obtain ⟨d1, d2⟩ := d
 obtain ⟨e1, e2⟩ := e
 dsimp only at *
 rcases (by omega : d1 + k < n ∨ n ≤ d1 + k) with c1 | c1 <;> rcases (by omega : d2 + k < n ∨ n ≤ d2 + k) with c2 | c2 <;> rcases (by omega : e1 + k < n ∨ n ≤ e1 + k) with c3 | c3 <;> rcases (by omega : e2 + k < n ∨ n ≤ e2 + k) with c4 | c4 <;>
  (simp only [c1, c2, c3, c4, if_true, if_neg (Int.not_lt.2 c1), if_neg (Int.not_lt.2 c2), if_neg (Int.not_lt.2 c3), if_neg (Int.not_lt.2 c4)]
   split <;> split <;> dsimp only <;> omega)
theorem turnD_cut {n : Nat} {k : Int} (hk : 0 ≤ k ∧ k < (n : Int)) {ds : List Dg} (h : CutD n ds) : CutD n (ds.map (turnD n k)) := by
 have rng : ∀ d ∈ ds, 0 ≤ d.1 ∧ d.1 + 1 < d.2 ∧ d.2 < (n : Int) ∧ ¬ (d.1 = 0 ∧ d.2 = (n : Int) - 1) := fun d hd => by
  have := h.1 d hd
  exact ⟨this.1, this.2.1, this.2.2.1, fun e => this.2.2.2 (Prod.ext e.1 e.2)⟩
 refine ⟨fun d' hd' => ?_, ?_⟩
 ·obtain ⟨d, hd, rfl⟩ := List.mem_map.1 hd'
  have := turnD_rng hk (rng d hd)
  exact ⟨this.1, this.2.1, this.2.2.1, fun e => this.2.2.2 ⟨congrArg Prod.fst e, congrArg Prod.snd e⟩⟩
 ·rw [List.pairwise_map]
  refine h.2.imp_of_mem fun {d e} hd he hh => ?_
  have r1 := rng d hd
  have r2 := rng e he
  exact ⟨fun e' => hh.1 (turnD_inj hk (by omega) (by omega) e'), turnD_cross hk (by omega) (by omega) hh.2⟩
theorem split_rot {n : Nat} {k : Int} (hk : 0 ≤ k ∧ k < (n : Int)) {d : Dg} (hd : 0 ≤ d.1 ∧ d.1 < d.2 ∧ d.2 < (n : Int)) : ∀ out : List (List Int),
  (splitD (turnD n k d) (out.map (rotP n k))).Perm ((splitD d out).map (rotP n k))
 | [] => by simp [splitD]
 | p :: t => by
  have ih := split_rot hk hd t
  have a1 := unV_rot hk (v := d.1) (by omega)
  have a2 := unV_rot hk (v := d.2) (by omega)
  have c : ((turnD n k d).1 ∈ rotP n k p ∧ (turnD n k d).2 ∈ rotP n k p) ↔ (d.1 ∈ p ∧ d.2 ∈ p) := by
   unfold turnD
   split
   ·dsimp only; rw [rotP_mem, rotP_mem, a1.1, a2.1]; constructor
    ·exact fun h => ⟨h.1.2, h.2.2⟩
    ·exact fun h => ⟨⟨a1.2, h.1⟩, a2.2, h.2⟩
   ·dsimp only; rw [rotP_mem, rotP_mem, a1.1, a2.1]; constructor
    ·exact fun h => ⟨h.2.2, h.1.2⟩
    ·exact fun h => ⟨⟨a2.2, h.2⟩, a1.2, h.1⟩
  rw [List.map_cons]
  by_cases hc : d.1 ∈ p ∧ d.2 ∈ p
  ·rw [splitD, if_pos (c.2 hc), splitD, if_pos hc, List.map_cons, List.map_append, List.map_cons, List.map_nil]
   have filt : ∀ (P Q : Int → Prop) [DecidablePred P] [DecidablePred Q], (∀ v, 0 ≤ v → v < (n : Int) → (P v ↔ Q (unV n k v))) → (rotP n k p).filter (fun v => decide (P v)) = rotP n k (p.filter fun v => decide (Q v)) := by
    intro P Q _ _ h
    unfold rotP
    rw [List.filter_filter]
    refine List.filter_congr fun v hv => ?_
    have hv := nameL_iff.1 hv
    rw [Bool.eq_iff_iff, Bool.and_eq_true, decide_eq_true_eq, decide_eq_true_eq, decide_eq_true_eq, List.mem_filter, decide_eq_true_eq, h v hv.1 hv.2]
    exact And.comm
   by_cases hlt : rotV n k d.1 < rotV n k d.2
   ·by_cases hw : (d.1 + k < n) = (d.2 + k < n)
    ·have e : turnD n k d = (rotV n k d.1, rotV n k d.2) := by unfold turnD; rw [if_pos hlt]
     rw [e]
     dsimp only
     rw [filt (fun v => v ≤ rotV n k d.1 ∨ rotV n k d.2 ≤ v) (fun v => v ≤ d.1 ∨ d.2 ≤ v) (fun v h1 h2 => by
       unfold unV rotV; rw [eq_iff_iff] at hw; repeat' split
       all_goals omega),
      filt (fun v => rotV n k d.1 ≤ v ∧ v ≤ rotV n k d.2) (fun v => d.1 ≤ v ∧ v ≤ d.2) (fun v h1 h2 => by
       unfold unV rotV; rw [eq_iff_iff] at hw; repeat' split
       all_goals omega)]
    ·exfalso
     rw [eq_iff_iff] at hw
     unfold rotV at hlt
     revert hlt
     split <;> split <;> omega
   ·have e : turnD n k d = (rotV n k d.2, rotV n k d.1) := by unfold turnD; rw [if_neg hlt]
    have hw : d.1 + k < n ∧ ¬ d.2 + k < n := by
     unfold rotV at hlt
     revert hlt
     split <;> split <;> omega
    rw [e]
    dsimp only
    rw [filt (fun v => v ≤ rotV n k d.2 ∨ rotV n k d.1 ≤ v) (fun v => d.1 ≤ v ∧ v ≤ d.2) (fun v h1 h2 => by
      unfold unV rotV; rw [if_pos hw.1, if_neg hw.2]; split <;> omega),
     filt (fun v => rotV n k d.2 ≤ v ∧ v ≤ rotV n k d.1) (fun v => v ≤ d.1 ∨ d.2 ≤ v) (fun v h1 h2 => by
      unfold unV rotV; rw [if_pos hw.1, if_neg hw.2]; split <;> omega)]
    refine (List.perm_append_singleton _ _).cons _ |>.trans ?_
    refine (List.Perm.swap _ _ _).trans ?_
    exact ((List.perm_append_singleton _ _).symm).cons _
  ·rw [splitD, if_neg fun h => hc (c.1 h), splitD, if_neg hc, List.map_cons]
   exact ih.cons _
theorem rotP_whole {n : Nat} {k : Int} (hk : 0 ≤ k ∧ k < (n : Int)) : rotP n k (pcs n [] (wholeD n)) = pcs n [] (wholeD n) := by
 have full : pcs n [] (wholeD n) = nameL n := by
  unfold pcs
  rw [List.filter_eq_self]
  intro v hv
  have := nameL_iff.1 hv
  rw [Bool.and_eq_true, decide_eq_true_eq]
  exact ⟨by show (0 : Int) ≤ v ∧ v ≤ (n : Int) - 1; omega, by simp [covD]⟩
 rw [full]
 unfold rotP
 rw [List.filter_eq_self]
 intro v hv
 have := rot_un hk (nameL_iff.1 hv)
 rw [decide_eq_true_eq, nameL_iff]
 exact this.2
theorem turn_pieces {n : Nat} (hn : 3 ≤ n) {k : Int} (hk : 0 ≤ k ∧ k < (n : Int)) : ∀ (m : Nat) (ds : List Dg), ds.length = m → CutD n ds →
  ((wholeD n :: ds.map (turnD n k)).map (pcs n (ds.map (turnD n k)))).Perm (((wholeD n :: ds).map (pcs n ds)).map (rotP n k))
 | 0, ds, h, hc => by
  cases ds with
  | cons => simp at h
  | nil => simp [rotP_whole hk]
 | m + 1, ds, h, hc => by
  obtain ⟨es, d, rfl⟩ : ∃ es d, ds = es ++ [d] := by
   rcases List.eq_nil_or_concat ds with e | ⟨es, d, e⟩
   ·subst e; simp at h
   ·exact ⟨es, d, by simpa using e⟩
  have ih := turn_pieces hn hk m es (by simpa using h) hc.front
  have hc' := turnD_cut hk hc
  rw [List.map_append, List.map_singleton] at hc' ⊢
  have hd := hc.1 d (by simp)
  have s1 := split_perm hc' ih.symm
  have s2 := split_perm hc (List.Perm.refl _)
  exact s1.symm.trans ((split_rot hk (by omega) _).trans (s2.map _))
theorem turn_sizes {n : Nat} (hn : 3 ≤ n) {k : Int} (hk : 0 ≤ k ∧ k < (n : Int)) {ds : List Dg} (hc : CutD n ds) : (plen n (sortD (ds.map (turnD n k)))).Perm (plen n ds) := by
 refine (plen_perm (sortD_perm _)).trans ?_
 have := (turn_pieces hn hk ds.length ds rfl hc).map List.length
 rw [List.map_map, List.map_map, List.map_map] at this
 unfold plen
 refine this.trans (.of_eq (List.map_congr_left fun l hl => ?_))
 show (rotP n k (pcs n ds l)).length = _
 exact rotP_len hk (pcs_sorted n ds l) fun v hv => (pcs_mem.1 hv).1
theorem sortI_congr {l m : List Int} (h : l.Perm m) : sortI l = sortI m := sortI_unique (sortI_up l) ((sortI_perm l).trans h)
theorem turn_cut {n : Nat} {k : Int} {ds : List Dg} (h : isCut n ds = true) (hk : 0 ≤ k ∧ k < (n : Int)) : isCut n (sortD (ds.map (turnD n k))) = true ∧ sortI (szL n (sortD (ds.map (turnD n k)))) = sortI (szL n ds) := by
 obtain ⟨h1, h2, hc, hs⟩ := isCut_iff.1 h
 rw [Int.toNat_natCast] at hc
 have hc' := turnD_cut hk hc
 have hi := cut_sorted (n := n) (by omega) hc' (by rw [List.length_map]; omega)
 refine ⟨hi, sortI_congr ?_⟩
 exact (szL_plen (hc'.perm (sortD_perm _).symm) (by omega)).trans (((turn_sizes (by omega) hk hc).map _).trans (szL_plen hc (by omega)).symm)
def F111_sh : FSh := ⟨[(.one (.sl (.pair (.int .i64) (.int .i64)) false false)), (.ag [(.si .i64), (.si .i64)])], []⟩
def F111_fo : List FO := [⟨[(.one (.rw 0 0))], [(.row 0 (.pair (.int .i64) (.int .i64)))]⟩]
noncomputable def F111_t : (List ((Int × Int)) × (Int × Int)) → T (Unit × List ((Int × Int))) := fun (ds, (d_0, d_1)) =>
 (.sub (F20 ds) fun z0 =>
 (.test (decide (1 ≤ 1))
 (.test (decide ((0 + z0.2.length) ≤ z0.2.length))
 (.test (decide ((2 * ((z0.2.length + 1) * 17)) ≤ 140737488355328))
 (.test (decide ((0 = 0) ∧ ((z0.2.length + 1) = (List.length ((win z0.2 0 z0.2.length) ++ [(d_0, d_1)])))))
 (.sub (F6 (((), ()), ((win z0.2 0 z0.2.length) ++ [(d_0, d_1)]))) fun z1 =>
 (.test (decide ((0 = 0) ∧ ((z0.2.length + 1) = z1.2.length)))
 (.ret ((), z1.2))
 .fail))
 .fail)
 .fail)
 .fail)
 .fail))
noncomputable def F111 (v) := (F111_t v).run
noncomputable def F111_E : TEnv := ((E0.add1 n_F20 F20_sh F20_fo F20).add1 n_F18 F6_sh F6_fo F6)
theorem F111_Eok : (F111_E).OK := ((E0ok.add1 F20_ok).add1 F6_ok)
noncomputable def F111_told : Nat → Option SealT := fun id => none
theorem F111_ok : FOK Tryz.prog n_F111 F111_sh F111_fo F111 :=
 fn_ok (E := F111_E) (F111_Eok) (told := F111_told) (fl := []) (c := bodyOf fn_F111) (s := F111_sh) (l := F111_fo) (tree := F111_t) fnat_F111 (by kernel_rfl) (by kernel_rfl) (by kernel_rfl) (loopsOK_of (ls := []) (by kernel_rfl) trivial) (fun v => by kernel_rfl)
theorem clone_D {ds : List Dg} (hl : ds.length ≤ 1000) : F20 ds = some ((), ds) := by
 unfold F20
 rw [if_pos ⟨by unfold maxLen; omega, by omega⟩]
theorem F111_eq (ds : List Dg) (d : Dg) (hl : ds.length ≤ 11) : F111 (ds, d) = some ((), sortD (ds ++ [d])) := by
 obtain ⟨a, b⟩ := d
 have hs : (ds ++ [(a, b)]).length ≤ 12 := by rw [List.length_append, List.length_singleton]; omega
 rw [F111, F111_t, T.run_sub, clone_D (by omega), Option.bind_some, T.run_test, if_pos (by rfl), T.run_test, if_pos (by simp), T.run_test, if_pos (decide_eq_true (by dsimp only; omega)), T.run_test, if_pos (by simp [win_all]), T.run_sub]
 dsimp only
 rw [win_all, F6_eq _ hs, Option.bind_some, T.run_test, if_pos (by simp [sortD_length]), T.run_ret]
def F65_sh : FSh := ⟨[(.one (.si .i64)), (.one (.sl (.pair (.int .i64) (.int .i64)) false false))], []⟩
def F65_L4_sh : LSh := ⟨(fun ex => match ex with | .norm => [(0, none), (6, none)] | .exit i => if i = 0 then [(6, none)] else [] | .ret => [(4, none), (5, none)]), [(0, (.one (.si .i64))), (6, (.one (.rw 0 0)))], [(.row 0 (.pair (.int .i64) (.int .i64)))], [⟨(.exit 0), [(6, (.one (.rw 0 0)))], [(.row 0 (.pair (.int .i64) (.int .i64)))]⟩], [], []⟩
noncomputable def F65_L4_step : ((Int × Unit) × List ((Int × Int))) → T (((Int × Unit) × List ((Int × Int))) ⊕ (Unit × List ((Int × Int)))) := fun ((n, ()), out) =>
 (.test (decide ((out.length : Int) < (w64 (n - 3))))
 (.test (decide ((0 + out.length) ≤ out.length))
 (.sub (F42 (n, (win out 0 out.length))) fun z0 =>
 (.test (decide (((0 : Int) ≤ (0 : Int)) ∧ (0 < (z0.2.length : Int))))
 (.sub (z0.2[0]?) fun z1 =>
 (.test (decide ((0 + out.length) ≤ out.length))
 (.sub (F111 ((win out 0 out.length), z1)) fun z2 =>
 (.test (decide ((0 = 0) ∧ (z2.2.length = z2.2.length)))
 (.ret (Sum.inl ((n, ()), z2.2)))
 .fail))
 .fail))
 .fail))
 .fail)
 (.test (decide ((0 = 0) ∧ (out.length = out.length)))
 (.ret (Sum.inr ((), out)))
 .fail))
noncomputable def F65_L4 (v) := loopO (fun v => (F65_L4_step v).run) v
def F65_fo : List FO := [⟨[(.one (.rw 0 0)), (.one .sb)], [(.row 0 (.pair (.int .i64) (.int .i64)))]⟩]
noncomputable def F65_t : (Int × List ((Int × Int))) → T ((Unit × Bool) × List ((Int × Int))) := fun (n, ds) =>
 (.sub (F106 (n, ds)) fun z0 =>
 (.test (! z0)
 (.test true
 (.ret (((), false), ([] : List (Int × Int))))
 .fail)
 (.sub (F20 ds) fun z1 =>
 (.test (decide ((0 = 0) ∧ (z1.2.length = z1.2.length)))
 (.sub (F65_L4 ((n, ()), z1.2)) fun z2 =>
 (.test (decide ((0 = 0) ∧ (z2.2.length = z2.2.length)))
 (.ret (((), true), z2.2))
 .fail))
 .fail))))
noncomputable def F65 (v) := (F65_t v).run
noncomputable def F65_E : TEnv := ((((E0.add1 n_F106 F106_sh F106_fo F106).add1 n_F20 F20_sh F20_fo F20).add1 n_F42 F42_sh F42_fo F42).add1 n_F111 F111_sh F111_fo F111)
theorem F65_Eok : (F65_E).OK := ((((E0ok.add1 F106_ok).add1 F20_ok).add1 F42_ok).add1 F111_ok)
noncomputable def F65_told : Nat → Option SealT := fun id => if id = 4 then some (LSh.told F65_L4_sh 0 (F65_L4_step)) else none
theorem F65_L4_ok : ToldOK Tryz.prog 0 (loopAt (bodyOf fn_F65) [0]) (LSh.told F65_L4_sh 0 (F65_L4_step)) :=
 loop_ok (E := F65_E) (F65_Eok) (told := F65_told) (l := F65_L4_sh) (step := F65_L4_step) (loopsOK_of (ls := []) (by kernel_rfl) trivial) (by kernel_rfl) (fun v => by kernel_rfl)
theorem F65_ok : FOK Tryz.prog n_F65 F65_sh F65_fo F65 :=
 fn_ok (E := F65_E) (F65_Eok) (told := F65_told) (fl := []) (c := bodyOf fn_F65) (s := F65_sh) (l := F65_fo) (tree := F65_t) fnat_F65 (by kernel_rfl) (by kernel_rfl) (by kernel_rfl) (loopsOK_of (ls := [loopAt (bodyOf fn_F65) [0]]) (by kernel_rfl) ⟨.inr ⟨_, by kernel_rfl, F65_L4_ok⟩, trivial⟩) (fun v => by kernel_rfl)
theorem firstF_head {n : Nat} {ds : List Dg} (h : isCut n ds = true) (hl : ds.length + 4 ≤ n) : ∃ d t, freeL n ds = d :: t ∧ isCut n (sortD (ds ++ [d])) = true := by
 obtain ⟨h1, h2, hc, hs⟩ := isCut_iff.1 h
 rw [Int.toNat_natCast] at hc
 cases hf : freeL n ds with
 | nil => have := (free_nil hc (by omega) (by omega) (by omega)).1 hf; omega
 | cons d t => exact ⟨d, t, rfl, by rw [more_iff h d, hf]; simp⟩
theorem F65_loop {n : Nat} : ∀ (m : Nat) (out : List Dg), isCut n out = true → out.length + 3 + m = n →
  F65_L4 (((n : Int), ()), out) = some ((), firstF n m out)
 | 0, out, h, hl => by
  have hn := (isCut_iff.1 h).1
  have w0 : w64 ((n : Int) - 3) = (n : Int) - 3 := w64_id (by omega) (by omega)
  refine loopO_done ?_
  rw [F65_L4_step, T.run_test, w0, if_neg (by rw [decide_eq_true_eq]; omega), T.run_test, if_pos (by simp), T.run_ret]
  rfl
 | m + 1, out, h, hl => by
  have hn := (isCut_iff.1 h).1
  have w0 : w64 ((n : Int) - 3) = (n : Int) - 3 := w64_id (by omega) (by omega)
  obtain ⟨d, t, e, hc⟩ := firstF_head h (by omega)
  have ih := F65_loop m (sortD (out ++ [d])) hc (by rw [sortD_length, List.length_append, List.length_singleton]; omega)
  have ef : firstF n (m + 1) out = firstF n m (sortD (out ++ [d])) := by
   show firstF n m (sortD (out ++ [(freeL n out).headD (0, 0)])) = _
   rw [e, List.headD_cons]
  rw [ef, ← ih]
  refine loopO_next ?_
  rw [F65_L4_step, T.run_test, w0, if_pos (decide_eq_true (by omega)), T.run_test, if_pos (by simp), T.run_sub, win_all, F42_eq n (by omega) out (by omega), Option.bind_some, e, T.run_test, if_pos (decide_eq_true (by dsimp only; rw [List.length_cons]; omega)), T.run_sub, List.getElem?_cons_zero, Option.bind_some, T.run_test, if_pos (by simp), T.run_sub, F111_eq out d (by omega), Option.bind_some, T.run_test, if_pos (by simp), T.run_ret]
def ffR (n : Int) (ds : List Dg) : (Unit × Bool) × List Dg := if isCut n ds = true then (((), true), firstF n.toNat (n.toNat - 3 - ds.length) ds) else (((), false), [])
theorem F65_eq (n : Int) (ds : List Dg) (hl : ds.length < 4611686018427387904) : F65 (n, ds) = some (ffR n ds) := by
 unfold ffR
 rw [F65, F65_t, T.run_sub, F106_eq n ds hl, Option.bind_some, T.run_test]
 by_cases c : isCut n ds = true
 ·obtain ⟨N, rfl, h3, h12, hlen, _⟩ := isCut_cut c
  rw [c, if_neg (by decide), T.run_sub, clone_D (by omega), Option.bind_some, T.run_test, if_pos (by simp), T.run_sub, F65_loop (N - 3 - ds.length) ds c (by omega), Option.bind_some, T.run_test, if_pos (by simp), T.run_ret, if_pos rfl, Int.toNat_natCast]
 ·rw [if_pos (by simp at c ⊢; exact c), T.run_test, if_pos (by rfl), T.run_ret, if_neg c]
def F66_sh : FSh := ⟨[(.one (.si .i64)), (.one (.sl (.pair (.int .i64) (.int .i64)) false false))], []⟩
def F66_L4_sh : LSh := ⟨(fun ex => match ex with | .norm => [(0, none), (6, none)] | .exit i => if i = 0 then [(6, none)] else [] | .ret => [(4, none), (5, none)]), [(0, (.one (.si .i64))), (6, (.one (.rw 0 0)))], [(.row 0 (.pair (.int .i64) (.int .i64)))], [⟨(.exit 0), [(6, (.one (.rw 0 0)))], [(.row 0 (.pair (.int .i64) (.int .i64)))]⟩], [], []⟩
noncomputable def F66_L4_step : ((Int × Unit) × List ((Int × Int))) → T (((Int × Unit) × List ((Int × Int))) ⊕ (Unit × List ((Int × Int)))) := fun ((n, ()), out) =>
 (.test (decide ((out.length : Int) < (w64 (n - 3))))
 (.test (decide ((0 + out.length) ≤ out.length))
 (.sub (F97 (n, (win out 0 out.length))) fun z0 =>
 (.test (decide (((0 : Int) ≤ (0 : Int)) ∧ (0 < (z0.2.length : Int))))
 (.sub (z0.2[0]?) fun z1 =>
 (.test (decide (1 ≤ 1))
 (.test (decide ((0 + out.length) ≤ out.length))
 (.test (decide ((2 * ((out.length + 1) * 17)) ≤ 140737488355328))
 (.test (decide ((0 + (out.length + 1)) ≤ (List.length ((win out 0 out.length) ++ [z1]))))
 (.sub (F72 (win ((win out 0 out.length) ++ [z1]) 0 (out.length + 1))) fun z2 =>
 (.test (decide ((0 = 0) ∧ (z2.2.length = z2.2.length)))
 (.ret (Sum.inl ((n, ()), z2.2)))
 .fail))
 .fail)
 .fail)
 .fail)
 .fail))
 .fail))
 .fail)
 (.test (decide ((0 = 0) ∧ (out.length = out.length)))
 (.ret (Sum.inr ((), out)))
 .fail))
noncomputable def F66_L4 (v) := loopO (fun v => (F66_L4_step v).run) v
def F66_fo : List FO := [⟨[(.one (.rw 0 0)), (.one .sb)], [(.row 0 (.pair (.int .i64) (.int .i64)))]⟩]
noncomputable def F66_t : (Int × List ((Int × Int))) → T ((Unit × Bool) × List ((Int × Int))) := fun (n, ds) =>
 (.sub (F94 (n, ds)) fun z0 =>
 (.test (! z0)
 (.test true
 (.ret (((), false), ([] : List (Int × Int))))
 .fail)
 (.test true
 (.test (decide ((2 * ((0 + ds.length) * 17)) ≤ 140737488355328))
 (.test (decide ((0 = 0) ∧ ((0 + ds.length) = (List.length (([] : List (Int × Int)) ++ ds)))))
 (.sub (F66_L4 ((n, ()), (([] : List (Int × Int)) ++ ds))) fun z1 =>
 (.test (decide ((0 = 0) ∧ (z1.2.length = z1.2.length)))
 (.ret (((), true), z1.2))
 .fail))
 .fail)
 .fail)
 .fail)))
noncomputable def F66 (v) := (F66_t v).run
noncomputable def F66_E : TEnv := (((E0.add1 n_F94 F94_sh F94_fo F94).add1 n_F97 F97_sh F97_fo F97).add1 n_F72 F72_sh F72_fo F72)
theorem F66_Eok : (F66_E).OK := (((E0ok.add1 F94_ok).add1 F97_ok).add1 F72_ok)
noncomputable def F66_told : Nat → Option SealT := fun id => if id = 4 then some (LSh.told F66_L4_sh 0 (F66_L4_step)) else none
theorem F66_L4_ok : ToldOK Tryz.prog 0 (loopAt (bodyOf fn_F66) [0]) (LSh.told F66_L4_sh 0 (F66_L4_step)) :=
 loop_ok (E := F66_E) (F66_Eok) (told := F66_told) (l := F66_L4_sh) (step := F66_L4_step) (loopsOK_of (ls := []) (by kernel_rfl) trivial) (by kernel_rfl) (fun v => by kernel_rfl)
theorem F66_ok : FOK Tryz.prog n_F66 F66_sh F66_fo F66 :=
 fn_ok (E := F66_E) (F66_Eok) (told := F66_told) (fl := []) (c := bodyOf fn_F66) (s := F66_sh) (l := F66_fo) (tree := F66_t) fnat_F66 (by kernel_rfl) (by kernel_rfl) (by kernel_rfl) (loopsOK_of (ls := [loopAt (bodyOf fn_F66) [0]]) (by kernel_rfl) ⟨.inr ⟨_, by kernel_rfl, F66_L4_ok⟩, trivial⟩) (fun v => by kernel_rfl)
theorem F66_loop {n : Nat} : ∀ (m : Nat) (out : List Dg), isCut n out = true → out.length + 3 + m = n →
  F66_L4 (((n : Int), ()), out) = some ((), firstF n m out)
 | 0, out, h, hl => by
  have hn := (isCut_iff.1 h).1
  have w0 : w64 ((n : Int) - 3) = (n : Int) - 3 := w64_id (by omega) (by omega)
  refine loopO_done ?_
  rw [F66_L4_step, T.run_test, w0, if_neg (by rw [decide_eq_true_eq]; omega), T.run_test, if_pos (by simp), T.run_ret]
  rfl
 | m + 1, out, h, hl => by
  have hn := (isCut_iff.1 h).1
  have w0 : w64 ((n : Int) - 3) = (n : Int) - 3 := w64_id (by omega) (by omega)
  obtain ⟨d, t, e, hc⟩ := firstF_head h (by omega)
  have ih := F66_loop m (sortD (out ++ [d])) hc (by rw [sortD_length, List.length_append, List.length_singleton]; omega)
  have ef : firstF n (m + 1) out = firstF n m (sortD (out ++ [d])) := by
   show firstF n m (sortD (out ++ [(freeL n out).headD (0, 0)])) = _
   rw [e, List.headD_cons]
  have e2 : win (out ++ [d]) 0 (out.length + 1) = out ++ [d] := by
   have := win_all (out ++ [d])
   rwa [List.length_append, List.length_singleton] at this
  rw [ef, ← ih]
  refine loopO_next ?_
  rw [F66_L4_step, T.run_test, w0, if_pos (decide_eq_true (by omega)), T.run_test, if_pos (by simp), T.run_sub, win_all, F97_eq n (by omega) out (by omega), Option.bind_some, e, T.run_test, if_pos (decide_eq_true (by dsimp only; rw [List.length_cons]; omega)), T.run_sub, List.getElem?_cons_zero, Option.bind_some, T.run_test, if_pos (by rfl), T.run_test, if_pos (by simp), T.run_test, if_pos (decide_eq_true (by omega)), T.run_test, if_pos (by simp), T.run_sub, e2, F72_eq _ (by rw [List.length_append, List.length_singleton]; omega), Option.bind_some, T.run_test, if_pos (by simp), T.run_ret]
theorem F66_eq (n : Int) (ds : List Dg) (hl : ds.length < 4611686018427387904) : F66 (n, ds) = some (ffR n ds) := by
 unfold ffR
 rw [F66, F66_t, T.run_sub, F94_eq n ds hl, Option.bind_some, T.run_test]
 by_cases c : isCut n ds = true
 ·obtain ⟨N, rfl, h3, h12, hlen, _⟩ := isCut_cut c
  rw [c, if_neg (by decide), T.run_test, if_pos (by rfl), T.run_test, if_pos (decide_eq_true (by omega)), T.run_test, if_pos (by simp), T.run_sub, List.nil_append, F66_loop (N - 3 - ds.length) ds c (by omega), Option.bind_some, T.run_test, if_pos (by simp), T.run_ret, if_pos rfl, Int.toNat_natCast]
 ·rw [if_pos (by simp at c ⊢; exact c), T.run_test, if_pos (by rfl), T.run_ret, if_neg c]
def F112_sh : FSh := ⟨[(.one (.sl (.int .i64) false false)), (.one (.sl (.int .i64) false false))], []⟩
def F112_L4_sh : LSh := ⟨(fun ex => match ex with | .norm => [(0, none), (1, none), (12, none), (13, none)] | .exit i => if i = 0 then [] else [] | .ret => [(4, none)]), [(0, (.one (.sl (.int .i64) false false))), (1, (.one (.sl (.int .i64) false false))), (12, (.one (.si .i64))), (13, (.one (.si .i64)))], [], [⟨.ret, [(4, (.one .sb))], []⟩, ⟨(.exit 0), [], []⟩], [], []⟩
noncomputable def F112_L4_step : (List (Int) × List (Int) × Int × Int) → T ((List (Int) × List (Int) × Int × Int) ⊕ (Bool ⊕ Unit)) := fun (a, b, t12, t13) =>
 (.test (decide (t13 < t12))
 (.test (decide ((0 ≤ t13) ∧ (t13 < (a.length : Int))))
 (.sub (a[(Int.toNat t13)]?) fun z0 =>
 (.test (decide ((0 ≤ t13) ∧ (t13 < (b.length : Int))))
 (.sub (b[(Int.toNat t13)]?) fun z1 =>
 (.test (z0 != z1)
 (.ret (Sum.inr (Sum.inl false)))
 (.ret (Sum.inl (a, (b, (t12, (w64 (t13 + 1)))))))))
 .fail))
 .fail)
 (.ret (Sum.inr (Sum.inr ()))))
noncomputable def F112_L4 (v) := loopO (fun v => (F112_L4_step v).run) v
def F112_fo : List FO := [⟨[(.one .sb)], []⟩]
noncomputable def F112_t : (List (Int) × List (Int)) → T Bool := fun (a, b) =>
 (.test ((a.length : Int) != (b.length : Int))
 (.ret false)
 (.sub (F112_L4 (a, (b, ((a.length : Int), (0 : Int))))) fun z0 =>
 (.test (Sum.isLeft z0)
 (.sub (Sum.getLeft? z0) fun z1 =>
 (.ret z1))
 (.sub (Sum.getRight? z0) fun z2 =>
 (.ret true)))))
noncomputable def F112 (v) := (F112_t v).run
noncomputable def F112_E : TEnv := E0
theorem F112_Eok : (F112_E).OK := E0ok
noncomputable def F112_told : Nat → Option SealT := fun id => if id = 4 then some (LSh.told F112_L4_sh 0 (F112_L4_step)) else none
theorem F112_L4_ok : ToldOK Tryz.prog 0 (loopAt (bodyOf fn_F112) [0]) (LSh.told F112_L4_sh 0 (F112_L4_step)) :=
 loop_ok (E := F112_E) (F112_Eok) (told := F112_told) (l := F112_L4_sh) (step := F112_L4_step) (loopsOK_of (ls := []) (by kernel_rfl) trivial) (by kernel_rfl) (fun v => by kernel_rfl)
theorem F112_ok : FOK Tryz.prog n_F112 F112_sh F112_fo F112 :=
 fn_ok (E := F112_E) (F112_Eok) (told := F112_told) (fl := []) (c := bodyOf fn_F112) (s := F112_sh) (l := F112_fo) (tree := F112_t) fnat_F112 (by kernel_rfl) (by kernel_rfl) (by kernel_rfl) (loopsOK_of (ls := [loopAt (bodyOf fn_F112) [0]]) (by kernel_rfl) ⟨.inr ⟨_, by kernel_rfl, F112_L4_ok⟩, trivial⟩) (fun v => by kernel_rfl)
theorem uSame_val (a b : List Int) (hl : a.length < 4611686018427387904) : F112 (a, b) = some (decide (a = b)) := by
 rw [F112, F112_t, T.run_test]
 by_cases he : a.length = b.length
 ·have h := cmp_loop (step := fun v => (F112_L4_step v).run) a b (fun k => (a, (b, ((a.length : Int), (k : Int))))) he
   (fun k x y hx hy => by
    have k1 := getElem?_lt hx
    have k2 := getElem?_lt hy
    have w1 : w64 ((k : Int) + 1) = ((k + 1 : Nat) : Int) := by rw [w64_id (by omega) (by omega)]; omega
    rw [F112_L4_step, T.run_test, if_pos (decide_eq_true (by omega)), T.run_test, if_pos (decide_eq_true (by omega)), T.run_sub, Int.toNat_natCast, hx, Option.bind_some, T.run_test, if_pos (decide_eq_true (by omega)), T.run_sub, hy, Option.bind_some, T.run_test]
    by_cases e : x = y
    ·rw [if_neg (by simp [e]), if_pos e, T.run_ret, w1]
    ·rw [if_pos (by simp [e]), if_neg e, T.run_ret])
   (by rw [F112_L4_step, T.run_test, if_neg (by simp), T.run_ret])
  have h' : F112_L4 (a, (b, ((a.length : Int), (0 : Int)))) = _ := h
  rw [if_neg (by simp [he]), T.run_sub, h', Option.bind_some]
  by_cases e : a = b
  ·rw [if_pos e, decide_eq_true e]; rfl
  ·rw [if_neg e, decide_eq_false e]; rfl
 ·rw [if_pos (by simp; omega), T.run_ret, decide_eq_false fun e => he (by rw [e])]
def F113_sh : FSh := ⟨[(.one (.sl (.list true (.int .i64)) false false)), (.one (.sl (.list true (.int .i64)) false false))], []⟩
def F113_L4_sh : LSh := ⟨(fun ex => match ex with | .norm => [(0, none), (1, none), (12, none), (13, none)] | .exit i => if i = 0 then [] else [] | .ret => [(4, none)]), [(0, (.one (.sl (.list true (.int .i64)) false false))), (1, (.one (.sl (.list true (.int .i64)) false false))), (12, (.one (.si .i64))), (13, (.one (.si .i64)))], [], [⟨.ret, [(4, (.one .sb))], []⟩, ⟨(.exit 0), [], []⟩], [], []⟩
noncomputable def F113_L4_step : (List (List (Int)) × List (List (Int)) × Int × Int) → T ((List (List (Int)) × List (List (Int)) × Int × Int) ⊕ (Bool ⊕ Unit)) := fun (a, b, t12, t13) =>
 (.test (decide (t13 < t12))
 (.test (decide ((0 ≤ t13) ∧ (t13 < (a.length : Int))))
 (.sub (a[(Int.toNat t13)]?) fun z0 =>
 (.test (decide ((0 ≤ t13) ∧ (t13 < (b.length : Int))))
 (.sub (b[(Int.toNat t13)]?) fun z1 =>
 (.sub (F112 (z0, z1)) fun z2 =>
 (.test (! z2)
 (.ret (Sum.inr (Sum.inl false)))
 (.ret (Sum.inl (a, (b, (t12, (w64 (t13 + 1))))))))))
 .fail))
 .fail)
 (.ret (Sum.inr (Sum.inr ()))))
noncomputable def F113_L4 (v) := loopO (fun v => (F113_L4_step v).run) v
def F113_fo : List FO := [⟨[(.one .sb)], []⟩]
noncomputable def F113_t : (List (List (Int)) × List (List (Int))) → T Bool := fun (a, b) =>
 (.test ((a.length : Int) != (b.length : Int))
 (.ret false)
 (.sub (F113_L4 (a, (b, ((a.length : Int), (0 : Int))))) fun z0 =>
 (.test (Sum.isLeft z0)
 (.sub (Sum.getLeft? z0) fun z1 =>
 (.ret z1))
 (.sub (Sum.getRight? z0) fun z2 =>
 (.ret true)))))
noncomputable def F113 (v) := (F113_t v).run
noncomputable def F113_E : TEnv := (E0.add1 n_F112 F112_sh F112_fo F112)
theorem F113_Eok : (F113_E).OK := (E0ok.add1 F112_ok)
noncomputable def F113_told : Nat → Option SealT := fun id => if id = 4 then some (LSh.told F113_L4_sh 0 (F113_L4_step)) else none
theorem F113_L4_ok : ToldOK Tryz.prog 0 (loopAt (bodyOf fn_F113) [0]) (LSh.told F113_L4_sh 0 (F113_L4_step)) :=
 loop_ok (E := F113_E) (F113_Eok) (told := F113_told) (l := F113_L4_sh) (step := F113_L4_step) (loopsOK_of (ls := []) (by kernel_rfl) trivial) (by kernel_rfl) (fun v => by kernel_rfl)
theorem F113_ok : FOK Tryz.prog n_F113 F113_sh F113_fo F113 :=
 fn_ok (E := F113_E) (F113_Eok) (told := F113_told) (fl := []) (c := bodyOf fn_F113) (s := F113_sh) (l := F113_fo) (tree := F113_t) fnat_F113 (by kernel_rfl) (by kernel_rfl) (by kernel_rfl) (loopsOK_of (ls := [loopAt (bodyOf fn_F113) [0]]) (by kernel_rfl) ⟨.inr ⟨_, by kernel_rfl, F113_L4_ok⟩, trivial⟩) (fun v => by kernel_rfl)
theorem uRows_val (a b : List (List Int)) (hl : a.length < 4611686018427387904) (hr : ∀ x ∈ a, x.length < 4611686018427387904) : F113 (a, b) = some (decide (a = b)) := by
 rw [F113, F113_t, T.run_test]
 by_cases he : a.length = b.length
 ·have h := cmp_loop (step := fun v => (F113_L4_step v).run) a b (fun k => (a, (b, ((a.length : Int), (k : Int))))) he
   (fun k x y hx hy => by
    have k1 := getElem?_lt hx
    have k2 := getElem?_lt hy
    have w1 : w64 ((k : Int) + 1) = ((k + 1 : Nat) : Int) := by rw [w64_id (by omega) (by omega)]; omega
    rw [F113_L4_step, T.run_test, if_pos (decide_eq_true (by omega)), T.run_test, if_pos (decide_eq_true (by omega)), T.run_sub, Int.toNat_natCast, hx, Option.bind_some, T.run_test, if_pos (decide_eq_true (by omega)), T.run_sub, hy, Option.bind_some,
     T.run_sub, uSame_val x y (hr x (List.mem_of_getElem? hx)), Option.bind_some, T.run_test]
    by_cases e : x = y
    ·rw [if_neg (by simp [e]), if_pos e, T.run_ret, w1]
    ·rw [if_pos (by simp [e]), if_neg e, T.run_ret])
   (by rw [F113_L4_step, T.run_test, if_neg (by simp), T.run_ret])
  have h' : F113_L4 (a, (b, ((a.length : Int), (0 : Int)))) = _ := h
  rw [if_neg (by simp [he]), T.run_sub, h', Option.bind_some]
  by_cases e : a = b
  ·rw [if_pos e, decide_eq_true e]; rfl
  ·rw [if_neg e, decide_eq_false e]; rfl
 ·rw [if_pos (by simp; omega), T.run_ret, decide_eq_false fun e => he (by rw [e])]
def F114_sh : FSh := ⟨[(.one (.sl (.pair (.int .i64) (.int .i64)) false false)), (.one (.sl (.pair (.int .i64) (.int .i64)) false false))], []⟩
def F114_L4_sh : LSh := ⟨(fun ex => match ex with | .norm => [(0, none), (1, none), (12, none), (13, none)] | .exit i => if i = 0 then [] else [] | .ret => [(4, none)]), [(0, (.one (.sl (.pair (.int .i64) (.int .i64)) false false))), (1, (.one (.sl (.pair (.int .i64) (.int .i64)) false false))), (12, (.one (.si .i64))), (13, (.one (.si .i64)))], [], [⟨.ret, [(4, (.one .sb))], []⟩, ⟨(.exit 0), [], []⟩], [], []⟩
noncomputable def F114_L4_step : (List ((Int × Int)) × List ((Int × Int)) × Int × Int) → T ((List ((Int × Int)) × List ((Int × Int)) × Int × Int) ⊕ (Bool ⊕ Unit)) := fun (a, b, t12, t13) =>
 (.test (decide (t13 < t12))
 (.test (decide ((0 ≤ t13) ∧ (t13 < (a.length : Int))))
 (.sub (a[(Int.toNat t13)]?) fun z0 =>
 (.test (decide ((0 ≤ t13) ∧ (t13 < (b.length : Int))))
 (.sub (b[(Int.toNat t13)]?) fun z1 =>
 (.test (! ((z0.1 == z1.1) && ((z0.2 == z1.2) && true)))
 (.ret (Sum.inr (Sum.inl false)))
 (.ret (Sum.inl (a, (b, (t12, (w64 (t13 + 1)))))))))
 .fail))
 .fail)
 (.ret (Sum.inr (Sum.inr ()))))
noncomputable def F114_L4 (v) := loopO (fun v => (F114_L4_step v).run) v
def F114_fo : List FO := [⟨[(.one .sb)], []⟩]
noncomputable def F114_t : (List ((Int × Int)) × List ((Int × Int))) → T Bool := fun (a, b) =>
 (.test ((a.length : Int) != (b.length : Int))
 (.ret false)
 (.sub (F114_L4 (a, (b, ((a.length : Int), (0 : Int))))) fun z0 =>
 (.test (Sum.isLeft z0)
 (.sub (Sum.getLeft? z0) fun z1 =>
 (.ret z1))
 (.sub (Sum.getRight? z0) fun z2 =>
 (.ret true)))))
noncomputable def F114 (v) := (F114_t v).run
noncomputable def F114_E : TEnv := E0
theorem F114_Eok : (F114_E).OK := E0ok
noncomputable def F114_told : Nat → Option SealT := fun id => if id = 4 then some (LSh.told F114_L4_sh 0 (F114_L4_step)) else none
theorem F114_L4_ok : ToldOK Tryz.prog 0 (loopAt (bodyOf fn_F114) [0]) (LSh.told F114_L4_sh 0 (F114_L4_step)) :=
 loop_ok (E := F114_E) (F114_Eok) (told := F114_told) (l := F114_L4_sh) (step := F114_L4_step) (loopsOK_of (ls := []) (by kernel_rfl) trivial) (by kernel_rfl) (fun v => by kernel_rfl)
theorem F114_ok : FOK Tryz.prog n_F114 F114_sh F114_fo F114 :=
 fn_ok (E := F114_E) (F114_Eok) (told := F114_told) (fl := []) (c := bodyOf fn_F114) (s := F114_sh) (l := F114_fo) (tree := F114_t) fnat_F114 (by kernel_rfl) (by kernel_rfl) (by kernel_rfl) (loopsOK_of (ls := [loopAt (bodyOf fn_F114) [0]]) (by kernel_rfl) ⟨.inr ⟨_, by kernel_rfl, F114_L4_ok⟩, trivial⟩) (fun v => by kernel_rfl)
theorem uCuts_val (a b : List (Int × Int)) (hl : a.length < 4611686018427387904) : F114 (a, b) = some (decide (a = b)) := by
 rw [F114, F114_t, T.run_test]
 by_cases he : a.length = b.length
 ·have h := cmp_loop (step := fun v => (F114_L4_step v).run) a b (fun k => (a, (b, ((a.length : Int), (k : Int))))) he
   (fun k x y hx hy => by
    have k1 := getElem?_lt hx
    have k2 := getElem?_lt hy
    have w1 : w64 ((k : Int) + 1) = ((k + 1 : Nat) : Int) := by rw [w64_id (by omega) (by omega)]; omega
    rw [F114_L4_step, T.run_test, if_pos (decide_eq_true (by omega)), T.run_test, if_pos (decide_eq_true (by omega)), T.run_sub, Int.toNat_natCast, hx, Option.bind_some, T.run_test, if_pos (decide_eq_true (by omega)), T.run_sub, hy, Option.bind_some, T.run_test]
    by_cases e : x = y
    ·rw [if_neg (by simp [e]), if_pos e, T.run_ret, w1]
    ·rw [if_pos (by
      obtain ⟨x1, x2⟩ := x
      obtain ⟨y1, y2⟩ := y
      simp only [Prod.mk.injEq] at e
      by_cases e1 : x1 = y1
      ·have e2 : x2 ≠ y2 := fun h => e ⟨e1, h⟩
       simp [e2]
      ·simp [e1]), if_neg e, T.run_ret])
   (by rw [F114_L4_step, T.run_test, if_neg (by simp), T.run_ret])
  have h' : F114_L4 (a, (b, ((a.length : Int), (0 : Int)))) = _ := h
  rw [if_neg (by simp [he]), T.run_sub, h', Option.bind_some]
  by_cases e : a = b
  ·rw [if_pos e, decide_eq_true e]; rfl
  ·rw [if_neg e, decide_eq_false e]; rfl
 ·rw [if_pos (by simp; omega), T.run_ret, decide_eq_false fun e => he (by rw [e])]
def F115_sh : FSh := ⟨[(.one (.si .i64)), (.one (.sl (.pair (.int .i64) (.int .i64)) false false))], []⟩
def F115_fo : List FO := [⟨[(.one .sb)], []⟩]
noncomputable def F115_t : (Int × List ((Int × Int))) → T Bool := fun (n, ds) =>
 (.sub (F94 (n, ds)) fun z0 =>
 (.ret z0))
noncomputable def F115 (v) := (F115_t v).run
noncomputable def F115_E : TEnv := (E0.add1 n_F94 F94_sh F94_fo F94)
theorem F115_Eok : (F115_E).OK := (E0ok.add1 F94_ok)
noncomputable def F115_told : Nat → Option SealT := fun id => none
theorem F115_ok : FOK Tryz.prog n_F115 F115_sh F115_fo F115 :=
 fn_ok (E := F115_E) (F115_Eok) (told := F115_told) (fl := []) (c := bodyOf fn_F115) (s := F115_sh) (l := F115_fo) (tree := F115_t) fnat_F115 (by kernel_rfl) (by kernel_rfl) (by kernel_rfl) (loopsOK_of (ls := []) (by kernel_rfl) trivial) (fun v => by kernel_rfl)
def F126_sh : FSh := ⟨[(.one (.sl (.int .i64) false false))], []⟩
def F126_L3_sh : LSh := ⟨(fun ex => match ex with | .norm => [(3, none), (6, none), (7, none), (8, none)] | .exit i => if i = 0 then [(3, none)] else [] | .ret => [(2, none)]), [(3, (.one (.si .i64))), (6, (.one (.sl (.int .i64) false false))), (7, (.one (.si .i64))), (8, (.one (.si .i64)))], [], [⟨(.exit 0), [(3, (.one (.si .i64)))], []⟩], [], []⟩
noncomputable def F126_L3_step : (Int × List (Int) × Int × Int) → T ((Int × List (Int) × Int × Int) ⊕ Int) := fun (n, t6, t7, t8) =>
 (.test (decide (t8 < t7))
 (.test (decide ((0 ≤ t8) ∧ (t8 < (t6.length : Int))))
 (.sub (t6[(Int.toNat t8)]?) fun z0 =>
 (.ret (Sum.inl ((w64 (n + z0)), (t6, (t7, (w64 (t8 + 1))))))))
 .fail)
 (.ret (Sum.inr n)))
noncomputable def F126_L3 (v) := loopO (fun v => (F126_L3_step v).run) v
def F126_fo : List FO := [⟨[(.one (.si .i64))], []⟩]
noncomputable def F126_t : List (Int) → T Int := fun a =>
 (.sub (F126_L3 ((0 : Int), (a, ((a.length : Int), (0 : Int))))) fun z0 =>
 (.ret z0))
noncomputable def F126 (v) := (F126_t v).run
noncomputable def F126_E : TEnv := E0
theorem F126_Eok : (F126_E).OK := E0ok
noncomputable def F126_told : Nat → Option SealT := fun id => if id = 3 then some (LSh.told F126_L3_sh 0 (F126_L3_step)) else none
theorem F126_L3_ok : ToldOK Tryz.prog 0 (loopAt (bodyOf fn_F126) [0]) (LSh.told F126_L3_sh 0 (F126_L3_step)) :=
 loop_ok (E := F126_E) (F126_Eok) (told := F126_told) (l := F126_L3_sh) (step := F126_L3_step) (loopsOK_of (ls := []) (by kernel_rfl) trivial) (by kernel_rfl) (fun v => by kernel_rfl)
theorem F126_ok : FOK Tryz.prog n_F126 F126_sh F126_fo F126 :=
 fn_ok (E := F126_E) (F126_Eok) (told := F126_told) (fl := []) (c := bodyOf fn_F126) (s := F126_sh) (l := F126_fo) (tree := F126_t) fnat_F126 (by kernel_rfl) (by kernel_rfl) (by kernel_rfl) (loopsOK_of (ls := [loopAt (bodyOf fn_F126) [0]]) (by kernel_rfl) ⟨.inr ⟨_, by kernel_rfl, F126_L3_ok⟩, trivial⟩) (fun v => by kernel_rfl)
theorem F126_eq (a : List Int) (hl : a.length ≤ 1000) (hb : ∀ z ∈ a, 0 ≤ z ∧ z ≤ 1000) : F126 a = some a.sum := by
 have key : ∀ (m k : Nat) (s : Int), k + m = a.length → 0 ≤ s ∧ s ≤ 1000 * (k : Int) → F126_L3 (s, (a, ((a.length : Int), (k : Int)))) = some (s + (a.drop k).sum) := by
  intro m
  induction m with
  | zero =>
   intro k s hk hs
   rw [List.drop_of_length_le (by omega), List.sum_nil, Int.add_zero]
   refine loopO_done ?_
   rw [F126_L3_step, T.run_test, if_neg (by rw [decide_eq_true_eq]; omega), T.run_ret]
  | succ m ih =>
   intro k s hk hs
   have hlt : k < a.length := by omega
   have w1 : w64 ((k : Int) + 1) = ((k + 1 : Nat) : Int) := by rw [w64_id (by omega) (by omega)]; omega
   have hz := hb a[k] (List.getElem_mem hlt)
   have w2 : w64 (s + a[k]) = s + a[k] := w64_id (by omega) (by omega)
   rw [List.drop_eq_getElem_cons hlt, List.sum_cons, ← Int.add_assoc, ← ih (k + 1) (s + a[k]) (by omega) (by omega)]
   refine loopO_next ?_
   rw [F126_L3_step, T.run_test, if_pos (decide_eq_true (by omega)), T.run_test, if_pos (decide_eq_true (by omega)), T.run_sub, Int.toNat_natCast, List.getElem?_eq_getElem hlt, Option.bind_some, T.run_ret, w1, w2]
 have h := key a.length 0 0 (by omega) (by omega)
 have h' : F126_L3 ((0 : Int), (a, ((a.length : Int), (0 : Int)))) = _ := h
 rw [F126, F126_t, T.run_sub, h', Option.bind_some, T.run_ret, List.drop_zero, Int.zero_add]
def F24_sh : FSh := ⟨[(.ag [(.si .i64), (.si .i64)]), (.one (.pf 0 0 0))], [(.rcd 0 [(.si .i64), (.si .i64)])]⟩
def F24_fo : List FO := [⟨[(.one .sb)], [(.rcd 0 [(.si .i64), (.si .i64)])]⟩]
noncomputable def F24_t : (((Int × Int) × Unit) × (Int × Int)) → T (Bool × (Int × Int)) := fun (((e_0, e_1), ()), (t1_0, t1_1)) =>
 (.sub (F82 ((t1_0, t1_1), (e_0, e_1))) fun z0 =>
 (.ret (z0, (t1_0, t1_1))))
noncomputable def F24 (v) := (F24_t v).run
noncomputable def F24_E : TEnv := (E0.add1 n_F82 F82_sh F82_fo F82)
theorem F24_Eok : (F24_E).OK := (E0ok.add1 F82_ok)
noncomputable def F24_told : Nat → Option SealT := fun id => none
theorem F24_ok : FOK Tryz.prog n_F24 F24_sh F24_fo F24 :=
 fn_ok (E := F24_E) (F24_Eok) (told := F24_told) (fl := []) (c := bodyOf fn_F24) (s := F24_sh) (l := F24_fo) (tree := F24_t) fnat_F24 (by kernel_rfl) (by kernel_rfl) (by kernel_rfl) (loopsOK_of (ls := []) (by kernel_rfl) trivial) (fun v => by kernel_rfl)
def F3_sh : FSh := ⟨[(.one (.sl (.pair (.int .i64) (.int .i64)) false false)), (.clo n_F24 [(.one (.pf 0 0 0))])], [(.rcd 0 [(.si .i64), (.si .i64)])]⟩
def F3_L2_sh : LSh := ⟨(fun ex => match ex with | .norm => [(0, none), (1, none), (7, none), (8, none)] | .exit i => if i = 0 then [] else [] | .ret => [(4, none)]), [(0, (.one (.sl (.pair (.int .i64) (.int .i64)) false false))), (1, (.clo n_F24 [(.one (.pf 0 0 0))])), (7, (.one (.si .i64))), (8, (.one (.si .i64)))], [(.rcd 0 [(.si .i64), (.si .i64)])], [⟨.ret, [(4, (.one (.si .i64)))], [(.rcd 0 [(.si .i64), (.si .i64)])]⟩, ⟨(.exit 0), [], [(.rcd 0 [(.si .i64), (.si .i64)])]⟩], [], []⟩
noncomputable def F3_L2_step : ((List ((Int × Int)) × Unit × Int × Int) × (Int × Int)) → T (((List ((Int × Int)) × Unit × Int × Int) × (Int × Int)) ⊕ ((Int × (Int × Int)) ⊕ (Unit × (Int × Int)))) := fun ((s, (), t7, t8), (r0_0, r0_1)) =>
 (.test (decide (t8 < t7))
 (.test (decide ((0 ≤ t8) ∧ (t8 < (s.length : Int))))
 (.sub (s[(Int.toNat t8)]?) fun z0 =>
 (.sub (F24 (((z0.1, z0.2), ()), (r0_0, r0_1))) fun z1 =>
 (.test z1.1
 (.ret (Sum.inr (Sum.inl (t8, (z1.2.1, z1.2.2)))))
 (.ret (Sum.inl ((s, ((), (t7, (w64 (t8 + 1))))), (z1.2.1, z1.2.2)))))))
 .fail)
 (.ret (Sum.inr (Sum.inr ((), (r0_0, r0_1))))))
noncomputable def F3_L2 (v) := loopO (fun v => (F3_L2_step v).run) v
def F3_fo : List FO := [⟨[(.one (.si .i64))], [(.rcd 0 [(.si .i64), (.si .i64)])]⟩]
noncomputable def F3_t : ((List ((Int × Int)) × Unit) × (Int × Int)) → T (Int × (Int × Int)) := fun ((s, ()), (r0_0, r0_1)) =>
 (.sub (F3_L2 ((s, ((), ((s.length : Int), (0 : Int)))), (r0_0, r0_1))) fun z0 =>
 (.test (Sum.isLeft z0)
 (.sub (Sum.getLeft? z0) fun z1 =>
 (.ret (z1.1, (z1.2.1, z1.2.2))))
 (.sub (Sum.getRight? z0) fun z2 =>
 (.ret ((-1), (z2.2.1, z2.2.2))))))
noncomputable def F3 (v) := (F3_t v).run
noncomputable def F3_E : TEnv := (E0.add1 n_F24 F24_sh F24_fo F24)
theorem F3_Eok : (F3_E).OK := (E0ok.add1 F24_ok)
noncomputable def F3_told : Nat → Option SealT := fun id => if id = 2 then some (LSh.told F3_L2_sh 1 (F3_L2_step)) else none
theorem F3_L2_ok : ToldOK Tryz.prog 1 (loopAt (bodyOf fn_F16) [0]) (LSh.told F3_L2_sh 1 (F3_L2_step)) :=
 loop_ok (E := F3_E) (F3_Eok) (told := F3_told) (l := F3_L2_sh) (step := F3_L2_step) (loopsOK_of (ls := []) (by kernel_rfl) trivial) (by kernel_rfl) (fun v => by kernel_rfl)
theorem F3_ok : FOK Tryz.prog n_F16 F3_sh F3_fo F3 :=
 fn_ok (E := F3_E) (F3_Eok) (told := F3_told) (fl := []) (c := bodyOf fn_F16) (s := F3_sh) (l := F3_fo) (tree := F3_t) fnat_F16 (by kernel_rfl) (by kernel_rfl) (by kernel_rfl) (loopsOK_of (ls := [loopAt (bodyOf fn_F16) [0]]) (by kernel_rfl) ⟨.inr ⟨_, by kernel_rfl, F3_L2_ok⟩, trivial⟩) (fun v => by kernel_rfl)
def F2_sh : FSh := ⟨[(.one (.sl (.pair (.int .i64) (.int .i64)) false false)), (.clo n_F24 [(.one (.pf 0 0 0))])], [(.rcd 0 [(.si .i64), (.si .i64)])]⟩
def F2_fo : List FO := [⟨[(.one .sb)], [(.rcd 0 [(.si .i64), (.si .i64)])]⟩]
noncomputable def F2_t : ((List ((Int × Int)) × Unit) × (Int × Int)) → T (Bool × (Int × Int)) := fun ((s, ()), (r0_0, r0_1)) =>
 (.sub (F3 ((s, ()), (r0_0, r0_1))) fun z0 =>
 (.ret ((decide (z0.1 ≥ 0)), (z0.2.1, z0.2.2))))
noncomputable def F2 (v) := (F2_t v).run
noncomputable def F2_E : TEnv := (E0.add1 n_F16 F3_sh F3_fo F3)
theorem F2_Eok : (F2_E).OK := (E0ok.add1 F3_ok)
noncomputable def F2_told : Nat → Option SealT := fun id => none
theorem F2_ok : FOK Tryz.prog n_F13 F2_sh F2_fo F2 :=
 fn_ok (E := F2_E) (F2_Eok) (told := F2_told) (fl := []) (c := bodyOf fn_F13) (s := F2_sh) (l := F2_fo) (tree := F2_t) fnat_F13 (by kernel_rfl) (by kernel_rfl) (by kernel_rfl) (loopsOK_of (ls := []) (by kernel_rfl) trivial) (fun v => by kernel_rfl)
theorem F2_eq (s : List Dg) (d : Dg) (hl : s.length < 4611686018427387904) : F2 ((s, ()), d) = some (s.any (crossD d), d) := by
 obtain ⟨a, b⟩ := d
 have hc : ∀ e : Dg, F24 ((e, ()), (a, b)) = some (crossD (a, b) e, (a, b)) := by
  intro e
  obtain ⟨e0, e1⟩ := e
  simp [F24, F24_t, T.run, F82_eq]
 have h := loop_find (step := fun v => (F3_L2_step v).run) (xs := s) (crossD (a, b)) (fun k => ((s, ((), ((s.length : Int), (k : Int)))), (a, b))) (fun k => .inl ((k : Int), (a, b))) (.inr ((), (a, b)))
  (fun k x hx => by
   have hlt := getElem?_lt hx
   have h1 : (k : Int) < (s.length : Int) := by omega
   have h2 : (0 : Int) ≤ k ∧ (k : Int) < (s.length : Int) := by omega
   simp only [F3_L2_step, T.run, Int.toNat_natCast, hx, Option.bind_some, h1, h2, decide_true, if_true, and_self, hc]
   rw [w64_id (z := (k : Int) + 1) (by omega) (by omega)]
   cases hv : crossD (a, b) x <;> simp)
  (by simp [F3_L2_step, T.run])
 rw [show ((0 : Nat) : Int) = 0 from rfl] at h
 have hi : F3 ((s, ()), (a, b)) = some (idxI (crossD (a, b)) s, (a, b)) := by
  simp only [F3, F3_t, T.run, F3_L2]
  rw [h]
  simp only [idxI]
  cases hf : s.findIdx? (crossD (a, b)) <;> simp [Sum.isLeft]
 simp only [F2, F2_t, T.run, hi, Option.bind_some, idxI_ge]
def F33_sh : FSh := ⟨[(.one (.si .i64)), (.one (.sl (.pair (.int .i64) (.int .i64)) false false))], []⟩
def F33_L4_sh : LSh := ⟨(fun ex => match ex with | .norm => [(0, none), (1, none), (17, none), (18, none), (19, none)] | .exit i => if i = 0 then [] else [] | .ret => [(4, none)]), [(0, (.one (.si .i64))), (1, (.one (.sl (.pair (.int .i64) (.int .i64)) false false))), (17, (.one (.sl (.pair (.int .i64) (.int .i64)) false false))), (18, (.one (.si .i64))), (19, (.one (.si .i64)))], [], [⟨.ret, [(4, (.one .sb))], []⟩, ⟨(.exit 0), [], []⟩], [], []⟩
noncomputable def F33_L4_step : (Int × List ((Int × Int)) × List ((Int × Int)) × Int × Int) → T ((Int × List ((Int × Int)) × List ((Int × Int)) × Int × Int) ⊕ (Bool ⊕ Unit)) := fun (n, ds, t17, t18, t19) =>
 (.test (decide (t19 < t18))
 (.test (decide ((0 ≤ t19) ∧ (t19 < (t17.length : Int))))
 (.sub (t17[(Int.toNat t19)]?) fun z0 =>
 (.sub (F58 (n, (z0.1, z0.2))) fun z1 =>
 (.test (! z1)
 (.ret (Sum.inr (Sum.inl false)))
 (.test (decide (t19 > 0))
 (.test (decide ((0 ≤ (w64 (t19 - 1))) ∧ ((w64 (t19 - 1)) < (ds.length : Int))))
 (.sub (ds[(Int.toNat (w64 (t19 - 1)))]?) fun z2 =>
 (.sub (F25 ((z2.1, z2.2), (z0.1, z0.2))) fun z3 =>
 (.test (decide (z3 ≥ 0))
 (.ret (Sum.inr (Sum.inl false)))
 (.test (decide (0 ≤ t19))
 (.test (decide ((0 ≤ (Int.toNat t19)) ∧ ((Int.toNat t19) ≤ ds.length)))
 (.sub (F2 (((win ds 0 ((Int.toNat t19) - 0)), ()), (z0.1, z0.2))) fun z4 =>
 (.test z4.1
 (.ret (Sum.inr (Sum.inl false)))
 (.ret (Sum.inl (n, (ds, (t17, (t18, (w64 (t19 + 1))))))))))
 .fail)
 .fail))))
 .fail)
 (.test (decide (0 ≤ t19))
 (.test (decide ((0 ≤ (Int.toNat t19)) ∧ ((Int.toNat t19) ≤ ds.length)))
 (.sub (F2 (((win ds 0 ((Int.toNat t19) - 0)), ()), (z0.1, z0.2))) fun z5 =>
 (.test z5.1
 (.ret (Sum.inr (Sum.inl false)))
 (.ret (Sum.inl (n, (ds, (t17, (t18, (w64 (t19 + 1))))))))))
 .fail)
 .fail)))))
 .fail)
 (.ret (Sum.inr (Sum.inr ()))))
noncomputable def F33_L4 (v) := loopO (fun v => (F33_L4_step v).run) v
def F33_fo : List FO := [⟨[(.one .sb)], []⟩]
noncomputable def F33_t : (Int × List ((Int × Int))) → T Bool := fun (n, ds) =>
 (.sub (F70 n) fun z0 =>
 (.test (! z0)
 (.ret false)
 (.test ((ds.length : Int) != (w64 (n - 3)))
 (.ret false)
 (.sub (F33_L4 (n, (ds, (ds, ((ds.length : Int), (0 : Int)))))) fun z1 =>
 (.test (Sum.isLeft z1)
 (.sub (Sum.getLeft? z1) fun z2 =>
 (.ret z2))
 (.sub (Sum.getRight? z1) fun z3 =>
 (.ret true)))))))
noncomputable def F33 (v) := (F33_t v).run
noncomputable def F33_E : TEnv := ((((E0.add1 n_F70 F70_sh F70_fo F70).add1 n_F58 F58_sh F58_fo F58).add1 n_F25 F25_sh F25_fo F25).add1 n_F13 F2_sh F2_fo F2)
theorem F33_Eok : (F33_E).OK := ((((E0ok.add1 F70_ok).add1 F58_ok).add1 F25_ok).add1 F2_ok)
noncomputable def F33_told : Nat → Option SealT := fun id => if id = 4 then some (LSh.told F33_L4_sh 0 (F33_L4_step)) else none
theorem F33_L4_ok : ToldOK Tryz.prog 0 (loopAt (bodyOf fn_F33) [0]) (LSh.told F33_L4_sh 0 (F33_L4_step)) :=
 loop_ok (E := F33_E) (F33_Eok) (told := F33_told) (l := F33_L4_sh) (step := F33_L4_step) (loopsOK_of (ls := []) (by kernel_rfl) trivial) (by kernel_rfl) (fun v => by kernel_rfl)
theorem F33_ok : FOK Tryz.prog n_F33 F33_sh F33_fo F33 :=
 fn_ok (E := F33_E) (F33_Eok) (told := F33_told) (fl := []) (c := bodyOf fn_F33) (s := F33_sh) (l := F33_fo) (tree := F33_t) fnat_F33 (by kernel_rfl) (by kernel_rfl) (by kernel_rfl) (loopsOK_of (ls := [loopAt (bodyOf fn_F33) [0]]) (by kernel_rfl) ⟨.inr ⟨_, by kernel_rfl, F33_L4_ok⟩, trivial⟩) (fun v => by kernel_rfl)
theorem F33_eq (n : Int) (ds : List Dg) (hl : ds.length < 4611686018427387904) : F33 (n, ds) = some (isTri n ds) := by
 simp only [F33, F33_t, T.run, F70, F70_t, F92_eq, Option.bind_some, isTri]
 cases hn : inB 3 12 n with
 | false => simp
 | true =>
  rw [inB_iff] at hn
  rw [w64_id (z := n - 3) (by omega) (by omega)]
  by_cases he : (ds.length : Int) = n - 3
  ·have h := loop_any (step := fun v => (F33_L4_step v).run) (xs := List.range ds.length) (badT n ds) (fun k => (n, (ds, (ds, ((ds.length : Int), (k : Int)))))) (.inl false) (.inr ())
    (fun k x hx => by
     obtain ⟨hk, e⟩ := List.getElem?_eq_some_iff.1 hx
     simp only [List.getElem_range] at e
     subst e
     rw [List.length_range] at hk
     have g0 := gD_some hk
     have c0 : (k : Int) < (ds.length : Int) := by omega
     have c1 : (0 : Int) ≤ (k : Int) ∧ (k : Int) < (ds.length : Int) := by omega
     have w1 : w64 ((k : Int) + 1) = ((k + 1 : Nat) : Int) := by rw [w64_id (by omega) (by omega)]; omega
     have c2 : 0 ≤ k ∧ k ≤ ds.length := by omega
     have c3 : (0 : Int) ≤ (k : Int) := by omega
     have tw : win ds 0 (k - 0) = ds.take k := win_take _ _
     have hlt : (ds.take k).length < 4611686018427387904 := by simp; omega
     simp only [F33_L4_step, T.run, c0, c1, c2, c3, decide_true, if_true, and_self, Int.toNat_natCast, g0, Option.bind_some, F58_eq n (gD ds k) (by omega) (by omega), tw, F2_eq _ (gD ds k) hlt, w1, badT]
     rcases Bool.eq_false_or_eq_true (inDg n (gD ds k)) with hd | hd
     rotate_left
     ·simp [hd]
     ·simp only [hd]
      by_cases hk0 : 0 < k
      ·have w2 : w64 ((k : Int) - 1) = ((k - 1 : Nat) : Int) := by rw [w64_id (by omega) (by omega)]; omega
       have c4 : (0 : Int) ≤ ((k - 1 : Nat) : Int) ∧ ((k - 1 : Nat) : Int) < (ds.length : Int) := by omega
       have g1 := gD_some (show k - 1 < ds.length by omega)
       have c5 : (k : Int) > 0 := by omega
       simp only [w2, c4, c5, decide_true, if_true, and_self, Int.toNat_natCast, g1, Option.bind_some, F25_eq, cmpD_ge, hk0]
       cases ltD (gD ds (k - 1)) (gD ds k) <;> simp
       cases (ds.take k).any (crossD (gD ds k)) <;> simp
      ·have c5 : ¬ (k : Int) > 0 := by omega
       simp only [c5, decide_false, hk0, if_false]
       cases (ds.take k).any (crossD (gD ds k)) <;> simp)
    (by simp [F33_L4_step, T.run])
   rw [show ((0 : Nat) : Int) = 0 from rfl] at h
   have he' : ((ds.length : Int) != n - 3) = false := by simp [he]
   simp only [F33_L4, h, he', decide_eq_true he]
   cases (List.range ds.length).any (badT n ds) <;> simp
  ·simp [he]
def F37_sh : FSh := ⟨[(.one (.pf 0 0 0)), (.one (.si .i64))], [(.rcd 0 [(.sl (.int .u8) false true), (.si .i64), (.si .u64)])]⟩
def F37_fo : List FO := [⟨[(.ag [(.si .i64), (.si .i64)])], [(.rcd 0 [(.sl (.int .u8) false true), (.si .i64), (.si .u64)])]⟩]
noncomputable def F37_t : ((Unit × Int) × (List (Int) × Int × Int)) → T ((Int × Int) × (List (Int) × Int × Int)) := fun (((), n), (c_0, c_1, c_2)) =>
 (.test (decide (n < 4))
 (.test true
 (.sub (F46 (((), [(-1), (0 : Int), (1 : Int), (2 : Int)]), (c_0, (c_1, c_2)))) fun z0 =>
 (.test true
 (.sub (F46 (((), [(0 : Int), (1 : Int), (2 : Int), (3 : Int), (4611686018427387904 : Int)]), z0.2)) fun z1 =>
 (.ret ((z0.1, z1.1), z1.2)))
 .fail))
 .fail)
 (.sub (F67 (((), (12 : Int)), (c_0, (c_1, c_2)))) fun z2 =>
 (.test z2.1
 (.test true
 (.sub (F46 (((), [(-1), (0 : Int), (1 : Int), (2 : Int)]), z2.2)) fun z3 =>
 (.test true
 (.sub (F46 (((), [(0 : Int), (1 : Int), (2 : Int), (3 : Int), (4611686018427387904 : Int)]), z3.2)) fun z4 =>
 (.ret ((z3.1, z4.1), z4.2)))
 .fail))
 .fail)
 (.sub (F56 (((), n), z2.2)) fun z5 =>
 (.sub (F56 (((), (w64 (n - 3))), z5.2)) fun z6 =>
 (.test (decide (n ≠ 0))
 (.sub (F80 (z5.1, (Int.tmod (w64 ((w64 (z5.1 + 2)) + z6.1)) n))) fun z7 =>
 (.sub (F88 (z5.1, (Int.tmod (w64 ((w64 (z5.1 + 2)) + z6.1)) n))) fun z8 =>
 (.ret ((z7, z8), z6.2))))
 .fail))))))
noncomputable def F37 (v) := (F37_t v).run
noncomputable def F37_E : TEnv := (((((E0.add1 n_F46 F46_sh F46_fo F46).add1 n_F67 F67_sh F67_fo F67).add1 n_F56 F56_sh F56_fo F56).add1 n_F80 F80_sh F80_fo F80).add1 n_F88 F88_sh F88_fo F88)
theorem F37_Eok : (F37_E).OK := (((((E0ok.add1 F46_ok).add1 F67_ok).add1 F56_ok).add1 F80_ok).add1 F88_ok)
noncomputable def F37_told : Nat → Option SealT := fun id => none
theorem F37_ok : FOK Tryz.prog n_F37 F37_sh F37_fo F37 :=
 fn_ok (E := F37_E) (F37_Eok) (told := F37_told) (fl := []) (c := bodyOf fn_F37) (s := F37_sh) (l := F37_fo) (tree := F37_t) fnat_F37 (by kernel_rfl) (by kernel_rfl) (by kernel_rfl) (loopsOK_of (ls := []) (by kernel_rfl) trivial) (fun v => by kernel_rfl)
theorem diagonal_ok {K : Int} {c : List Int × Int × Int} (n : Int) (hn : 0 ≤ n ∧ n ≤ 12) (h : curOK K c) (hK : K < 100000000) : ∃ d c', F37 (((), n), c) = some (d, c') ∧ curOK (K + 10) c' := by
 obtain ⟨c0, c1, c2⟩ := c
 rw [F37, F37_t, T.run_test]
 by_cases h4 : n < 4
 ·obtain ⟨y, ⟨g0, g1, g2⟩, e5, _, hc5⟩ := among_ok [-1, 0, 1, 2] h (by omega) (by simp)
  obtain ⟨z, g', e6, _, hc6⟩ := among_ok [0, 1, 2, 3, 4611686018427387904] hc5 (by omega) (by simp)
  rw [if_pos (decide_eq_true h4), T.run_test, if_pos rfl, T.run_sub, e5, Option.bind_some, T.run_test, if_pos rfl, T.run_sub, e6, Option.bind_some, T.run_ret]
  exact ⟨_, _, rfl, hc6.mono (by omega)⟩
 ·obtain ⟨b, d, e, hc⟩ := one_ok 12 h (by omega)
  rw [if_neg (by rw [decide_eq_true_eq]; exact h4), T.run_sub, e, Option.bind_some, T.run_test]
  dsimp only
  by_cases hb : b = true
  ·obtain ⟨y, g, e5, _, hc5⟩ := among_ok [-1, 0, 1, 2] hc (by omega) (by simp)
   obtain ⟨z, g', e6, _, hc6⟩ := among_ok [0, 1, 2, 3, 4611686018427387904] hc5 (by omega) (by simp)
   rw [if_pos hb, T.run_test, if_pos rfl, T.run_sub, e5, Option.bind_some, T.run_test, if_pos rfl, T.run_sub, e6, Option.bind_some, T.run_ret]
   exact ⟨_, _, rfl, hc6.mono (by omega)⟩
  ·obtain ⟨u, g, e5, _, _, _, hc5⟩ := pick_ok n hc (by omega)
   obtain ⟨w, g', e6, _, _, _, hc6⟩ := pick_ok (w64 (n - 3)) hc5 (by omega)
   rw [if_neg hb, T.run_sub, e5, Option.bind_some, T.run_sub, e6, Option.bind_some, T.run_test, if_pos (decide_eq_true (by omega)), T.run_sub, least_val, Option.bind_some, T.run_sub, F88_eq, Option.bind_some, T.run_ret]
   exact ⟨_, _, rfl, hc6.mono (by omega)⟩
def F34_sh : FSh := ⟨[(.one (.sl (.int .u8) false true))], []⟩
def F34_fo : List FO := [⟨[(.one (.si .i64)), (.one (.rw 0 0)), (.ag [(.si .i64), (.si .i64)])], [(.row 0 (.pair (.int .i64) (.int .i64)))]⟩]
noncomputable def F34_t : List (Int) → T ((Int × Unit × (Int × Int)) × List ((Int × Int))) := fun code =>
 (.sub (F68 (((), (12 : Int)), (code, ((0 : Int), (0 : Int))))) fun z0 =>
 (.test (decide ((0 + z0.2.2.length) ≤ z0.2.2.length))
 (.sub (F94 (z0.1.1, (win z0.2.2 0 z0.2.2.length))) fun z1 =>
 (.test z1
 (.sub (F67 (((), (4 : Int)), z0.2.1)) fun z2 =>
 (.test (! z2.1)
 (.test (decide ((0 + z0.2.2.length) ≤ z0.2.2.length))
 (.sub (F97 (z0.1.1, (win z0.2.2 0 z0.2.2.length))) fun z3 =>
 (.test (decide ((z3.2.length : Int) > 0))
 (.sub (F56 (((), (z3.2.length : Int)), z2.2)) fun z4 =>
 (.test (decide ((0 ≤ z4.1) ∧ (z4.1 < (z3.2.length : Int))))
 (.sub (z3.2[(0 + (Int.toNat z4.1))]?) fun z5 =>
 (.test (decide ((0 = 0) ∧ (z0.2.2.length = z0.2.2.length)))
 (.ret ((z0.1.1, ((), z5)), z0.2.2))
 .fail))
 .fail))
 (.sub (F80 ((12 : Int), z0.1.1)) fun z6 =>
 (.sub (F88 ((0 : Int), z6)) fun z7 =>
 (.sub (F37 (((), z7), z2.2)) fun z8 =>
 (.test (decide ((0 = 0) ∧ (z0.2.2.length = z0.2.2.length)))
 (.ret ((z0.1.1, ((), z8.1)), z0.2.2))
 .fail))))))
 .fail)
 (.sub (F80 ((12 : Int), z0.1.1)) fun z9 =>
 (.sub (F88 ((0 : Int), z9)) fun z10 =>
 (.sub (F37 (((), z10), z2.2)) fun z11 =>
 (.test (decide ((0 = 0) ∧ (z0.2.2.length = z0.2.2.length)))
 (.ret ((z0.1.1, ((), z11.1)), z0.2.2))
 .fail))))))
 (.sub (F80 ((12 : Int), z0.1.1)) fun z12 =>
 (.sub (F88 ((0 : Int), z12)) fun z13 =>
 (.sub (F37 (((), z13), z0.2.1)) fun z14 =>
 (.test (decide ((0 = 0) ∧ (z0.2.2.length = z0.2.2.length)))
 (.ret ((z0.1.1, ((), z14.1)), z0.2.2))
 .fail))))))
 .fail))
noncomputable def F34 (v) := (F34_t v).run
noncomputable def F34_E : TEnv := ((((((((E0.add1 n_F68 F68_sh F68_fo F68).add1 n_F94 F94_sh F94_fo F94).add1 n_F67 F67_sh F67_fo F67).add1 n_F97 F97_sh F97_fo F97).add1 n_F56 F56_sh F56_fo F56).add1 n_F80 F80_sh F80_fo F80).add1 n_F88 F88_sh F88_fo F88).add1 n_F37 F37_sh F37_fo F37)
theorem F34_Eok : (F34_E).OK := ((((((((E0ok.add1 F68_ok).add1 F94_ok).add1 F67_ok).add1 F97_ok).add1 F56_ok).add1 F80_ok).add1 F88_ok).add1 F37_ok)
noncomputable def F34_told : Nat → Option SealT := fun id => none
theorem F34_ok : FOK Tryz.prog n_F34 F34_sh F34_fo F34 :=
 fn_ok (E := F34_E) (F34_Eok) (told := F34_told) (fl := []) (c := bodyOf fn_F34) (s := F34_sh) (l := F34_fo) (tree := F34_t) fnat_F34 (by kernel_rfl) (by kernel_rfl) (by kernel_rfl) (loopsOK_of (ls := []) (by kernel_rfl) trivial) (fun v => by kernel_rfl)
theorem clamp_val2 (n : Int) : ∃ z, F80 ((12 : Int), n) = some (min 12 n) ∧ F88 ((0 : Int), min 12 n) = some z ∧ 0 ≤ z ∧ z ≤ 12 := by
 refine ⟨mx2 0 (min 12 n), least_val _ _, F88_eq _ _, ?_, ?_⟩
 ·unfold mx2; split <;> omega
 ·unfold mx2; split <;> omega
theorem F34_some {code : List Int} (h : bytesOK code) : ∃ n d ds, F34 code = some ((n, ((), d)), ds) ∧ ds.length ≤ 20 := by
 obtain ⟨n, ds, c', e, hl, hc⟩ := cut_some 12 (by omega) (cur0 h) (by omega)
 obtain ⟨z, l1, l2, z0, z1⟩ := clamp_val2 n
 rw [F34, F34_t, T.run_sub, e, Option.bind_some, T.run_test, if_pos (by simp), T.run_sub]
 dsimp only
 rw [win_all, F94_eq n ds (by omega), Option.bind_some, T.run_test]
 by_cases c : isCut n ds = true
 ·obtain ⟨N, rfl, h3, h12, hlen, _⟩ := isCut_cut c
  obtain ⟨b, d, e2, hc2⟩ := one_ok 4 hc (by omega)
  rw [if_pos c, T.run_sub, e2, Option.bind_some, T.run_test]
  dsimp only
  by_cases hb : (!b) = true
  ·rw [if_pos hb, T.run_test, if_pos (by simp), T.run_sub, F97_eq N ⟨h3, h12⟩ ds (by omega), Option.bind_some, T.run_test]
   dsimp only
   by_cases hf : ((freeL N ds).length : Int) > 0
   ·obtain ⟨x, f, e4, x0, x1, _, hc4⟩ := pick_ok ((freeL N ds).length : Int) hc2 (by omega)
    have x1 := x1 (by omega)
    have hlt : 0 + x.toNat < (freeL N ds).length := by omega
    rw [if_pos (decide_eq_true hf), T.run_sub, e4, Option.bind_some, T.run_test, if_pos (decide_eq_true ⟨x0, x1⟩), T.run_sub, List.getElem?_eq_getElem hlt, Option.bind_some, T.run_test, if_pos (by simp), T.run_ret]
    exact ⟨_, _, _, rfl, hl⟩
   ·obtain ⟨d', c3, e5, hc5⟩ := diagonal_ok z ⟨z0, z1⟩ hc2 (by omega)
    rw [if_neg (by rw [decide_eq_true_eq]; exact hf), T.run_sub, l1, Option.bind_some, T.run_sub, l2, Option.bind_some, T.run_sub, e5, Option.bind_some, T.run_test, if_pos (by simp), T.run_ret]
    exact ⟨_, _, _, rfl, hl⟩
  ·obtain ⟨d', c3, e5, hc5⟩ := diagonal_ok z ⟨z0, z1⟩ hc2 (by omega)
   rw [if_neg hb, T.run_sub, l1, Option.bind_some, T.run_sub, l2, Option.bind_some, T.run_sub, e5, Option.bind_some, T.run_test, if_pos (by simp), T.run_ret]
   exact ⟨_, _, _, rfl, hl⟩
 ·obtain ⟨d', c3, e5, hc5⟩ := diagonal_ok z ⟨z0, z1⟩ hc (by omega)
  rw [if_neg c, T.run_sub, l1, Option.bind_some, T.run_sub, l2, Option.bind_some, T.run_sub, e5, Option.bind_some, T.run_test, if_pos (by simp), T.run_ret]
  exact ⟨_, _, _, rfl, hl⟩
def F52_sh : FSh := ⟨[(.one (.si .i64)), (.one (.sl (.pair (.int .i64) (.int .i64)) false false)), (.ag [(.si .i64), (.si .i64)])], []⟩
def F52_fo : List FO := [⟨[(.one (.rw 0 0)), (.one .sb)], [(.row 0 (.pair (.int .i64) (.int .i64)))]⟩]
noncomputable def F52_t : (Int × List ((Int × Int)) × (Int × Int)) → T ((Unit × Bool) × List ((Int × Int))) := fun (n, ds, (d_0, d_1)) =>
 (.sub (F106 (n, ds)) fun z0 =>
 (.test (! z0)
 (.test true
 (.ret (((), false), ([] : List (Int × Int))))
 .fail)
 (.sub (F111 (ds, (d_0, d_1))) fun z1 =>
 (.test (decide ((0 + z1.2.length) ≤ z1.2.length))
 (.sub (F106 (n, (win z1.2 0 z1.2.length))) fun z2 =>
 (.test (! z2)
 (.test true
 (.ret (((), false), ([] : List (Int × Int))))
 .fail)
 (.sub (F111 (ds, (d_0, d_1))) fun z3 =>
 (.test (decide ((0 = 0) ∧ (z3.2.length = z3.2.length)))
 (.ret (((), true), z3.2))
 .fail))))
 .fail))))
noncomputable def F52 (v) := (F52_t v).run
noncomputable def F52_E : TEnv := ((E0.add1 n_F106 F106_sh F106_fo F106).add1 n_F111 F111_sh F111_fo F111)
theorem F52_Eok : (F52_E).OK := ((E0ok.add1 F106_ok).add1 F111_ok)
noncomputable def F52_told : Nat → Option SealT := fun id => none
theorem F52_ok : FOK Tryz.prog n_F52 F52_sh F52_fo F52 :=
 fn_ok (E := F52_E) (F52_Eok) (told := F52_told) (fl := []) (c := bodyOf fn_F52) (s := F52_sh) (l := F52_fo) (tree := F52_t) fnat_F52 (by kernel_rfl) (by kernel_rfl) (by kernel_rfl) (loopsOK_of (ls := []) (by kernel_rfl) trivial) (fun v => by kernel_rfl)
def adR (n : Int) (ds : List Dg) (d : Dg) : (Unit × Bool) × List Dg := if isCut n ds = true ∧ d ∈ freeL n.toNat ds then (((), true), sortD (ds ++ [d])) else (((), false), [])
theorem F52_eq (n : Int) (ds : List Dg) (d : Dg) (hl : ds.length < 4611686018427387904) : F52 (n, (ds, d)) = some (adR n ds d) := by
 obtain ⟨a, b⟩ := d
 unfold adR
 rw [F52, F52_t, T.run_sub, F106_eq n ds hl, Option.bind_some, T.run_test]
 by_cases c : isCut n ds = true
 ·obtain ⟨N, rfl, h3, h12, hlen, _⟩ := isCut_cut c
  have hm := more_iff c (a, b)
  have hsl : (sortD (ds ++ [(a, b)])).length < 4611686018427387904 := by rw [sortD_length, List.length_append, List.length_singleton]; omega
  rw [c, if_neg (by decide), T.run_sub, F111_eq ds (a, b) (by omega), Option.bind_some, T.run_test, if_pos (by simp), T.run_sub]
  dsimp only
  rw [win_all, F106_eq _ _ hsl, hm, Option.bind_some, T.run_test, Int.toNat_natCast]
  by_cases hf : (a, b) ∈ freeL N ds
  ·rw [if_neg (by rw [decide_eq_true hf]; decide), T.run_sub, Option.bind_some, T.run_test, if_pos (by simp), T.run_ret, if_pos ⟨rfl, hf⟩]
  ·rw [if_pos (by rw [decide_eq_false hf]; rfl), T.run_test, if_pos (by rfl), T.run_ret, if_neg fun h => hf h.2]
 ·rw [if_pos (by simp at c ⊢; exact c), T.run_test, if_pos (by rfl), T.run_ret, if_neg fun h => c h.1]
def F53_sh : FSh := ⟨[(.one (.si .i64)), (.one (.sl (.pair (.int .i64) (.int .i64)) false false)), (.ag [(.si .i64), (.si .i64)])], []⟩
def F53_fo : List FO := [⟨[(.one (.rw 0 0)), (.one .sb)], [(.row 0 (.pair (.int .i64) (.int .i64)))]⟩]
noncomputable def F53_t : (Int × List ((Int × Int)) × (Int × Int)) → T ((Unit × Bool) × List ((Int × Int))) := fun (n, ds, (d_0, d_1)) =>
 (.sub (F94 (n, ds)) fun z0 =>
 (.test (! z0)
 (.test true
 (.ret (((), false), ([] : List (Int × Int))))
 .fail)
 (.sub (F57 (n, (d_0, d_1))) fun z1 =>
 (.test (! z1)
 (.test true
 (.ret (((), false), ([] : List (Int × Int))))
 .fail)
 (.sub (F97 (n, ds)) fun z2 =>
 (.test (decide ((0 + z2.2.length) ≤ z2.2.length))
 (.sub (F124 ((win z2.2 0 z2.2.length), (d_0, d_1))) fun z3 =>
 (.test (! z3)
 (.test true
 (.ret (((), false), ([] : List (Int × Int))))
 .fail)
 (.test true
 (.test (decide ((2 * ((0 + ds.length) * 17)) ≤ 140737488355328))
 (.test (decide (1 ≤ 1))
 (.test (decide ((0 + (0 + ds.length)) ≤ (List.length (([] : List (Int × Int)) ++ ds))))
 (.test (decide ((2 * (((0 + ds.length) + 1) * 17)) ≤ 140737488355328))
 (.test (decide ((0 + ((0 + ds.length) + 1)) ≤ (List.length ((win (([] : List (Int × Int)) ++ ds) 0 (0 + ds.length)) ++ [(d_0, d_1)]))))
 (.sub (F72 (win ((win (([] : List (Int × Int)) ++ ds) 0 (0 + ds.length)) ++ [(d_0, d_1)]) 0 ((0 + ds.length) + 1))) fun z4 =>
 (.test (decide ((0 = 0) ∧ (z4.2.length = z4.2.length)))
 (.ret (((), true), z4.2))
 .fail))
 .fail)
 .fail)
 .fail)
 .fail)
 .fail)
 .fail)))
 .fail))))))
noncomputable def F53 (v) := (F53_t v).run
noncomputable def F53_E : TEnv := (((((E0.add1 n_F94 F94_sh F94_fo F94).add1 n_F57 F57_sh F57_fo F57).add1 n_F97 F97_sh F97_fo F97).add1 n_F124 F124_sh F124_fo F124).add1 n_F72 F72_sh F72_fo F72)
theorem F53_Eok : (F53_E).OK := (((((E0ok.add1 F94_ok).add1 F57_ok).add1 F97_ok).add1 F124_ok).add1 F72_ok)
noncomputable def F53_told : Nat → Option SealT := fun id => none
theorem F53_ok : FOK Tryz.prog n_F53 F53_sh F53_fo F53 :=
 fn_ok (E := F53_E) (F53_Eok) (told := F53_told) (fl := []) (c := bodyOf fn_F53) (s := F53_sh) (l := F53_fo) (tree := F53_t) fnat_F53 (by kernel_rfl) (by kernel_rfl) (by kernel_rfl) (loopsOK_of (ls := []) (by kernel_rfl) trivial) (fun v => by kernel_rfl)
theorem F53_eq (n : Int) (ds : List Dg) (d : Dg) (hl : ds.length < 4611686018427387904) : F53 (n, (ds, d)) = some (adR n ds d) := by
 obtain ⟨a, b⟩ := d
 unfold adR
 rw [F53, F53_t, T.run_sub, F94_eq n ds hl, Option.bind_some, T.run_test]
 by_cases c : isCut n ds = true
 ·obtain ⟨N, rfl, h3, h12, hlen, _⟩ := isCut_cut c
  have hfl := freeL_len N ds h12
  rw [c, if_neg (by decide), T.run_sub, F57_eq (N : Int) (a, b) (by omega) (by omega), Option.bind_some, T.run_test, Int.toNat_natCast]
  cases hg : inDg N (a, b) with
  | false => rw [if_pos (by rfl), T.run_test, if_pos (by rfl), T.run_ret, if_neg fun h => by have := (free_notin h.2).2; rw [hg] at this; cases this]
  | true =>
   rw [if_neg (by decide), T.run_sub, F97_eq N ⟨h3, h12⟩ ds hl, Option.bind_some, T.run_test, if_pos (by simp), T.run_sub]
   dsimp only
   rw [win_all, F124_eq _ _ (by omega), Option.bind_some, T.run_test]
   by_cases hf : (a, b) ∈ freeL N ds
   ·rw [if_neg (by rw [decide_eq_true hf]; decide), T.run_test, if_pos (by rfl), T.run_test, if_pos (decide_eq_true (by omega)), T.run_test, if_pos (by rfl), T.run_test, if_pos (by simp), T.run_test, if_pos (decide_eq_true (by omega)), T.run_test]
    have e : win (win ([] ++ ds) 0 (0 + ds.length) ++ [(a, b)]) 0 (0 + ds.length + 1) = ds ++ [(a, b)] := by
     rw [List.nil_append, Nat.zero_add, win_all]
     have := win_all (ds ++ [(a, b)])
     rwa [List.length_append, List.length_singleton] at this
    rw [if_pos (by simp [win_all]), T.run_sub, e, F72_eq _ (by rw [List.length_append, List.length_singleton]; omega), Option.bind_some, T.run_test, if_pos (by simp), T.run_ret, if_pos ⟨rfl, hf⟩]
   ·rw [if_pos (by rw [decide_eq_false hf]; rfl), T.run_test, if_pos (by rfl), T.run_ret, if_neg fun h => hf h.2]
 ·rw [if_pos (by simp at c ⊢; exact c), T.run_test, if_pos (by rfl), T.run_ret, if_neg fun h => c h.1]
def F54_sh : FSh := ⟨[(.one (.sl (.int .u8) false true))], []⟩
def F54_fo : List FO := [⟨[(.one (.si .i64)), (.one (.rw 0 0)), (.one (.si .i64))], [(.row 0 (.pair (.int .i64) (.int .i64)))]⟩]
noncomputable def F54_t : List (Int) → T ((Int × Unit × Int) × List ((Int × Int))) := fun code =>
 (.sub (F68 (((), (12 : Int)), (code, ((0 : Int), (0 : Int))))) fun z0 =>
 (.sub (F56 (((), (9 : Int)), z0.2.1)) fun z1 =>
 (.sub (F56 (((), (9 : Int)), z1.2)) fun z2 =>
 (.test true
 (.test (decide ((0 = 0) ∧ (z0.2.2.length = z0.2.2.length)))
 (.ret ((z0.1.1, ((), (w64 (z1.1 - (w64 (Int.tdiv z2.1 (8 : Int))))))), z0.2.2))
 .fail)
 .fail))))
noncomputable def F54 (v) := (F54_t v).run
noncomputable def F54_E : TEnv := ((E0.add1 n_F68 F68_sh F68_fo F68).add1 n_F56 F56_sh F56_fo F56)
theorem F54_Eok : (F54_E).OK := ((E0ok.add1 F68_ok).add1 F56_ok)
noncomputable def F54_told : Nat → Option SealT := fun id => none
theorem F54_ok : FOK Tryz.prog n_F54 F54_sh F54_fo F54 :=
 fn_ok (E := F54_E) (F54_Eok) (told := F54_told) (fl := []) (c := bodyOf fn_F54) (s := F54_sh) (l := F54_fo) (tree := F54_t) fnat_F54 (by kernel_rfl) (by kernel_rfl) (by kernel_rfl) (loopsOK_of (ls := []) (by kernel_rfl) trivial) (fun v => by kernel_rfl)
theorem F54_some {code : List Int} (h : bytesOK code) : ∃ n k ds, F54 code = some ((n, ((), k)), ds) ∧ ds.length ≤ 20 := by
 obtain ⟨n, ds, c', e, hl, hc⟩ := cut_some 12 (by omega) (cur0 h) (by omega)
 obtain ⟨x, f, e4, x0, x1, _, hc4⟩ := pick_ok 9 hc (by omega)
 obtain ⟨y, g, e5, y0, y1, _, hc5⟩ := pick_ok 9 hc4 (by omega)
 rw [F54, F54_t, T.run_sub, e, Option.bind_some, T.run_sub, e4, Option.bind_some, T.run_sub, e5, Option.bind_some, T.run_test, if_pos (by rfl), T.run_test, if_pos (by simp), T.run_ret]
 exact ⟨_, _, _, rfl, hl⟩
def F79_sh : FSh := ⟨[(.one (.si .i64)), (.one (.pf 0 0 0)), (.one (.pf 1 0 0))], [(.rcd 0 [(.si .i64)]), (.rcd 0 [(.si .i64)])]⟩
def F79_fo : List FO := [⟨[(.one (.si .i64))], [(.rcd 0 [(.si .i64)]), (.rcd 0 [(.si .i64)])]⟩]
noncomputable def F79_t : ((Int × Unit × Unit) × (Int × Int)) → T (Int × (Int × Int)) := fun ((i, (), ()), (t1_0, t2_0)) =>
 (.test (decide (t2_0 ≠ 0))
 (.ret ((Int.tmod (w64 (i + t1_0)) t2_0), (t1_0, t2_0)))
 .fail)
noncomputable def F79 (v) := (F79_t v).run
noncomputable def F79_E : TEnv := E0
theorem F79_Eok : (F79_E).OK := E0ok
noncomputable def F79_told : Nat → Option SealT := fun id => none
theorem F79_ok : FOK Tryz.prog n_F79 F79_sh F79_fo F79 :=
 fn_ok (E := F79_E) (F79_Eok) (told := F79_told) (fl := []) (c := bodyOf fn_F79) (s := F79_sh) (l := F79_fo) (tree := F79_t) fnat_F79 (by kernel_rfl) (by kernel_rfl) (by kernel_rfl) (loopsOK_of (ls := []) (by kernel_rfl) trivial) (fun v => by kernel_rfl)
theorem rot_mod {n k v : Int} (hn : 3 ≤ n ∧ n ≤ 12) (hk : 0 ≤ k ∧ k < n) (hv : 0 ≤ v ∧ v < n) : Int.tmod (w64 (v + k)) n = rotV n k v := by
 rw [w64_id (by omega) (by omega)]
 unfold rotV
 split
 ·exact Int.tmod_eq_of_lt (by omega) (by omega)
 ·rw [show v + k = (v + k - n) + n by omega, Int.tmod_eq_emod_of_nonneg (by omega), Int.add_emod_right]
  rw [Int.emod_eq_of_lt (by omega) (by omega)]
  omega
theorem F79_eq {n k v : Int} (hn : 3 ≤ n ∧ n ≤ 12) (hk : 0 ≤ k ∧ k < n) (hv : 0 ≤ v ∧ v < n) : F79 ((v, ((), ())), (k, n)) = some (rotV n k v, (k, n)) := by
 rw [F79, F79_t, T.run_test, if_pos (decide_eq_true (by omega)), T.run_ret, rot_mod hn hk hv]
def F21_sh : FSh := ⟨[(.one (.sl (.pair (.int .i64) (.int .i64)) false false)), (.clo n_F79 [(.one (.pf 0 0 0)), (.one (.pf 1 0 0))])], [(.rcd 0 [(.si .i64)]), (.rcd 0 [(.si .i64)])]⟩
def F21_L3_sh : LSh := ⟨(fun ex => match ex with | .norm => [(1, none), (5, none), (11, none), (12, none), (13, none)] | .exit i => if i = 0 then [(5, none)] else [] | .ret => [(4, none)]), [(1, (.clo n_F79 [(.one (.pf 0 0 0)), (.one (.pf 1 0 0))])), (5, (.one (.rw 2 0))), (11, (.one (.sl (.pair (.int .i64) (.int .i64)) false false))), (12, (.one (.si .i64))), (13, (.one (.si .i64)))], [(.rcd 0 [(.si .i64)]), (.rcd 0 [(.si .i64)]), (.row 0 (.pair (.int .i64) (.int .i64)))], [⟨(.exit 0), [(5, (.one (.rw 2 0)))], [(.rcd 0 [(.si .i64)]), (.rcd 0 [(.si .i64)]), (.row 0 (.pair (.int .i64) (.int .i64)))]⟩], [], []⟩
noncomputable def F21_L3_step : (((Unit × Unit) × Unit × List ((Int × Int)) × Int × Int) × (Int × Int × List ((Int × Int)))) → T ((((Unit × Unit) × Unit × List ((Int × Int)) × Int × Int) × (Int × Int × List ((Int × Int)))) ⊕ (Unit × (Int × Int × List ((Int × Int))))) := fun ((((), ()), (), t11, t12, t13), (r0_0, r1_0, out)) =>
 (.test (decide (t13 < t12))
 (.test (decide ((0 ≤ t13) ∧ (t13 < (t11.length : Int))))
 (.sub (t11[(Int.toNat t13)]?) fun z0 =>
 (.sub (F79 ((z0.1, ((), ())), (r0_0, r1_0))) fun z1 =>
 (.sub (F79 ((z0.2, ((), ())), z1.2)) fun z2 =>
 (.test (decide (1 ≤ 1))
 (.test (decide ((0 + out.length) ≤ out.length))
 (.test (decide ((2 * ((out.length + 1) * 17)) ≤ 140737488355328))
 (.test (decide ((0 = 0) ∧ ((out.length + 1) = (List.length ((win out 0 out.length) ++ [((if (z2.1 < z1.1) then z2.1 else z1.1), (if (z2.1 > z1.1) then z2.1 else z1.1))])))))
 (.ret (Sum.inl ((((), ()), ((), (t11, (t12, (w64 (t13 + 1)))))), (z2.2.1, (z2.2.2, ((win out 0 out.length) ++ [((if (z2.1 < z1.1) then z2.1 else z1.1), (if (z2.1 > z1.1) then z2.1 else z1.1))]))))))
 .fail)
 .fail)
 .fail)
 .fail))))
 .fail)
 (.test (decide ((0 = 0) ∧ (out.length = out.length)))
 (.ret (Sum.inr ((), (r0_0, (r1_0, out)))))
 .fail))
noncomputable def F21_L3 (v) := loopO (fun v => (F21_L3_step v).run) v
def F21_fo : List FO := [⟨[(.one (.rw 2 0))], [(.rcd 0 [(.si .i64)]), (.rcd 0 [(.si .i64)]), (.row 0 (.pair (.int .i64) (.int .i64)))]⟩]
noncomputable def F21_t : ((List ((Int × Int)) × (Unit × Unit)) × (Int × Int)) → T (Unit × (Int × Int × List ((Int × Int)))) := fun ((ds, ((), ())), (r0_0, r1_0)) =>
 (.test (decide ((0 = 0) ∧ (0 = 0)))
 (.sub (F21_L3 ((((), ()), ((), (ds, ((ds.length : Int), (0 : Int))))), (r0_0, (r1_0, ([] : List (Int × Int)))))) fun z0 =>
 (.test (decide ((0 = 0) ∧ (z0.2.2.2.length = z0.2.2.2.length)))
 (.sub (F6 (((), ()), z0.2.2.2)) fun z1 =>
 (.test (decide ((0 = 0) ∧ (z0.2.2.2.length = z1.2.length)))
 (.ret ((), (z0.2.1, (z0.2.2.1, z1.2))))
 .fail))
 .fail))
 .fail)
noncomputable def F21 (v) := (F21_t v).run
noncomputable def F21_E : TEnv := ((E0.add1 n_F79 F79_sh F79_fo F79).add1 n_F18 F6_sh F6_fo F6)
theorem F21_Eok : (F21_E).OK := ((E0ok.add1 F79_ok).add1 F6_ok)
noncomputable def F21_told : Nat → Option SealT := fun id => if id = 3 then some (LSh.told F21_L3_sh 2 (F21_L3_step)) else none
theorem F21_L3_ok : ToldOK Tryz.prog 2 (loopAt (bodyOf fn_F87) [0]) (LSh.told F21_L3_sh 2 (F21_L3_step)) :=
 loop_ok (E := F21_E) (F21_Eok) (told := F21_told) (l := F21_L3_sh) (step := F21_L3_step) (loopsOK_of (ls := []) (by kernel_rfl) trivial) (by kernel_rfl) (fun v => by kernel_rfl)
theorem F21_ok : FOK Tryz.prog n_F87 F21_sh F21_fo F21 :=
 fn_ok (E := F21_E) (F21_Eok) (told := F21_told) (fl := []) (c := bodyOf fn_F87) (s := F21_sh) (l := F21_fo) (tree := F21_t) fnat_F87 (by kernel_rfl) (by kernel_rfl) (by kernel_rfl) (loopsOK_of (ls := [loopAt (bodyOf fn_F87) [0]]) (by kernel_rfl) ⟨.inr ⟨_, by kernel_rfl, F21_L3_ok⟩, trivial⟩) (fun v => by kernel_rfl)
theorem map_idx2 {X Y : Type} (f : X → Y) (g : Nat → X) (l : List X) (hg : ∀ k, k < l.length → l[k]? = some (g k)) : (List.range' 0 l.length).flatMap (fun k => [f (g k)]) = l.map f := by
 have hl : l = (List.range' 0 l.length).map g := by
  apply List.ext_getElem?
  intro k
  by_cases h : k < l.length
  ·rw [hg k h, List.getElem?_map, List.getElem?_range' h]; simp
  ·rw [List.getElem?_eq_none (by omega), List.getElem?_eq_none (by simp; omega)]
 conv => rhs; rw [hl, List.map_map]
 generalize List.range' 0 l.length = R
 induction R with
 | nil => rfl
 | cons a t ih => rw [List.flatMap_cons, List.map_cons, ih]; rfl
theorem gD_some2 {ds : List Dg} {k : Nat} (hk : k < ds.length) : ds[k]? = some (gD ds k) := by
 rw [gD_eq hk, List.getElem?_eq_getElem hk]
theorem F87_turned {n k : Int} (hn : 3 ≤ n ∧ n ≤ 12) (hk : 0 ≤ k ∧ k < n) (ds : List Dg) (hl : ds.length ≤ 12) (hb : ∀ d ∈ ds, 0 ≤ d.1 ∧ d.1 < d.2 ∧ d.2 < n) :
  F21 ((ds, ((), ())), (k, n)) = some ((), (k, (n, sortD (ds.map (turnD n k))))) := by
 have hL := app_loop (step := fun v => (F21_L3_step v).run) (fun j o => ((((), ()), ((), (ds, ((ds.length : Int), (j : Int))))), (k, (n, o)))) (fun j => [turnD n k (gD ds j)]) (fun o => ((), (k, (n, o)))) ds.length 1 0 0
  (fun j => by simp)
  (fun o j hj => by rw [F21_L3_step, T.run_test, if_neg (by simp; omega), T.run_test, if_pos (by simp), T.run_ret])
  (fun j o _ hj ho => by
   have v2 : w64 ((j : Int) + 1) = ((j + 1 : Nat) : Int) := by rw [w64_id (by omega) (by omega)]; omega
   have hd := hb (gD ds j) (List.mem_of_getElem? (gD_some2 hj))
   rw [F21_L3_step, T.run_test, if_pos (decide_eq_true (by omega)), T.run_test, if_pos (decide_eq_true (by omega)), T.run_sub, Int.toNat_natCast, gD_some2 hj, Option.bind_some, T.run_sub, F79_eq hn hk (by omega), Option.bind_some, T.run_sub, F79_eq hn hk (by omega), Option.bind_some, T.run_test, if_pos (by rfl), T.run_test, if_pos (by simp), T.run_test, if_pos (decide_eq_true (by omega)), T.run_test, if_pos (by simp [win_all]), T.run_ret, v2]
   simp only [win_all]
   congr 7
   unfold turnD
   repeat' split
   all_goals exact Prod.ext (by dsimp only <;> omega) (by dsimp only <;> omega))
  ds.length 0 [] (Nat.le_refl 0) rfl (by simp)
 rw [List.nil_append, map_idx2 (turnD n k) (gD ds) ds (fun j hj => gD_some2 hj)] at hL
 have hL' : F21_L3 ((((), ()), ((), (ds, ((ds.length : Int), (0 : Int))))), (k, (n, ([] : List (Int × Int))))) = _ := hL
 rw [F21, F21_t, T.run_test, if_pos (by simp), T.run_sub, hL', Option.bind_some, T.run_test, if_pos (by simp), T.run_sub, F6_eq _ (by rw [List.length_map]; exact hl), Option.bind_some, T.run_test, if_pos (by simp [sortD_length]), T.run_ret]
def F99_sh : FSh := ⟨[(.one (.si .i64)), (.one (.sl (.pair (.int .i64) (.int .i64)) false false)), (.one (.si .i64))], []⟩
def F99_fo : List FO := [⟨[(.one (.rw 0 0))], [(.row 0 (.pair (.int .i64) (.int .i64)))]⟩]
noncomputable def F99_t : (Int × List ((Int × Int)) × Int) → T (Unit × List ((Int × Int))) := fun (n, ds, k) =>
 (.sub (F21 ((ds, ((), ())), (k, n))) fun z0 =>
 (.test (decide ((0 = 0) ∧ (z0.2.2.2.length = z0.2.2.2.length)))
 (.ret ((), z0.2.2.2))
 .fail))
noncomputable def F99 (v) := (F99_t v).run
noncomputable def F99_E : TEnv := (E0.add1 n_F87 F21_sh F21_fo F21)
theorem F99_Eok : (F99_E).OK := (E0ok.add1 F21_ok)
noncomputable def F99_told : Nat → Option SealT := fun id => none
theorem F99_ok : FOK Tryz.prog n_F99 F99_sh F99_fo F99 :=
 fn_ok (E := F99_E) (F99_Eok) (told := F99_told) (fl := []) (c := bodyOf fn_F99) (s := F99_sh) (l := F99_fo) (tree := F99_t) fnat_F99 (by kernel_rfl) (by kernel_rfl) (by kernel_rfl) (loopsOK_of (ls := []) (by kernel_rfl) trivial) (fun v => by kernel_rfl)
theorem F99_eq {n k : Int} (hn : 3 ≤ n ∧ n ≤ 12) (hk : 0 ≤ k ∧ k < n) (ds : List Dg) (hl : ds.length ≤ 12) (hb : ∀ d ∈ ds, 0 ≤ d.1 ∧ d.1 < d.2 ∧ d.2 < n) : F99 (n, (ds, k)) = some ((), sortD (ds.map (turnD n k))) := by
 rw [F99, F99_t, T.run_sub, F87_turned hn hk ds hl hb, Option.bind_some, T.run_test, if_pos (by simp), T.run_ret]
def F85_sh : FSh := ⟨[(.one (.si .i64)), (.one (.sl (.pair (.int .i64) (.int .i64)) false false)), (.one (.si .i64))], []⟩
def F85_fo : List FO := [⟨[(.one (.rw 0 0)), (.one .sb)], [(.row 0 (.pair (.int .i64) (.int .i64)))]⟩]
noncomputable def F85_t : (Int × List ((Int × Int)) × Int) → T ((Unit × Bool) × List ((Int × Int))) := fun (n, ds, k) =>
 (.sub (F106 (n, ds)) fun z0 =>
 (.test (! z0)
 (.test true
 (.ret (((), false), ([] : List (Int × Int))))
 .fail)
 (.sub (F92 (k, ((0 : Int), (w64 (n - 1))))) fun z1 =>
 (.test (! z1)
 (.test true
 (.ret (((), false), ([] : List (Int × Int))))
 .fail)
 (.sub (F99 (n, (ds, k))) fun z2 =>
 (.test (decide ((0 = 0) ∧ (z2.2.length = z2.2.length)))
 (.ret (((), true), z2.2))
 .fail))))))
noncomputable def F85 (v) := (F85_t v).run
noncomputable def F85_E : TEnv := (((E0.add1 n_F106 F106_sh F106_fo F106).add1 n_F92 F92_sh F92_fo F92).add1 n_F99 F99_sh F99_fo F99)
theorem F85_Eok : (F85_E).OK := (((E0ok.add1 F106_ok).add1 F92_ok).add1 F99_ok)
noncomputable def F85_told : Nat → Option SealT := fun id => none
theorem F85_ok : FOK Tryz.prog n_F85 F85_sh F85_fo F85 :=
 fn_ok (E := F85_E) (F85_Eok) (told := F85_told) (fl := []) (c := bodyOf fn_F85) (s := F85_sh) (l := F85_fo) (tree := F85_t) fnat_F85 (by kernel_rfl) (by kernel_rfl) (by kernel_rfl) (loopsOK_of (ls := []) (by kernel_rfl) trivial) (fun v => by kernel_rfl)
def tuR (n : Int) (ds : List Dg) (k : Int) : (Unit × Bool) × List Dg := if isCut n ds = true ∧ inB 0 (n - 1) k = true then (((), true), sortD (ds.map (turnD n k))) else (((), false), [])
theorem F85_eq (n : Int) (ds : List Dg) (k : Int) (hl : ds.length < 4611686018427387904) : F85 (n, (ds, k)) = some (tuR n ds k) := by
 unfold tuR
 rw [F85, F85_t, T.run_sub, F106_eq n ds hl, Option.bind_some, T.run_test]
 by_cases c : isCut n ds = true
 ·obtain ⟨N, rfl, h3, h12, hlen, hc⟩ := isCut_cut c
  have w0 : w64 ((N : Int) - 1) = (N : Int) - 1 := w64_id (by omega) (by omega)
  rw [c, if_neg (by decide), T.run_sub, F92_eq, w0, Option.bind_some, T.run_test]
  cases hk : inB 0 ((N : Int) - 1) k with
  | false => rw [if_pos (by rfl), T.run_test, if_pos (by rfl), T.run_ret, if_neg (by simp)]
  | true =>
   have hk' := inB_iff.1 hk
   rw [if_neg (by decide), T.run_sub, F99_eq ⟨by omega, by omega⟩ ⟨by omega, by omega⟩ ds (by omega) (cut_rng hc), Option.bind_some, T.run_test, if_pos (by simp), T.run_ret, if_pos ⟨rfl, rfl⟩]
 ·rw [if_pos (by simp at c ⊢; exact c), T.run_test, if_pos (by rfl), T.run_ret, if_neg fun h => c h.1]
def F116_sh : FSh := ⟨[(.one (.sl (.pair (.int .i64) (.int .i64)) false false)), (.one (.sl (.int .i64) false false))], []⟩
def F116_L3_sh : LSh := ⟨(fun ex => match ex with | .norm => [(1, none), (5, none), (10, none), (11, none), (12, none)] | .exit i => if i = 0 then [(5, none)] else [] | .ret => [(4, none)]), [(1, (.one (.sl (.int .i64) false false))), (5, (.one (.rw 0 0))), (10, (.one (.sl (.pair (.int .i64) (.int .i64)) false false))), (11, (.one (.si .i64))), (12, (.one (.si .i64)))], [(.row 0 (.pair (.int .i64) (.int .i64)))], [⟨(.exit 0), [(5, (.one (.rw 0 0)))], [(.row 0 (.pair (.int .i64) (.int .i64)))]⟩], [], []⟩
noncomputable def F116_L3_step : ((List (Int) × Unit × List ((Int × Int)) × Int × Int) × List ((Int × Int))) → T (((List (Int) × Unit × List ((Int × Int)) × Int × Int) × List ((Int × Int))) ⊕ (Unit × List ((Int × Int)))) := fun ((to', (), t10, t11, t12), out) =>
 (.test (decide (t12 < t11))
 (.test (decide ((0 ≤ t12) ∧ (t12 < (t10.length : Int))))
 (.sub (t10[(Int.toNat t12)]?) fun z0 =>
 (.test (decide ((0 ≤ z0.1) ∧ (z0.1 < (to'.length : Int))))
 (.sub (to'[(Int.toNat z0.1)]?) fun z1 =>
 (.test (decide ((0 ≤ z0.2) ∧ (z0.2 < (to'.length : Int))))
 (.sub (to'[(Int.toNat z0.2)]?) fun z2 =>
 (.sub (F80 (z1, z2)) fun z3 =>
 (.sub (F88 (z1, z2)) fun z4 =>
 (.test (decide (1 ≤ 1))
 (.test (decide ((0 + out.length) ≤ out.length))
 (.test (decide ((2 * ((out.length + 1) * 17)) ≤ 140737488355328))
 (.test (decide ((0 = 0) ∧ ((out.length + 1) = (List.length ((win out 0 out.length) ++ [(z3, z4)])))))
 (.ret (Sum.inl ((to', ((), (t10, (t11, (w64 (t12 + 1)))))), ((win out 0 out.length) ++ [(z3, z4)]))))
 .fail)
 .fail)
 .fail)
 .fail))))
 .fail))
 .fail))
 .fail)
 (.test (decide ((0 = 0) ∧ (out.length = out.length)))
 (.ret (Sum.inr ((), out)))
 .fail))
noncomputable def F116_L3 (v) := loopO (fun v => (F116_L3_step v).run) v
def F116_fo : List FO := [⟨[(.one (.rw 0 0))], [(.row 0 (.pair (.int .i64) (.int .i64)))]⟩]
noncomputable def F116_t : (List ((Int × Int)) × List (Int)) → T (Unit × List ((Int × Int))) := fun (ds, to') =>
 (.test true
 (.sub (F116_L3 ((to', ((), (ds, ((ds.length : Int), (0 : Int))))), ([] : List (Int × Int)))) fun z0 =>
 (.test (decide ((0 + z0.2.length) ≤ z0.2.length))
 (.sub (F72 (win z0.2 0 z0.2.length)) fun z1 =>
 (.test (decide ((0 = 0) ∧ (z1.2.length = z1.2.length)))
 (.ret ((), z1.2))
 .fail))
 .fail))
 .fail)
noncomputable def F116 (v) := (F116_t v).run
noncomputable def F116_E : TEnv := (((E0.add1 n_F80 F80_sh F80_fo F80).add1 n_F88 F88_sh F88_fo F88).add1 n_F72 F72_sh F72_fo F72)
theorem F116_Eok : (F116_E).OK := (((E0ok.add1 F80_ok).add1 F88_ok).add1 F72_ok)
noncomputable def F116_told : Nat → Option SealT := fun id => if id = 3 then some (LSh.told F116_L3_sh 0 (F116_L3_step)) else none
theorem F116_L3_ok : ToldOK Tryz.prog 0 (loopAt (bodyOf fn_F116) [0]) (LSh.told F116_L3_sh 0 (F116_L3_step)) :=
 loop_ok (E := F116_E) (F116_Eok) (told := F116_told) (l := F116_L3_sh) (step := F116_L3_step) (loopsOK_of (ls := []) (by kernel_rfl) trivial) (by kernel_rfl) (fun v => by kernel_rfl)
theorem F116_ok : FOK Tryz.prog n_F116 F116_sh F116_fo F116 :=
 fn_ok (E := F116_E) (F116_Eok) (told := F116_told) (fl := []) (c := bodyOf fn_F116) (s := F116_sh) (l := F116_fo) (tree := F116_t) fnat_F116 (by kernel_rfl) (by kernel_rfl) (by kernel_rfl) (loopsOK_of (ls := [loopAt (bodyOf fn_F116) [0]]) (by kernel_rfl) ⟨.inr ⟨_, by kernel_rfl, F116_L3_ok⟩, trivial⟩) (fun v => by kernel_rfl)
def toL (n : Nat) (k : Int) : List Int := (List.range n).map fun (i : Nat) => rotV n k (i : Int)
theorem toL_get {n : Nat} {k v : Int} (hv : 0 ≤ v ∧ v < (n : Int)) : (toL n k)[v.toNat]? = some (rotV n k v) := by
 unfold toL
 rw [List.getElem?_map, List.getElem?_range (by omega), Option.map_some, Int.toNat_of_nonneg hv.1]
theorem toL_len (n : Nat) (k : Int) : (toL n k).length = n := by simp [toL]
theorem F116_eq {n : Nat} {k : Int} (hn : 3 ≤ n ∧ n ≤ 12) (ds : List Dg) (hl : ds.length ≤ 12) (hb : ∀ d ∈ ds, 0 ≤ d.1 ∧ d.1 < d.2 ∧ d.2 < (n : Int)) :
  F116 (ds, toL n k) = some ((), sortD (ds.map (turnD n k))) := by
 have hL := app_loop (step := fun v => (F116_L3_step v).run) (fun j o => ((toL n k, ((), (ds, ((ds.length : Int), (j : Int))))), o)) (fun j => [turnD n k (gD ds j)]) (fun o => ((), o)) ds.length 1 0 0
  (fun j => by simp)
  (fun o j hj => by rw [F116_L3_step, T.run_test, if_neg (by simp; omega), T.run_test, if_pos (by simp), T.run_ret])
  (fun j o _ hj ho => by
   have v2 : w64 ((j : Int) + 1) = ((j + 1 : Nat) : Int) := by rw [w64_id (by omega) (by omega)]; omega
   have hd := hb (gD ds j) (List.mem_of_getElem? (gD_some2 hj))
   have hlen := toL_len n k
   rw [F116_L3_step, T.run_test, if_pos (decide_eq_true (by omega)), T.run_test, if_pos (decide_eq_true (by omega)), T.run_sub, Int.toNat_natCast, gD_some2 hj, Option.bind_some, T.run_test, if_pos (decide_eq_true (by rw [hlen]; omega)), T.run_sub, toL_get (by omega), Option.bind_some, T.run_test, if_pos (decide_eq_true (by rw [hlen]; omega)), T.run_sub, toL_get (by omega), Option.bind_some, T.run_sub, least_val, Option.bind_some, T.run_sub, F88_eq, Option.bind_some, T.run_test, if_pos (by rfl), T.run_test, if_pos (by simp), T.run_test, if_pos (decide_eq_true (by omega)), T.run_test, if_pos (by simp [win_all]), T.run_ret, v2]
   simp only [win_all]
   congr 4
   unfold turnD mx2
   repeat' split
   all_goals exact List.cons_eq_cons.2 ⟨Prod.ext (by dsimp only <;> omega) (by dsimp only <;> omega), rfl⟩)
  ds.length 0 [] (Nat.le_refl 0) rfl (by simp)
 rw [List.nil_append, map_idx2 (turnD n k) (gD ds) ds (fun j hj => gD_some2 hj)] at hL
 have hL' : F116_L3 ((toL n k, ((), (ds, ((ds.length : Int), (0 : Int))))), ([] : List (Int × Int))) = _ := hL
 rw [F116, F116_t, T.run_test, if_pos (by rfl), T.run_sub, hL', Option.bind_some, T.run_test, if_pos (by simp), T.run_sub]
 dsimp only
 rw [win_all, F72_eq _ (by rw [List.length_map]; omega), Option.bind_some, T.run_test, if_pos (by simp), T.run_ret]
def F100_sh : FSh := ⟨[(.one (.si .i64)), (.one (.sl (.pair (.int .i64) (.int .i64)) false false)), (.one (.si .i64))], []⟩
def F100_L3_sh : LSh := ⟨(fun ex => match ex with | .norm => [(0, none), (1, none), (2, none), (7, none), (8, none)] | .exit i => if i = 0 then [(1, none), (7, none)] else [] | .ret => [(6, none)]), [(0, (.one (.si .i64))), (1, (.one (.sl (.pair (.int .i64) (.int .i64)) false false))), (2, (.one (.si .i64))), (7, (.one (.rw 0 0))), (8, (.one (.si .i64)))], [(.row 0 (.int .i64))], [⟨(.exit 0), [(1, (.one (.sl (.pair (.int .i64) (.int .i64)) false false))), (7, (.one (.rw 0 0)))], [(.row 0 (.int .i64))]⟩], [], []⟩
noncomputable def F100_L3_step : ((Int × List ((Int × Int)) × Int × Unit × Int) × List (Int)) → T (((Int × List ((Int × Int)) × Int × Unit × Int) × List (Int)) ⊕ ((List ((Int × Int)) × Unit) × List (Int))) := fun ((n, ds, k, (), i), to') =>
 (.test (decide (i < n))
 (.test (decide (n ≠ 0))
 (.test (decide (1 ≤ 1))
 (.test (decide ((0 + to'.length) ≤ to'.length))
 (.test (decide ((2 * ((to'.length + 1) * 9)) ≤ 140737488355328))
 (.test (decide ((0 = 0) ∧ ((to'.length + 1) = (List.length ((win to' 0 to'.length) ++ [(Int.tmod (w64 (i + k)) n)])))))
 (.ret (Sum.inl ((n, (ds, (k, ((), (w64 (i + 1)))))), ((win to' 0 to'.length) ++ [(Int.tmod (w64 (i + k)) n)]))))
 .fail)
 .fail)
 .fail)
 .fail)
 .fail)
 (.test (decide ((0 = 0) ∧ (to'.length = to'.length)))
 (.ret (Sum.inr ((ds, ()), to')))
 .fail))
noncomputable def F100_L3 (v) := loopO (fun v => (F100_L3_step v).run) v
def F100_fo : List FO := [⟨[(.one (.rw 0 0))], [(.row 0 (.pair (.int .i64) (.int .i64)))]⟩]
noncomputable def F100_t : (Int × List ((Int × Int)) × Int) → T (Unit × List ((Int × Int))) := fun (n, ds, k) =>
 (.test true
 (.sub (F100_L3 ((n, (ds, (k, ((), (0 : Int))))), ([] : List (Int)))) fun z0 =>
 (.test (decide ((0 + z0.2.length) ≤ z0.2.length))
 (.sub (F116 (z0.1.1, (win z0.2 0 z0.2.length))) fun z1 =>
 (.test (decide ((0 = 0) ∧ (z1.2.length = z1.2.length)))
 (.ret ((), z1.2))
 .fail))
 .fail))
 .fail)
noncomputable def F100 (v) := (F100_t v).run
noncomputable def F100_E : TEnv := (E0.add1 n_F116 F116_sh F116_fo F116)
theorem F100_Eok : (F100_E).OK := (E0ok.add1 F116_ok)
noncomputable def F100_told : Nat → Option SealT := fun id => if id = 3 then some (LSh.told F100_L3_sh 0 (F100_L3_step)) else none
theorem F100_L3_ok : ToldOK Tryz.prog 0 (loopAt (bodyOf fn_F100) [0]) (LSh.told F100_L3_sh 0 (F100_L3_step)) :=
 loop_ok (E := F100_E) (F100_Eok) (told := F100_told) (l := F100_L3_sh) (step := F100_L3_step) (loopsOK_of (ls := []) (by kernel_rfl) trivial) (by kernel_rfl) (fun v => by kernel_rfl)
theorem F100_ok : FOK Tryz.prog n_F100 F100_sh F100_fo F100 :=
 fn_ok (E := F100_E) (F100_Eok) (told := F100_told) (fl := []) (c := bodyOf fn_F100) (s := F100_sh) (l := F100_fo) (tree := F100_t) fnat_F100 (by kernel_rfl) (by kernel_rfl) (by kernel_rfl) (loopsOK_of (ls := [loopAt (bodyOf fn_F100) [0]]) (by kernel_rfl) ⟨.inr ⟨_, by kernel_rfl, F100_L3_ok⟩, trivial⟩) (fun v => by kernel_rfl)
theorem F100_eq {n : Nat} {k : Int} (hn : 3 ≤ n ∧ n ≤ 12) (hk : 0 ≤ k ∧ k < (n : Int)) (ds : List Dg) (hl : ds.length ≤ 12) (hb : ∀ d ∈ ds, 0 ≤ d.1 ∧ d.1 < d.2 ∧ d.2 < (n : Int)) :
  F100 ((n : Int), (ds, k)) = some ((), sortD (ds.map (turnD n k))) := by
 have hL := app_loop (step := fun v => (F100_L3_step v).run) (fun j o => (((n : Int), (ds, (k, ((), (j : Int))))), o)) (fun j => [rotV n k (j : Int)]) (fun o => ((ds, ()), o)) n 1 0 0
  (fun j => by simp)
  (fun o j hj => by rw [F100_L3_step, T.run_test, if_neg (by simp; omega), T.run_test, if_pos (by simp), T.run_ret])
  (fun j o _ hj ho => by
   have v2 : w64 ((j : Int) + 1) = ((j + 1 : Nat) : Int) := by rw [w64_id (by omega) (by omega)]; omega
   rw [F100_L3_step, T.run_test, if_pos (decide_eq_true (by omega)), T.run_test, if_pos (decide_eq_true (by omega)), T.run_test, if_pos (by rfl), T.run_test, if_pos (by simp), T.run_test, if_pos (decide_eq_true (by omega)), T.run_test, if_pos (by simp [win_all]), T.run_ret, v2, rot_mod ⟨by omega, by omega⟩ hk ⟨by omega, by omega⟩]
   simp only [win_all])
  n 0 [] (Nat.le_refl 0) rfl (by simp)
 have e : (List.range' 0 n).flatMap (fun (j : Nat) => [rotV n k (j : Int)]) = toL n k := by
  unfold toL
  rw [List.range_eq_range']
  generalize List.range' 0 n = R
  induction R with
  | nil => rfl
  | cons a t ih => rw [List.flatMap_cons, List.map_cons, ih]; rfl
 rw [List.nil_append, e] at hL
 have hL' : F100_L3 (((n : Int), (ds, (k, ((), (0 : Int))))), ([] : List Int)) = _ := hL
 rw [F100, F100_t, T.run_test, if_pos (by rfl), T.run_sub, hL', Option.bind_some, T.run_test, if_pos (by simp), T.run_sub]
 dsimp only
 rw [win_all, F116_eq hn ds hl hb, Option.bind_some, T.run_test, if_pos (by simp), T.run_ret]
def F86_sh : FSh := ⟨[(.one (.si .i64)), (.one (.sl (.pair (.int .i64) (.int .i64)) false false)), (.one (.si .i64))], []⟩
def F86_fo : List FO := [⟨[(.one (.rw 0 0)), (.one .sb)], [(.row 0 (.pair (.int .i64) (.int .i64)))]⟩]
noncomputable def F86_t : (Int × List ((Int × Int)) × Int) → T ((Unit × Bool) × List ((Int × Int))) := fun (n, ds, k) =>
 (.sub (F94 (n, ds)) fun z0 =>
 (.test (! z0)
 (.test true
 (.ret (((), false), ([] : List (Int × Int))))
 .fail)
 (.sub (F117 (k, ((0 : Int), (w64 (n - 1))))) fun z1 =>
 (.test (! z1)
 (.test true
 (.ret (((), false), ([] : List (Int × Int))))
 .fail)
 (.sub (F100 (n, (ds, k))) fun z2 =>
 (.test (decide ((0 = 0) ∧ (z2.2.length = z2.2.length)))
 (.ret (((), true), z2.2))
 .fail))))))
noncomputable def F86 (v) := (F86_t v).run
noncomputable def F86_E : TEnv := (((E0.add1 n_F94 F94_sh F94_fo F94).add1 n_F117 F117_sh F117_fo F117).add1 n_F100 F100_sh F100_fo F100)
theorem F86_Eok : (F86_E).OK := (((E0ok.add1 F94_ok).add1 F117_ok).add1 F100_ok)
noncomputable def F86_told : Nat → Option SealT := fun id => none
theorem F86_ok : FOK Tryz.prog n_F86 F86_sh F86_fo F86 :=
 fn_ok (E := F86_E) (F86_Eok) (told := F86_told) (fl := []) (c := bodyOf fn_F86) (s := F86_sh) (l := F86_fo) (tree := F86_t) fnat_F86 (by kernel_rfl) (by kernel_rfl) (by kernel_rfl) (loopsOK_of (ls := []) (by kernel_rfl) trivial) (fun v => by kernel_rfl)
theorem F86_eq (n : Int) (ds : List Dg) (k : Int) (hl : ds.length < 4611686018427387904) : F86 (n, (ds, k)) = some (tuR n ds k) := by
 unfold tuR
 rw [F86, F86_t, T.run_sub, F94_eq n ds hl, Option.bind_some, T.run_test]
 by_cases c : isCut n ds = true
 ·obtain ⟨N, rfl, h3, h12, hlen, hc⟩ := isCut_cut c
  have w0 : w64 ((N : Int) - 1) = (N : Int) - 1 := w64_id (by omega) (by omega)
  rw [c, if_neg (by decide), T.run_sub, F117_eq, w0, Option.bind_some, T.run_test]
  cases hk : inB 0 ((N : Int) - 1) k with
  | false => rw [if_pos (by rfl), T.run_test, if_pos (by rfl), T.run_ret, if_neg (by simp)]
  | true =>
   have hk' := inB_iff.1 hk
   rw [if_neg (by decide), T.run_sub, F100_eq ⟨h3, h12⟩ ⟨by omega, by omega⟩ ds (by omega) (cut_rng hc), Option.bind_some, T.run_test, if_pos (by simp), T.run_ret, if_pos ⟨rfl, rfl⟩]
 ·rw [if_pos (by simp at c ⊢; exact c), T.run_test, if_pos (by rfl), T.run_ret, if_neg fun h => c h.1]
def F127_sh : FSh := ⟨[(.one (.sl (.int .i64) false false)), (.one (.si .i64))], []⟩
def F127_L2_sh : LSh := ⟨(fun ex => match ex with | .norm => [(1, none), (7, none), (8, none), (9, none)] | .exit i => if i = 0 then [] else [] | .ret => [(4, none)]), [(1, (.one (.si .i64))), (7, (.one (.sl (.int .i64) false false))), (8, (.one (.si .i64))), (9, (.one (.si .i64)))], [], [⟨.ret, [(4, (.one .sb))], []⟩, ⟨(.exit 0), [], []⟩], [], []⟩
noncomputable def F127_L2_step : (Int × List (Int) × Int × Int) → T ((Int × List (Int) × Int × Int) ⊕ (Bool ⊕ Unit)) := fun (n, t7, t8, t9) =>
 (.test (decide (t9 < t8))
 (.test (decide ((0 ≤ t9) ∧ (t9 < (t7.length : Int))))
 (.sub (t7[(Int.toNat t9)]?) fun z0 =>
 (.test (z0 == n)
 (.ret (Sum.inr (Sum.inl true)))
 (.ret (Sum.inl (n, (t7, (t8, (w64 (t9 + 1)))))))))
 .fail)
 (.ret (Sum.inr (Sum.inr ()))))
noncomputable def F127_L2 (v) := loopO (fun v => (F127_L2_step v).run) v
def F127_fo : List FO := [⟨[(.one .sb)], []⟩]
noncomputable def F127_t : (List (Int) × Int) → T Bool := fun (a, n) =>
 (.sub (F127_L2 (n, (a, ((a.length : Int), (0 : Int))))) fun z0 =>
 (.test (Sum.isLeft z0)
 (.sub (Sum.getLeft? z0) fun z1 =>
 (.ret z1))
 (.sub (Sum.getRight? z0) fun z2 =>
 (.ret false))))
noncomputable def F127 (v) := (F127_t v).run
noncomputable def F127_E : TEnv := E0
theorem F127_Eok : (F127_E).OK := E0ok
noncomputable def F127_told : Nat → Option SealT := fun id => if id = 2 then some (LSh.told F127_L2_sh 0 (F127_L2_step)) else none
theorem F127_L2_ok : ToldOK Tryz.prog 0 (loopAt (bodyOf fn_F127) [0]) (LSh.told F127_L2_sh 0 (F127_L2_step)) :=
 loop_ok (E := F127_E) (F127_Eok) (told := F127_told) (l := F127_L2_sh) (step := F127_L2_step) (loopsOK_of (ls := []) (by kernel_rfl) trivial) (by kernel_rfl) (fun v => by kernel_rfl)
theorem F127_ok : FOK Tryz.prog n_F127 F127_sh F127_fo F127 :=
 fn_ok (E := F127_E) (F127_Eok) (told := F127_told) (fl := []) (c := bodyOf fn_F127) (s := F127_sh) (l := F127_fo) (tree := F127_t) fnat_F127 (by kernel_rfl) (by kernel_rfl) (by kernel_rfl) (loopsOK_of (ls := [loopAt (bodyOf fn_F127) [0]]) (by kernel_rfl) ⟨.inr ⟨_, by kernel_rfl, F127_L2_ok⟩, trivial⟩) (fun v => by kernel_rfl)
theorem F127_eq (a : List Int) (n : Int) (hl : a.length < 4611686018427387904) : F127 (a, n) = some (decide (n ∈ a)) := by
 have hf := loop_find (step := fun v => (F127_L2_step v).run) (xs := a) (fun x => x == n) (fun k => (n, (a, ((a.length : Int), (k : Int))))) (fun _ => .inl true) (.inr ())
  (fun k d hd => by
   have hk := getElem?_lt hd
   have w1 : w64 ((k : Int) + 1) = ((k + 1 : Nat) : Int) := by rw [w64_id (by omega) (by omega)]; omega
   rw [F127_L2_step, T.run_test, if_pos (decide_eq_true (by omega)), T.run_test, if_pos (decide_eq_true (by omega)), T.run_sub, Int.toNat_natCast, hd, Option.bind_some, T.run_test]
   cases (d == n) with
   | true => rfl
   | false => rw [if_neg (by simp), T.run_ret, w1]; rfl)
  (by rw [F127_L2_step, T.run_test, if_neg (by simp), T.run_ret])
 have hf' : F127_L2 (n, (a, ((a.length : Int), (0 : Int)))) = _ := hf
 rw [F127, F127_t, T.run_sub, hf', Option.bind_some]
 cases h : a.findIdx? (fun x => x == n) with
 | none =>
  have := List.findIdx?_eq_none_iff.1 h
  have : n ∉ a := fun hm => by have := this n hm; simp at this
  rw [decide_eq_false this]
  rfl
 | some i =>
  obtain ⟨h1, h2, _⟩ := List.findIdx?_eq_some_iff_getElem.1 h
  have : n ∈ a := by rw [← eq_of_beq h2]; exact List.getElem_mem h1
  rw [decide_eq_true this]
  rfl
def F135_sh : FSh := ⟨[(.one (.sl (.pair (.int .i64) (.int .i64)) false false)), (.ag [(.si .i64), (.si .i64)])], []⟩
def F135_L2_sh : LSh := ⟨(fun ex => match ex with | .norm => [(3, none), (7, none), (8, none), (9, none)] | .exit i => if i = 0 then [] else [] | .ret => [(4, none)]), [(3, (.one (.pf 0 0 0))), (7, (.one (.sl (.pair (.int .i64) (.int .i64)) false false))), (8, (.one (.si .i64))), (9, (.one (.si .i64)))], [(.rcd 0 [(.si .i64), (.si .i64)])], [⟨.ret, [(4, (.one .sb))], []⟩, ⟨(.exit 0), [], []⟩], [], []⟩
noncomputable def F135_L2_step : ((Unit × List ((Int × Int)) × Int × Int) × (Int × Int)) → T (((Unit × List ((Int × Int)) × Int × Int) × (Int × Int)) ⊕ (Bool ⊕ Unit)) := fun (((), t7, t8, t9), (d_0, d_1)) =>
 (.test (decide (t9 < t8))
 (.test (decide ((0 ≤ t9) ∧ (t9 < (t7.length : Int))))
 (.sub (t7[(Int.toNat t9)]?) fun z0 =>
 (.test ((z0.1 == d_0) && ((z0.2 == d_1) && true))
 (.ret (Sum.inr (Sum.inl true)))
 (.ret (Sum.inl (((), (t7, (t8, (w64 (t9 + 1))))), (d_0, d_1))))))
 .fail)
 (.ret (Sum.inr (Sum.inr ()))))
noncomputable def F135_L2 (v) := loopO (fun v => (F135_L2_step v).run) v
def F135_fo : List FO := [⟨[(.one .sb)], []⟩]
noncomputable def F135_t : (List ((Int × Int)) × (Int × Int)) → T Bool := fun (ds, (d_0, d_1)) =>
 (.sub (F135_L2 (((), (ds, ((ds.length : Int), (0 : Int)))), (d_0, d_1))) fun z0 =>
 (.test (Sum.isLeft z0)
 (.sub (Sum.getLeft? z0) fun z1 =>
 (.ret z1))
 (.sub (Sum.getRight? z0) fun z2 =>
 (.ret false))))
noncomputable def F135 (v) := (F135_t v).run
noncomputable def F135_E : TEnv := E0
theorem F135_Eok : (F135_E).OK := E0ok
noncomputable def F135_told : Nat → Option SealT := fun id => if id = 2 then some (LSh.told F135_L2_sh 0 (F135_L2_step)) else none
theorem F135_L2_ok : ToldOK Tryz.prog 0 (loopAt (bodyOf fn_F135) [0]) (LSh.told F135_L2_sh 0 (F135_L2_step)) :=
 loop_ok (E := F135_E) (F135_Eok) (told := F135_told) (l := F135_L2_sh) (step := F135_L2_step) (loopsOK_of (ls := []) (by kernel_rfl) trivial) (by kernel_rfl) (fun v => by kernel_rfl)
theorem F135_ok : FOK Tryz.prog n_F135 F135_sh F135_fo F135 :=
 fn_ok (E := F135_E) (F135_Eok) (told := F135_told) (fl := []) (c := bodyOf fn_F135) (s := F135_sh) (l := F135_fo) (tree := F135_t) fnat_F135 (by kernel_rfl) (by kernel_rfl) (by kernel_rfl) (loopsOK_of (ls := [loopAt (bodyOf fn_F135) [0]]) (by kernel_rfl) ⟨.inr ⟨_, by kernel_rfl, F135_L2_ok⟩, trivial⟩) (fun v => by kernel_rfl)
theorem uIn_val (ds : List Dg) (d : Dg) (hl : ds.length < 4611686018427387904) : F135 (ds, d) = some (decide (d ∈ ds)) := by
 obtain ⟨a, b⟩ := d
 have h := loop_find (step := fun v => (F135_L2_step v).run) (xs := ds) (fun e => decide (e = (a, b))) (fun k => (((), (ds, ((ds.length : Int), (k : Int)))), (a, b))) (fun k => .inl true) (.inr ())
  (fun k x hx => by
   have hk := getElem?_lt hx
   rw [F135_L2_step, T.run_test, if_pos (decide_eq_true (by omega)), T.run_test, if_pos (decide_eq_true (by omega)), T.run_sub, Int.toNat_natCast, hx, Option.bind_some, T.run_test, T.run_ret, T.run_ret, w64_id (by omega) (by omega)]
   obtain ⟨x1, x2⟩ := x
   by_cases e : x1 = a ∧ x2 = b
   ·simp [e]
   ·rw [if_neg (by simp; exact fun h1 h2 => e ⟨h1, h2⟩), decide_eq_false (by rw [Prod.mk.injEq]; exact e)]; simp)
  (by rw [F135_L2_step, T.run_test, if_neg (by simp), T.run_ret])
 have h' : F135_L2 (((), (ds, ((ds.length : Int), (0 : Int)))), (a, b)) = _ := h
 rw [F135, F135_t, T.run_sub, h', Option.bind_some]
 cases hf : ds.findIdx? (fun e => decide (e = (a, b))) with
 | none =>
  have : (a, b) ∉ ds := fun hm => by
   have := List.findIdx?_eq_none_iff.1 hf (a, b) hm
   simp at this
  rw [decide_eq_false this]; rfl
 | some k =>
  have : (a, b) ∈ ds := by
   obtain ⟨hlt, hk, _⟩ := List.findIdx?_eq_some_iff_getElem.1 hf
   rw [← of_decide_eq_true hk]; exact List.getElem_mem hlt
  rw [decide_eq_true this]; rfl
end Go.Proofs.W
