import Derived.Test.YtaoeghfoifhhcaaGreatMCxWk3
set_option linter.unusedVariables false
set_option linter.unusedSimpArgs false
set_option maxRecDepth 100000
set_option maxHeartbeats 4000000
namespace Go.Proofs.W
open Go Go.Gm Go.Proofs
open Go.RowKit Go.Shelf
def asD (l : List Int) : List Dg := l.map fun x => (x, (0 : Int))
def ofD (l : List Dg) : List Int := l.map Prod.fst
theorem ofD_asD (l : List Int) : ofD (asD l) = l := by
 unfold ofD asD
 rw [List.map_map]
 exact List.map_id' l
def sortI (l : List Int) : List Int := ofD (sortD (asD l))
theorem sortI_perm (l : List Int) : (sortI l).Perm l := by
 have := (sortD_perm (asD l)).map Prod.fst
 change (sortI l).Perm (ofD (asD l)) at this
 rwa [ofD_asD] at this
theorem asD_snd {l : List Int} {d : Dg} (h : d ∈ asD l) : d.2 = 0 := by
 obtain ⟨x, _, rfl⟩ := List.mem_map.1 h
 rfl
theorem sortI_up (l : List Int) : (sortI l).Pairwise (· ≤ ·) := by
 unfold sortI ofD
 rw [List.pairwise_map]
 exact (sortD_sorted (asD l)).imp fun {a b} h => by have := leD_iff.1 h; omega
theorem sortI_unique {l m : List Int} (h : m.Pairwise (· ≤ ·)) (hp : m.Perm l) : m = sortI l :=
 List.Perm.eq_of_pairwise (fun a b _ _ h1 h2 => by omega) h (sortI_up l) (hp.trans (sortI_perm l).symm)
theorem ofD_get {L : List Dg} {p : Nat} (h : p < L.length) : (ofD L)[p]? = some (gD L p).1 := by
 unfold ofD
 rw [List.getElem?_map, gD_some h]
 rfl
theorem w64_form (z : Int) : w64 z = if z % 18446744073709551616 ≥ 9223372036854775808 then z % 18446744073709551616 - 18446744073709551616 else z % 18446744073709551616 := by
 simp [w64, IntKind.wrap, IntKind.bits, IntKind.signed]
theorem w64_mod (z : Int) : w64 z % 18446744073709551616 = z % 18446744073709551616 := by
 rw [w64_form]
 split <;> omega
theorem w64_congr {x y : Int} (h : x % 18446744073709551616 = y % 18446744073709551616) : w64 x = w64 y := by
 rw [w64_form, w64_form, h]
theorem w64_mul_swap (z a b : Int) : w64 (w64 (z * a) * b) = w64 (w64 (z * b) * a) := by
 apply w64_congr
 rw [Int.mul_emod, w64_mod, ← Int.mul_emod, Int.mul_emod (w64 (z * b)), w64_mod, ← Int.mul_emod]
 congr 1
 rw [Int.mul_assoc, Int.mul_comm a b, Int.mul_assoc]
theorem foldl_mul_perm (f : Int → Int) {l m : List Int} (h : l.Perm m) (a : Int) : l.foldl (fun o s => w64 (o * f s)) a = m.foldl (fun o s => w64 (o * f s)) a :=
 h.foldl_eq' (fun x _ y _ z => w64_mul_swap z (f x) (f y)) a
def F8_sh : FSh := ⟨[(.one (.rw 0 0)), (.one (.si .i64)), (.one (.si .i64))], [(.row 0 (.int .i64))]⟩
def F8_L4_sh : LSh := ⟨(fun ex => match ex with | .norm => [(0, none), (1, none), (2, none), (6, none), (7, none)] | .exit i => if i = 2 then [(0, none), (1, none), (2, none), (6, none)] else if i = 1 then [(0, none), (1, none), (2, none), (6, none)] else if i = 0 then [] else [] | .ret => []), [(0, (.one (.rw 0 0))), (1, (.one (.si .i64))), (2, (.one (.si .i64))), (6, (.one (.si .i64))), (7, (.one (.si .i64)))], [(.row 0 (.int .i64))], [⟨(.exit 2), [(0, (.one (.rw 0 0))), (1, (.one (.si .i64))), (2, (.one (.si .i64))), (6, (.one (.si .i64)))], [(.row 0 (.int .i64))]⟩], [], []⟩
noncomputable def F8_L4_step : ((Unit × Int × Int × Int × Int) × List (Int)) → T (((Unit × Int × Int × Int × Int) × List (Int)) ⊕ ((Unit × Int × Int × Int) × List (Int))) := fun (((), a, b, i, j), data) =>
 (.test (decide (j > a))
 (.test (decide ((0 ≤ j) ∧ (j < (data.length : Int))))
 (.sub (data[(0 + (Int.toNat j))]?) fun z0 =>
 (.test (decide ((0 ≤ (w64 (j - 1))) ∧ ((w64 (j - 1)) < (data.length : Int))))
 (.sub (data[(0 + (Int.toNat (w64 (j - 1))))]?) fun z1 =>
 (.sub (F60 (z0, z1)) fun z2 =>
 (.test z2
 (.test (decide ((0 ≤ (w64 (j - 1))) ∧ ((w64 (j - 1)) < (data.length : Int))))
 (.sub (data[(0 + (Int.toNat (w64 (j - 1))))]?) fun z3 =>
 (.test (decide ((0 ≤ j) ∧ (j < (data.length : Int))))
 (.sub (data[(0 + (Int.toNat j))]?) fun z4 =>
 (.test (decide ((0 ≤ j) ∧ (j < (data.length : Int))))
 (.sub (data[(0 + (Int.toNat j))]?) fun z5 =>
 (.test (decide ((0 ≤ (w64 (j - 1))) ∧ ((w64 (j - 1)) < (data.length : Int))))
 (.sub ((List.set data (0 + (Int.toNat j)) z3)[(0 + (Int.toNat (w64 (j - 1))))]?) fun z6 =>
 (.test (decide ((0 = 0) ∧ (data.length = (List.length (List.set (List.set data (0 + (Int.toNat j)) z3) (0 + (Int.toNat (w64 (j - 1)))) z4)))))
 (.ret (Sum.inl (((), (a, (b, (i, (w64 (j - 1)))))), (List.set (List.set data (0 + (Int.toNat j)) z3) (0 + (Int.toNat (w64 (j - 1)))) z4))))
 .fail))
 .fail))
 .fail))
 .fail))
 .fail)
 (.test (decide ((0 = 0) ∧ (data.length = data.length)))
 (.ret (Sum.inr (((), (a, (b, i))), data)))
 .fail))))
 .fail))
 .fail)
 (.test (decide ((0 = 0) ∧ (data.length = data.length)))
 (.ret (Sum.inr (((), (a, (b, i))), data)))
 .fail))
noncomputable def F8_L4 (v) := loopO (fun v => (F8_L4_step v).run) v
def F8_L1_sh : LSh := ⟨(fun ex => match ex with | .norm => [(0, none), (1, none), (2, none), (6, none)] | .exit i => if i = 0 then [] else [] | .ret => []), [(0, (.one (.rw 0 0))), (1, (.one (.si .i64))), (2, (.one (.si .i64))), (6, (.one (.si .i64)))], [(.row 0 (.int .i64))], [⟨(.exit 0), [], [(.row 0 (.int .i64))]⟩], [], []⟩
noncomputable def F8_L1_step : ((Unit × Int × Int × Int) × List (Int)) → T (((Unit × Int × Int × Int) × List (Int)) ⊕ (Unit × List (Int))) := fun (((), a, b, i), data) =>
 (.test (decide (i < b))
 (.test (decide ((0 = 0) ∧ (data.length = data.length)))
 (.sub (F8_L4 (((), (a, (b, (i, i)))), data)) fun z0 =>
 (.test (decide ((0 = 0) ∧ (z0.2.length = z0.2.length)))
 (.ret (Sum.inl (((), (z0.1.2.1, (z0.1.2.2.1, (w64 (z0.1.2.2.2 + 1))))), z0.2)))
 .fail))
 .fail)
 (.ret (Sum.inr ((), data))))
noncomputable def F8_L1 (v) := loopO (fun v => (F8_L1_step v).run) v
def F8_fo : List FO := [⟨[], [(.row 0 (.int .i64))]⟩]
noncomputable def F8_t : ((Unit × Int × Int) × List (Int)) → T (Unit × List (Int)) := fun (((), a, b), data) =>
 (.test (decide ((0 = 0) ∧ (data.length = data.length)))
 (.sub (F8_L1 (((), (a, (b, (w64 (a + 1))))), data)) fun z0 =>
 (.ret ((), z0.2)))
 .fail)
noncomputable def F8 (v) := (F8_t v).run
noncomputable def F8_E : TEnv := (E0.add1 n_F60 F60_sh F60_fo F60)
theorem F8_Eok : (F8_E).OK := (E0ok.add1 F60_ok)
noncomputable def F8_told : Nat → Option SealT := fun id => if id = 4 then some (LSh.told F8_L4_sh 1 (F8_L4_step)) else if id = 1 then some (LSh.told F8_L1_sh 1 (F8_L1_step)) else none
theorem F8_L4_ok : ToldOK Tryz.prog 1 (loopAt (bodyOf fn_F8) [0, 0]) (LSh.told F8_L4_sh 1 (F8_L4_step)) :=
 loop_ok (E := F8_E) (F8_Eok) (told := F8_told) (l := F8_L4_sh) (step := F8_L4_step) (loopsOK_of (ls := []) (by kernel_rfl) trivial) (by kernel_rfl) (fun v => by kernel_rfl)
theorem F8_L1_ok : ToldOK Tryz.prog 1 (loopAt (bodyOf fn_F8) [0]) (LSh.told F8_L1_sh 1 (F8_L1_step)) :=
 loop_ok (E := F8_E) (F8_Eok) (told := F8_told) (l := F8_L1_sh) (step := F8_L1_step) (loopsOK_of (ls := [loopAt (bodyOf fn_F8) [0, 0]]) (by kernel_rfl) ⟨.inr ⟨_, by kernel_rfl, F8_L4_ok⟩, trivial⟩) (by kernel_rfl) (fun v => by kernel_rfl)
theorem F8_ok : FOK Tryz.prog n_F8 F8_sh F8_fo F8 :=
 fn_ok (E := F8_E) (F8_Eok) (told := F8_told) (fl := []) (c := bodyOf fn_F8) (s := F8_sh) (l := F8_fo) (tree := F8_t) fnat_F8 (by kernel_rfl) (by kernel_rfl) (by kernel_rfl) (loopsOK_of (ls := [loopAt (bodyOf fn_F8) [0]]) (by kernel_rfl) ⟨.inr ⟨_, by kernel_rfl, F8_L1_ok⟩, trivial⟩) (fun v => by kernel_rfl)
theorem F8_sink (b i : Int) : ∀ (j : Nat) (L : List Dg), j < L.length → L.length < 1000000 → (∀ d ∈ L, d.2 = 0) →
  F8_L4 (((), ((0 : Int), (b, (i, (j : Int))))), ofD L) = some (((), ((0 : Int), (b, i))), ofD (sinkD j L))
 | 0, L, hj, hl, hz => by
  simp only [F8_L4]
  exact loopO_done (by simp [F8_L4_step, T.run, sinkD])
 | j + 1, L, hj, hl, hz => by
  have ih := F8_sink b i j (swapD L j) (by rw [swapD_length]; omega) (by rw [swapD_length]; omega) (fun d hd => hz d ((swapD_perm hj).mem_iff.1 hd))
  simp only [F8_L4] at ih ⊢
  have w1 : w64 (((j + 1 : Nat) : Int) - 1) = (j : Int) := by rw [w64_id (by omega) (by omega)]; omega
  have hol : (ofD L).length = L.length := by unfold ofD; rw [List.length_map]
  have g1 := ofD_get hj
  have g2 := ofD_get (show j < L.length by omega)
  have z1 : (gD L (j + 1)).2 = 0 := by rw [gD_eq hj]; exact hz _ (List.getElem_mem hj)
  have z2 : (gD L j).2 = 0 := by rw [gD_eq (by omega)]; exact hz _ (List.getElem_mem (by omega))
  have hcmp : ltD (gD L (j + 1)) (gD L j) = decide ((gD L (j + 1)).1 < (gD L j).1) := by
   rw [Bool.eq_iff_iff, ltD_iff, decide_eq_true_eq, z1, z2]; omega
  have c0 : ((j + 1 : Nat) : Int) > 0 := by omega
  have c1 : (0 : Int) ≤ ((j + 1 : Nat) : Int) ∧ ((j + 1 : Nat) : Int) < ((ofD L).length : Int) := by omega
  have c2 : (0 : Int) ≤ (j : Int) ∧ (j : Int) < ((ofD L).length : Int) := by omega
  cases hlt : ltD (gD L (j + 1)) (gD L j) with
  | false =>
   have e : sinkD (j + 1) L = L := by unfold sinkD; rw [hlt]; rfl
   rw [e]
   refine loopO_done ?_
   rw [hcmp] at hlt
   rw [F8_L4_step, T.run_test, if_pos (decide_eq_true c0), T.run_test, if_pos (decide_eq_true c1), T.run_sub, Nat.zero_add, Int.toNat_natCast, g1, Option.bind_some, T.run_test, w1, if_pos (decide_eq_true c2), T.run_sub, Nat.zero_add, Int.toNat_natCast, g2, Option.bind_some, T.run_sub, F60_val, Option.bind_some, T.run_test, hlt, if_neg (by simp), T.run_test, if_pos (by simp), T.run_ret]
  | true =>
   have e : sinkD (j + 1) L = sinkD j (swapD L j) := by conv => lhs; unfold sinkD
                                                        rw [hlt]; rfl
   rw [e, ← ih]
   refine loopO_next ?_
   rw [hcmp] at hlt
   have g3 : ((ofD L).set (j + 1) (gD L j).1)[j]? = some (gD L j).1 := by rw [List.getElem?_set_ne (by omega)]; exact g2
   have hsw : ((ofD L).set (j + 1) (gD L j).1).set j (gD L (j + 1)).1 = ofD (swapD L j) := by unfold ofD swapD; rw [List.map_set, List.map_set]
   rw [F8_L4_step, T.run_test, if_pos (decide_eq_true c0), T.run_test, if_pos (decide_eq_true c1), T.run_sub, Nat.zero_add, Int.toNat_natCast, g1, Option.bind_some, T.run_test, w1, if_pos (decide_eq_true c2), T.run_sub, Nat.zero_add, Int.toNat_natCast, g2, Option.bind_some, T.run_sub, F60_val, Option.bind_some, T.run_test, hlt, if_pos rfl,
    T.run_test, if_pos (decide_eq_true c2), T.run_sub, Option.bind_some, T.run_test, if_pos (decide_eq_true c1), T.run_sub, Option.bind_some, T.run_test, if_pos (decide_eq_true c1), T.run_sub, Option.bind_some, T.run_test, if_pos (decide_eq_true c2), T.run_sub, g3, Option.bind_some, T.run_test, if_pos (by simp), T.run_ret, hsw]
theorem F8_isort : ∀ (n i : Nat) (L : List Dg), i + n = L.length → L.length < 1000000 → (∀ d ∈ L, d.2 = 0) → 0 < i →
  F8_L1 (((), ((0 : Int), ((L.length : Int), (i : Int)))), ofD L) = some ((), ofD (isortD n i L))
 | 0, i, L, hi, hl, hz, h0 => by
  simp only [F8_L1]
  refine loopO_done ?_
  rw [F8_L1_step, T.run_test, if_neg (by rw [decide_eq_true_eq]; omega), T.run_ret]
  rfl
 | n + 1, i, L, hi, hl, hz, h0 => by
  have ih := F8_isort n (i + 1) (sinkD i L) (by rw [sinkD_length]; omega) (by rw [sinkD_length]; omega) (fun d hd => hz d ((sinkD_perm (by omega)).mem_iff.1 hd)) (by omega)
  rw [sinkD_length] at ih
  have hs := F8_sink (L.length : Int) (i : Int) i L (by omega) hl hz
  simp only [F8_L1] at ih ⊢
  show _ = some ((), ofD (isortD n (i + 1) (sinkD i L)))
  rw [← ih]
  refine loopO_next ?_
  have w1 : w64 ((i : Int) + 1) = ((i + 1 : Nat) : Int) := by rw [w64_id (by omega) (by omega)]; omega
  rw [F8_L1_step, T.run_test, if_pos (decide_eq_true (by omega)), T.run_test, if_pos (by simp), T.run_sub, hs, Option.bind_some, T.run_test, if_pos (by simp), T.run_ret, w1]
def F12_sh : FSh := ⟨[(.one (.rw 0 0)), (.one (.si .i64)), (.one (.si .i64)), (.one (.si .i64))], [(.row 0 (.int .i64))]⟩
def F12_L2_sh : LSh := ⟨(fun ex => match ex with | .norm => [(0, none), (1, none), (2, none), (3, none), (8, none), (9, none)] | .exit i => if i = 0 then [] else [] | .ret => []), [(0, (.one (.rw 0 0))), (1, (.one (.si .i64))), (2, (.one (.si .i64))), (3, (.one (.si .i64))), (8, (.one .sb)), (9, (.one .sb))], [(.row 0 (.int .i64))], [⟨.ret, [], [(.row 0 (.int .i64))]⟩], [], []⟩
noncomputable def F12_L2_step : ((Unit × Int × Int × Int × Bool × Bool) × List (Int)) → T (((Unit × Int × Int × Int × Bool × Bool) × List (Int)) ⊕ (Unit × List (Int))) := fun (((), a, b, limit, wasBalanced, wasPartitioned), data) =>
 (.test (decide ((w64 (b - a)) ≤ 12))
 (.test (decide ((0 = 0) ∧ (data.length = data.length)))
 (.sub (F8 (((), (a, b)), data)) fun z0 =>
 (.ret (Sum.inr ((), z0.2))))
 .fail)
 (.test (limit == 0)
 .fail
 (.test (! wasBalanced)
 .fail
 .fail)))
noncomputable def F12_L2 (v) := loopO (fun v => (F12_L2_step v).run) v
def F12_fo : List FO := [⟨[], [(.row 0 (.int .i64))]⟩]
noncomputable def F12_t : ((Unit × Int × Int × Int) × List (Int)) → T (Unit × List (Int)) := fun (((), a, b, limit), data) =>
 (.test (decide ((0 = 0) ∧ (data.length = data.length)))
 (.sub (F12_L2 (((), (a, (b, (limit, (true, true))))), data)) fun z0 =>
 (.ret ((), z0.2)))
 .fail)
noncomputable def F12 (v) := (F12_t v).run
noncomputable def F12_E : TEnv := (E0.add1 n_F8 F8_sh F8_fo F8)
theorem F12_Eok : (F12_E).OK := (E0ok.add1 F8_ok)
noncomputable def F12_told : Nat → Option SealT := fun id => if id = 2 then some (LSh.told F12_L2_sh 1 (F12_L2_step)) else none
theorem F12_L2_ok : ToldOK Tryz.prog 1 (loopAt (bodyOf fn_F12) [0]) (LSh.told F12_L2_sh 1 (F12_L2_step)) :=
 loop_ok (E := F12_E) (F12_Eok) (told := F12_told) (l := F12_L2_sh) (step := F12_L2_step) (loopsOK_of (ls := []) (by kernel_rfl) trivial) (by kernel_rfl) (fun v => by kernel_rfl)
theorem F12_ok : FOK Tryz.prog n_F12 F12_sh F12_fo F12 :=
 fn_ok (E := F12_E) (F12_Eok) (told := F12_told) (fl := []) (c := bodyOf fn_F12) (s := F12_sh) (l := F12_fo) (tree := F12_t) fnat_F12 (by kernel_rfl) (by kernel_rfl) (by kernel_rfl) (loopsOK_of (ls := [loopAt (bodyOf fn_F12) [0]]) (by kernel_rfl) ⟨.inr ⟨_, by kernel_rfl, F12_L2_ok⟩, trivial⟩) (fun v => by kernel_rfl)
def F44_sh : FSh := ⟨[(.one (.rw 0 0))], [(.row 0 (.int .i64))]⟩
def F44_fo : List FO := [⟨[], [(.row 0 (.int .i64))]⟩]
noncomputable def F44_t : (Unit × List (Int)) → T (Unit × List (Int)) := fun ((), x) =>
 (.sub (F53 (wu64 (x.length : Int))) fun z0 =>
 (.test (decide ((0 = 0) ∧ (x.length = x.length)))
 (.sub (F12 (((), ((0 : Int), ((x.length : Int), z0))), x)) fun z1 =>
 (.ret ((), z1.2)))
 .fail))
noncomputable def F44 (v) := (F44_t v).run
noncomputable def F44_E : TEnv := ((E0.add1 n_F53 F53_sh F53_fo F53).add1 n_F12 F12_sh F12_fo F12)
theorem F44_Eok : (F44_E).OK := ((E0ok.add1 F53_ok).add1 F12_ok)
noncomputable def F44_told : Nat → Option SealT := fun id => none
theorem F44_ok : FOK Tryz.prog n_F44 F44_sh F44_fo F44 :=
 fn_ok (E := F44_E) (F44_Eok) (told := F44_told) (fl := []) (c := bodyOf fn_F44) (s := F44_sh) (l := F44_fo) (tree := F44_t) fnat_F44 (by kernel_rfl) (by kernel_rfl) (by kernel_rfl) (loopsOK_of (ls := []) (by kernel_rfl) trivial) (fun v => by kernel_rfl)
theorem F44_eq (l : List Int) (hl : l.length ≤ 12) : F44 ((), l) = some ((), sortI l) := by
 have hw : wu64 (l.length : Int) = (l.length : Int) := IntWalk.u64_in _ ⟨by omega, by omega⟩
 have hz : F53 (wu64 (l.length : Int)) = some (Lib.bitLen l.length : Int) := by
  rw [hw]; unfold F53; rw [if_pos ⟨by omega, by omega⟩, Int.toNat_natCast]
 have w0 : w64 ((l.length : Int) - 0) = (l.length : Int) := by rw [w64_id (by omega) (by omega)]; omega
 have w1 : w64 ((0 : Int) + 1) = ((1 : Nat) : Int) := by rw [w64_id (by omega) (by omega)]; rfl
 have hal : (asD l).length = l.length := by unfold asD; rw [List.length_map]
 have hins : F8 (((), ((0 : Int), (l.length : Int))), l) = some ((), sortI l) := by
  by_cases h0 : l.length = 0
  ·have : l = [] := List.eq_nil_of_length_eq_zero h0
   subst this
   rw [F8, F8_t, T.run_test, if_pos (by simp), T.run_sub, w1, F8_L1, loopO_done (o := ((), []))]
   ·rfl
   ·rfl
  ·have h := F8_isort (l.length - 1) 1 (asD l) (by omega) (by omega) (fun d => asD_snd) (by omega)
   rw [ofD_asD, hal, ← hal, isortD_eq] at h
   rw [F8, F8_t, T.run_test, if_pos (by simp), T.run_sub, w1, ← hal, h, Option.bind_some, T.run_ret]
   rfl
 rw [F44, F44_t, T.run_sub, hz, Option.bind_some, T.run_test, if_pos (by simp), T.run_sub, F12, F12_t, T.run_test, if_pos (by simp), T.run_sub, F12_L2, loopO_done (o := ((), sortI l)), Option.bind_some, T.run_ret, Option.bind_some, T.run_ret]
 rw [F12_L2_step, T.run_test, w0, if_pos (decide_eq_true (by omega)), T.run_test, if_pos (by simp), T.run_sub, hins, Option.bind_some, T.run_ret]
def F72_sh : FSh := ⟨[(.one (.si .i64)), (.one (.sl (.pair (.int .i64) (.int .i64)) false false)), (.one (.si .i64)), (.one (.si .i64))], []⟩
def F72_L4_sh : LSh := ⟨(fun ex => match ex with | .norm => [(2, none), (3, none), (23, none), (24, none), (25, none)] | .exit i => if i = 0 then [] else [] | .ret => [(8, none)]), [(2, (.one (.si .i64))), (3, (.one (.si .i64))), (23, (.one (.sl (.pair (.int .i64) (.int .i64)) false false))), (24, (.one (.si .i64))), (25, (.one (.si .i64)))], [], [⟨.ret, [(8, (.one .sb))], []⟩, ⟨(.exit 0), [], []⟩], [], []⟩
noncomputable def F72_L4_step : (Int × Int × List ((Int × Int)) × Int × Int) → T ((Int × Int × List ((Int × Int)) × Int × Int) ⊕ (Bool ⊕ Unit)) := fun (a, b, t23, t24, t25) =>
 (.test (decide (t25 < t24))
 (.test (decide ((0 ≤ t25) ∧ (t25 < (t23.length : Int))))
 (.sub (t23[(Int.toNat t25)]?) fun z0 =>
 (.test (z0.1 == a)
 (.test (z0.2 == b)
 (.ret (Sum.inr (Sum.inl true)))
 (.ret (Sum.inl (a, (b, (t23, (t24, (w64 (t25 + 1)))))))))
 (.ret (Sum.inl (a, (b, (t23, (t24, (w64 (t25 + 1))))))))))
 .fail)
 (.ret (Sum.inr (Sum.inr ()))))
noncomputable def F72_L4 (v) := loopO (fun v => (F72_L4_step v).run) v
def F72_fo : List FO := [⟨[(.one .sb)], []⟩]
noncomputable def F72_t : (Int × List ((Int × Int)) × Int × Int) → T Bool := fun (n, ds, a, b) =>
 (.test ((w64 (b - a)) == 1)
 (.ret true)
 (.test ((w64 (b - a)) == (w64 (n - 1)))
 (.ret true)
 (.sub (F72_L4 (a, (b, (ds, ((ds.length : Int), (0 : Int)))))) fun z0 =>
 (.test (Sum.isLeft z0)
 (.sub (Sum.getLeft? z0) fun z1 =>
 (.ret z1))
 (.sub (Sum.getRight? z0) fun z2 =>
 (.ret false))))))
noncomputable def F72 (v) := (F72_t v).run
noncomputable def F72_E : TEnv := E0
theorem F72_Eok : (F72_E).OK := E0ok
noncomputable def F72_told : Nat → Option SealT := fun id => if id = 4 then some (LSh.told F72_L4_sh 0 (F72_L4_step)) else none
theorem F72_L4_ok : ToldOK Tryz.prog 0 (loopAt (bodyOf fn_F72) [0]) (LSh.told F72_L4_sh 0 (F72_L4_step)) :=
 loop_ok (E := F72_E) (F72_Eok) (told := F72_told) (l := F72_L4_sh) (step := F72_L4_step) (loopsOK_of (ls := []) (by kernel_rfl) trivial) (by kernel_rfl) (fun v => by kernel_rfl)
theorem F72_ok : FOK Tryz.prog n_F72 F72_sh F72_fo F72 :=
 fn_ok (E := F72_E) (F72_Eok) (told := F72_told) (fl := []) (c := bodyOf fn_F72) (s := F72_sh) (l := F72_fo) (tree := F72_t) fnat_F72 (by kernel_rfl) (by kernel_rfl) (by kernel_rfl) (loopsOK_of (ls := [loopAt (bodyOf fn_F72) [0]]) (by kernel_rfl) ⟨.inr ⟨_, by kernel_rfl, F72_L4_ok⟩, trivial⟩) (fun v => by kernel_rfl)
theorem F72_eq (n : Nat) (ds : List Dg) (a b : Int) (hn : n ≤ 12) (ha : 0 ≤ a ∧ a ≤ 12) (hb : 0 ≤ b ∧ b ≤ 12) (hl : ds.length < 1000000) : F72 ((n : Int), (ds, (a, b))) = some (joinD n ds a b) := by
 have w1 : w64 (b - a) = b - a := w64_id (by omega) (by omega)
 have w2 : w64 ((n : Int) - 1) = (n : Int) - 1 := w64_id (by omega) (by omega)
 have h := loop_any (step := fun v => (F72_L4_step v).run) (xs := ds) (fun d => decide ((a, b) = d)) (fun k => (a, (b, (ds, ((ds.length : Int), (k : Int)))))) (.inl true) (.inr ())
  (fun k x hx => by
   have hlt := getElem?_lt hx
   obtain ⟨x, y⟩ := x
   have w1 : w64 ((k : Int) + 1) = ((k + 1 : Nat) : Int) := by rw [w64_id (by omega) (by omega)]; omega
   rw [F72_L4_step, T.run_test, if_pos (decide_eq_true (by omega)), T.run_test, if_pos (decide_eq_true (by omega)), T.run_sub, Int.toNat_natCast, hx, Option.bind_some, T.run_test, w1]
   by_cases c1 : x = a
   ·subst c1
    rw [if_pos (by simp), T.run_test]
    by_cases c2 : y = b
    ·subst c2
     rw [if_pos (by simp), T.run_ret]
     simp
    ·rw [if_neg (by simpa using c2), T.run_ret, if_neg (by simp; exact fun e => c2 e.symm)]
   ·rw [if_neg (by simpa using c1), T.run_ret, if_neg (by simp; exact fun e => absurd e.symm c1)])
  (by rw [F72_L4_step, T.run_test, if_neg (by simp), T.run_ret])
 simp only [Int.natCast_zero] at h
 have e : ds.any (fun d => decide ((a, b) = d)) = decide ((a, b) ∈ ds) := by
  rw [Bool.eq_iff_iff, List.any_eq_true, decide_eq_true_eq]
  constructor
  ·rintro ⟨d, hd, e⟩; rw [decide_eq_true_eq] at e; rw [e]; exact hd
  ·exact fun h => ⟨_, h, by simp⟩
 rw [F72, F72_t, T.run_test, w1, w2, joinD]
 by_cases c1 : b - a = 1
 ·rw [if_pos (by simpa using c1), T.run_ret, decide_eq_true c1]; rfl
 ·rw [if_neg (by simpa using c1), T.run_test, decide_eq_false c1]
  by_cases c2 : b - a = (n : Int) - 1
  ·rw [if_pos (by simpa using c2), T.run_ret, decide_eq_true c2]; rfl
  ·rw [if_neg (by simpa using c2), T.run_sub, F72_L4, h, Option.bind_some, T.run_test, decide_eq_false c2, e]
   cases decide ((a, b) ∈ ds) <;> rfl
def F88_sh : FSh := ⟨[(.one (.sl (.int .i64) false false)), (.one (.sl (.int .i64) false false))], []⟩
def F88_L2_sh : LSh := ⟨(fun ex => match ex with | .norm => [(0, none), (1, none), (5, none)] | .exit i => if i = 0 then [(0, none), (1, none)] else [] | .ret => [(4, none)]), [(0, (.one (.sl (.int .i64) false false))), (1, (.one (.sl (.int .i64) false false))), (5, (.one (.si .i64)))], [], [⟨.ret, [(4, (.one .sb))], []⟩, ⟨(.exit 0), [(0, (.one (.sl (.int .i64) false false))), (1, (.one (.sl (.int .i64) false false)))], []⟩], [], []⟩
noncomputable def F88_L2_step : (List (Int) × List (Int) × Int) → T ((List (Int) × List (Int) × Int) ⊕ (Bool ⊕ (List (Int) × List (Int)))) := fun (a, b, i) =>
 (.test (decide (i < (a.length : Int)))
 (.test (decide (i < (b.length : Int)))
 (.test (decide ((0 ≤ i) ∧ (i < (a.length : Int))))
 (.sub (a[(Int.toNat i)]?) fun z0 =>
 (.test (decide ((0 ≤ i) ∧ (i < (b.length : Int))))
 (.sub (b[(Int.toNat i)]?) fun z1 =>
 (.test (z0 != z1)
 (.test (decide ((0 ≤ i) ∧ (i < (a.length : Int))))
 (.sub (a[(Int.toNat i)]?) fun z2 =>
 (.test (decide ((0 ≤ i) ∧ (i < (b.length : Int))))
 (.sub (b[(Int.toNat i)]?) fun z3 =>
 (.ret (Sum.inr (Sum.inl (decide (z2 < z3))))))
 .fail))
 .fail)
 (.ret (Sum.inl (a, (b, (w64 (i + 1))))))))
 .fail))
 .fail)
 (.ret (Sum.inr (Sum.inr (a, b)))))
 (.ret (Sum.inr (Sum.inr (a, b)))))
noncomputable def F88_L2 (v) := loopO (fun v => (F88_L2_step v).run) v
def F88_fo : List FO := [⟨[(.one .sb)], []⟩]
noncomputable def F88_t : (List (Int) × List (Int)) → T Bool := fun (a, b) =>
 (.sub (F88_L2 (a, (b, (0 : Int)))) fun z0 =>
 (.test (Sum.isLeft z0)
 (.sub (Sum.getLeft? z0) fun z1 =>
 (.ret z1))
 (.sub (Sum.getRight? z0) fun z2 =>
 (.ret (decide ((z2.1.length : Int) < (z2.2.length : Int)))))))
noncomputable def F88 (v) := (F88_t v).run
noncomputable def F88_E : TEnv := E0
theorem F88_Eok : (F88_E).OK := E0ok
noncomputable def F88_told : Nat → Option SealT := fun id => if id = 2 then some (LSh.told F88_L2_sh 0 (F88_L2_step)) else none
theorem F88_L2_ok : ToldOK Tryz.prog 0 (loopAt (bodyOf fn_F88) [0]) (LSh.told F88_L2_sh 0 (F88_L2_step)) :=
 loop_ok (E := F88_E) (F88_Eok) (told := F88_told) (l := F88_L2_sh) (step := F88_L2_step) (loopsOK_of (ls := []) (by kernel_rfl) trivial) (by kernel_rfl) (fun v => by kernel_rfl)
theorem F88_ok : FOK Tryz.prog n_F88 F88_sh F88_fo F88 :=
 fn_ok (E := F88_E) (F88_Eok) (told := F88_told) (fl := []) (c := bodyOf fn_F88) (s := F88_sh) (l := F88_fo) (tree := F88_t) fnat_F88 (by kernel_rfl) (by kernel_rfl) (by kernel_rfl) (loopsOK_of (ls := [loopAt (bodyOf fn_F88) [0]]) (by kernel_rfl) ⟨.inr ⟨_, by kernel_rfl, F88_L2_ok⟩, trivial⟩) (fun v => by kernel_rfl)
theorem F88_loop (a b : List Int) (ha : a.length < 1000000) (hb : b.length < 1000000) : ∀ (m i : Nat), i + m = a.length → a.take i = b.take i → i ≤ b.length → ∃ r, F88_L2 (a, (b, (i : Int))) = some r ∧ ((∃ v, r = .inl v ∧ v = ltL (a.drop i) (b.drop i)) ∨ (r = .inr (a, b) ∧ decide ((a.length : Int) < (b.length : Int)) = ltL (a.drop i) (b.drop i))) := by
 intro m
 induction m with
 | zero =>
  intro i hi ht hib
  refine ⟨.inr (a, b), ?_, .inr ⟨rfl, ?_⟩⟩
  ·simp only [F88_L2]
   refine loopO_done ?_
   rw [F88_L2_step, T.run_test, if_neg (by rw [decide_eq_true_eq]; omega), T.run_ret]
  ·rw [List.drop_eq_nil_of_le (by omega : a.length ≤ i)]
   by_cases c : i = b.length
   ·rw [List.drop_eq_nil_of_le (by omega : b.length ≤ i)]
    rw [ltL, decide_eq_false (by omega)]
   ·rw [List.drop_eq_getElem_cons (show i < b.length by omega), ltL, decide_eq_true (by omega)]
 | succ m ih =>
  intro i hi ht hib
  have hia : i < a.length := by omega
  by_cases c : i < b.length
  ·have w1 : w64 ((i : Int) + 1) = ((i + 1 : Nat) : Int) := by rw [w64_id (by omega) (by omega)]; omega
   have st : ∀ z : T ((List Int × List Int × Int) ⊕ (Bool ⊕ (List Int × List Int))), True := fun _ => trivial
   rw [List.drop_eq_getElem_cons hia, List.drop_eq_getElem_cons c, ltL]
   by_cases e : a[i] = b[i]
   ·obtain ⟨r, h1, h2⟩ := ih (i + 1) (by omega) (by rw [List.take_add_one, List.take_add_one, ht, List.getElem?_eq_getElem hia, List.getElem?_eq_getElem c, e]) (by omega)
    refine ⟨r, ?_, ?_⟩
    ·simp only [F88_L2] at h1 ⊢
     rw [← h1]
     refine loopO_next ?_
     rw [F88_L2_step, T.run_test, if_pos (decide_eq_true (by omega)), T.run_test, if_pos (decide_eq_true (by omega)), T.run_test, if_pos (decide_eq_true (by omega)), T.run_sub, Int.toNat_natCast, List.getElem?_eq_getElem hia, Option.bind_some, T.run_test, if_pos (decide_eq_true (by omega)), T.run_sub, List.getElem?_eq_getElem c, Option.bind_some, T.run_test, if_neg (by simp [e]), T.run_ret, w1]
    ·rw [if_neg (by omega), if_neg (by omega)]
     exact h2
   ·refine ⟨.inl (decide (a[i] < b[i])), ?_, .inl ⟨_, rfl, ?_⟩⟩
    ·simp only [F88_L2]
     refine loopO_done ?_
     rw [F88_L2_step, T.run_test, if_pos (decide_eq_true (by omega)), T.run_test, if_pos (decide_eq_true (by omega)), T.run_test, if_pos (decide_eq_true (by omega)), T.run_sub, Int.toNat_natCast, List.getElem?_eq_getElem hia, Option.bind_some, T.run_test, if_pos (decide_eq_true (by omega)), T.run_sub, List.getElem?_eq_getElem c, Option.bind_some, T.run_test, if_pos (by simpa using e),
      T.run_test, if_pos (decide_eq_true (by omega)), T.run_sub, Option.bind_some, T.run_test, if_pos (decide_eq_true (by omega)), T.run_sub, Option.bind_some, T.run_ret]
    ·by_cases c2 : a[i] < b[i]
     ·rw [if_pos c2, decide_eq_true c2]
     ·rw [if_neg c2, if_pos (by omega), decide_eq_false c2]
  ·refine ⟨.inr (a, b), ?_, .inr ⟨rfl, ?_⟩⟩
   ·simp only [F88_L2]
    refine loopO_done ?_
    rw [F88_L2_step, T.run_test, if_pos (decide_eq_true (by omega)), T.run_test, if_neg (by rw [decide_eq_true_eq]; omega), T.run_ret]
   ·rw [List.drop_eq_getElem_cons hia, List.drop_eq_nil_of_le (by omega : b.length ≤ i), ltL, decide_eq_false (by omega)]
theorem F88_eq (a b : List Int) (ha : a.length < 1000000) (hb : b.length < 1000000) : F88 (a, b) = some (ltL a b) := by
 obtain ⟨r, h1, h2⟩ := F88_loop a b ha hb a.length 0 (by omega) rfl (by omega)
 rw [Int.natCast_zero] at h1
 rw [F88, F88_t, T.run_sub, h1, Option.bind_some, T.run_test]
 rcases h2 with ⟨v, rfl, hv⟩ | ⟨rfl, hv⟩
 ·rw [if_pos (by simp), T.run_sub]
  simp only [List.drop_zero] at hv
  rw [← hv]; rfl
 ·rw [if_neg (by simp), T.run_sub]
  simp only [List.drop_zero] at hv
  rw [← hv]; rfl
def insF (out : List (List Int)) (q : List Int) : List (List Int) := out.takeWhile (fun p => ltL p q) ++ q :: out.dropWhile (fun p => ltL p q)
theorem insF_perm (out : List (List Int)) (q : List Int) : (insF out q).Perm (q :: out) := by
 unfold insF
 have h := List.perm_middle (a := q) (l₁ := out.takeWhile fun p => ltL p q) (l₂ := out.dropWhile fun p => ltL p q)
 rwa [List.takeWhile_append_dropWhile] at h
theorem insF_up (q : List Int) : ∀ {out : List (List Int)}, (out.Pairwise fun a b => leL a b = true) → (insF out q).Pairwise fun a b => leL a b = true
 | [], _ => by simp [insF]
 | p :: t, h => by
  rw [List.pairwise_cons] at h
  obtain ⟨h1, h2⟩ := h
  cases c : ltL p q with
  | true =>
   have e : insF (p :: t) q = p :: insF t q := by simp [insF, c]
   rw [e, List.pairwise_cons]
   refine ⟨fun b hb => ?_, insF_up q h2⟩
   rcases List.mem_cons.1 ((insF_perm t q).mem_iff.1 hb) with rfl | hb
   ·unfold leL
    cases c2 : ltL b p with
    | false => rfl
    | true => have := ltL_trans c c2; rw [ltL_irr] at this; cases this
   ·exact h1 b hb
  | false =>
   have e : insF (p :: t) q = q :: p :: t := by simp [insF, c]
   have hq : leL q p = true := by unfold leL; rw [c]; rfl
   rw [e, List.pairwise_cons]
   refine ⟨fun b hb => ?_, List.pairwise_cons.2 ⟨h1, h2⟩⟩
   rcases List.mem_cons.1 hb with rfl | hb
   ·exact hq
   ·exact leL_trans hq (h1 b hb)
theorem insF_all : ∀ (l out : List (List Int)), (out.Pairwise fun a b => leL a b = true) → ((l.foldl insF out).Pairwise fun a b => leL a b = true) ∧ (l.foldl insF out).Perm (out ++ l)
 | [], out, h => ⟨h, by simp⟩
 | q :: l, out, h => by
  obtain ⟨h1, h2⟩ := insF_all l (insF out q) (insF_up q h)
  refine ⟨h1, h2.trans ?_⟩
  exact ((insF_perm out q).append_right l).trans (by simpa using (List.perm_middle (a := q) (l₁ := out) (l₂ := l)).symm)
theorem insF_sortL (l : List (List Int)) : l.foldl insF [] = sortL l := by
 obtain ⟨h1, h2⟩ := insF_all l [] (by simp)
 exact sortL_unique h1 (by rwa [List.nil_append] at h2)
theorem insF_len (out : List (List Int)) (q : List Int) : (insF out q).length = out.length + 1 := (insF_perm out q).length_eq
theorem insF_idx {α : Type} (f : α → Bool) : ∀ (l : List α), ∃ k, k ≤ l.length ∧ l.takeWhile f = l.take k ∧ l.dropWhile f = l.drop k ∧ (∀ p (h : p < l.length), p < k → f l[p] = true) ∧ ∀ (h : k < l.length), f l[k] = false
 | [] => ⟨0, by simp, rfl, rfl, fun p h => by simp at h, fun h => by simp at h⟩
 | a :: l => by
  cases c : f a with
  | false => exact ⟨0, by simp, by simp [c], by simp [c], fun p h h2 => by omega, fun h => c⟩
  | true =>
   obtain ⟨k, h1, h2, h3, h4, h5⟩ := insF_idx f l
   refine ⟨k + 1, by simp [h1], by simp [c, h2], by simp [c, h3], fun p h hp => ?_, fun h => ?_⟩
   ·cases p with
    | zero => exact c
    | succ p => exact h4 p (by simpa using h) (by omega)
   ·exact h5 (by simpa using h)
def F73_sh : FSh := ⟨[(.one (.sl (.list true (.int .i64)) false false))], []⟩
def F73_L6_sh : LSh := ⟨(fun ex => match ex with | .norm => [(3, none), (5, none), (6, none), (8, none), (9, none), (10, none)] | .exit i => if i = 2 then [(3, none), (5, none), (6, none), (8, none), (9, none), (10, none)] else if i = 1 then [(3, none), (8, none), (9, none), (10, none)] else if i = 0 then [(3, none)] else [] | .ret => [(2, none)]), [(3, (.one (.rw 0 0))), (5, (.one (.sl (.int .i64) false true))), (6, (.one (.si .i64))), (8, (.one (.sl (.list true (.int .i64)) false false))), (9, (.one (.si .i64))), (10, (.one (.si .i64)))], [(.row 0 (.list true (.int .i64)))], [⟨(.exit 2), [(3, (.one (.rw 0 0))), (5, (.one (.sl (.int .i64) false true))), (6, (.one (.si .i64))), (8, (.one (.sl (.list true (.int .i64)) false false))), (9, (.one (.si .i64))), (10, (.one (.si .i64)))], [(.row 0 (.list true (.int .i64)))]⟩], [], []⟩
noncomputable def F73_L6_step : ((Unit × List (Int) × Int × List (List (Int)) × Int × Int) × List (List (Int))) → T (((Unit × List (Int) × Int × List (List (Int)) × Int × Int) × List (List (Int))) ⊕ ((Unit × List (Int) × Int × List (List (Int)) × Int × Int) × List (List (Int)))) := fun (((), x, k, t8, t9, t10), out) =>
 (.test (decide (k < (out.length : Int)))
 (.test (decide ((0 ≤ k) ∧ (k < (out.length : Int))))
 (.sub (out[(0 + (Int.toNat k))]?) fun z0 =>
 (.sub (F88 (z0, x)) fun z1 =>
 (.test z1
 (.test (decide ((0 = 0) ∧ (out.length = out.length)))
 (.ret (Sum.inl (((), (x, ((w64 (k + 1)), (t8, (t9, t10))))), out)))
 .fail)
 (.test (decide ((0 = 0) ∧ (out.length = out.length)))
 (.ret (Sum.inr (((), (x, (k, (t8, (t9, t10))))), out)))
 .fail))))
 .fail)
 (.test (decide ((0 = 0) ∧ (out.length = out.length)))
 (.ret (Sum.inr (((), (x, (k, (t8, (t9, t10))))), out)))
 .fail))
noncomputable def F73_L6 (v) := loopO (fun v => (F73_L6_step v).run) v
def F73_L3_sh : LSh := ⟨(fun ex => match ex with | .norm => [(3, none), (8, none), (9, none), (10, none)] | .exit i => if i = 0 then [(3, none)] else [] | .ret => [(2, none)]), [(3, (.one (.rw 0 0))), (8, (.one (.sl (.list true (.int .i64)) false false))), (9, (.one (.si .i64))), (10, (.one (.si .i64)))], [(.row 0 (.list true (.int .i64)))], [⟨(.exit 0), [(3, (.one (.rw 0 0)))], [(.row 0 (.list true (.int .i64)))]⟩], [], []⟩
noncomputable def F73_L3_step : ((Unit × List (List (Int)) × Int × Int) × List (List (Int))) → T (((Unit × List (List (Int)) × Int × Int) × List (List (Int))) ⊕ (Unit × List (List (Int)))) := fun (((), t8, t9, t10), out) =>
 (.test (decide (t10 < t9))
 (.test (decide ((0 ≤ t10) ∧ (t10 < (t8.length : Int))))
 (.sub (t8[(Int.toNat t10)]?) fun z0 =>
 (.test (decide ((0 = 0) ∧ (out.length = out.length)))
 (.sub (F73_L6 (((), (z0, ((0 : Int), (t8, (t9, t10))))), out)) fun z1 =>
 (.test (decide (0 ≤ z1.1.2.2.1))
 (.test (decide ((0 ≤ (Int.toNat z1.1.2.2.1)) ∧ ((Int.toNat z1.1.2.2.1) ≤ z1.2.length)))
 (.test (decide ((0 + ((Int.toNat z1.1.2.2.1) - 0)) ≤ z1.2.length))
 (.test true
 (.test (decide ((2 * ((0 + (List.length (win z1.2 0 ((Int.toNat z1.1.2.2.1) - 0)))) * 25)) ≤ 140737488355328))
 (.test (decide (1 ≤ (List.length (List.set (List.replicate 1 ([] : List (Int))) 0 z1.1.2.1))))
 (.test (decide ((0 + (0 + (List.length (win z1.2 0 ((Int.toNat z1.1.2.2.1) - 0))))) ≤ (List.length ((win (List.replicate 0 ([] : List (Int))) 0 0) ++ (win z1.2 0 ((Int.toNat z1.1.2.2.1) - 0))))))
 (.test (decide ((2 * (((0 + (List.length (win z1.2 0 ((Int.toNat z1.1.2.2.1) - 0)))) + (List.length (win (List.set (List.replicate 1 ([] : List (Int))) 0 z1.1.2.1) 0 1))) * 25)) ≤ 140737488355328))
 (.test (decide (0 ≤ z1.1.2.2.1))
 (.test (decide (((Int.toNat z1.1.2.2.1) ≤ z1.2.length) ∧ (z1.2.length ≤ z1.2.length)))
 (.test (decide (((0 + (Int.toNat z1.1.2.2.1)) + (z1.2.length - (Int.toNat z1.1.2.2.1))) ≤ z1.2.length))
 (.test (decide ((0 + ((0 + (List.length (win z1.2 0 ((Int.toNat z1.1.2.2.1) - 0)))) + (List.length (win (List.set (List.replicate 1 ([] : List (Int))) 0 z1.1.2.1) 0 1)))) ≤ (List.length ((win ((win (List.replicate 0 ([] : List (Int))) 0 0) ++ (win z1.2 0 ((Int.toNat z1.1.2.2.1) - 0))) 0 (0 + (List.length (win z1.2 0 ((Int.toNat z1.1.2.2.1) - 0))))) ++ (win (List.set (List.replicate 1 ([] : List (Int))) 0 z1.1.2.1) 0 1)))))
 (.test (decide ((2 * ((((0 + (List.length (win z1.2 0 ((Int.toNat z1.1.2.2.1) - 0)))) + (List.length (win (List.set (List.replicate 1 ([] : List (Int))) 0 z1.1.2.1) 0 1))) + (List.length (win z1.2 (0 + (Int.toNat z1.1.2.2.1)) (z1.2.length - (Int.toNat z1.1.2.2.1))))) * 25)) ≤ 140737488355328))
 (.test (decide ((0 = 0) ∧ ((((0 + (List.length (win z1.2 0 ((Int.toNat z1.1.2.2.1) - 0)))) + (List.length (win (List.set (List.replicate 1 ([] : List (Int))) 0 z1.1.2.1) 0 1))) + (List.length (win z1.2 (0 + (Int.toNat z1.1.2.2.1)) (z1.2.length - (Int.toNat z1.1.2.2.1))))) = (List.length ((win ((win ((win (List.replicate 0 ([] : List (Int))) 0 0) ++ (win z1.2 0 ((Int.toNat z1.1.2.2.1) - 0))) 0 (0 + (List.length (win z1.2 0 ((Int.toNat z1.1.2.2.1) - 0))))) ++ (win (List.set (List.replicate 1 ([] : List (Int))) 0 z1.1.2.1) 0 1)) 0 ((0 + (List.length (win z1.2 0 ((Int.toNat z1.1.2.2.1) - 0)))) + (List.length (win (List.set (List.replicate 1 ([] : List (Int))) 0 z1.1.2.1) 0 1)))) ++ (win z1.2 (0 + (Int.toNat z1.1.2.2.1)) (z1.2.length - (Int.toNat z1.1.2.2.1))))))))
 (.ret (Sum.inl (((), (z1.1.2.2.2.1, (z1.1.2.2.2.2.1, (w64 (z1.1.2.2.2.2.2 + 1))))), ((win ((win ((win (List.replicate 0 ([] : List (Int))) 0 0) ++ (win z1.2 0 ((Int.toNat z1.1.2.2.1) - 0))) 0 (0 + (List.length (win z1.2 0 ((Int.toNat z1.1.2.2.1) - 0))))) ++ (win (List.set (List.replicate 1 ([] : List (Int))) 0 z1.1.2.1) 0 1)) 0 ((0 + (List.length (win z1.2 0 ((Int.toNat z1.1.2.2.1) - 0)))) + (List.length (win (List.set (List.replicate 1 ([] : List (Int))) 0 z1.1.2.1) 0 1)))) ++ (win z1.2 (0 + (Int.toNat z1.1.2.2.1)) (z1.2.length - (Int.toNat z1.1.2.2.1)))))))
 .fail)
 .fail)
 .fail)
 .fail)
 .fail)
 .fail)
 .fail)
 .fail)
 .fail)
 .fail)
 .fail)
 .fail)
 .fail)
 .fail))
 .fail))
 .fail)
 (.test (decide ((0 = 0) ∧ (out.length = out.length)))
 (.ret (Sum.inr ((), out)))
 .fail))
noncomputable def F73_L3 (v) := loopO (fun v => (F73_L3_step v).run) v
def F73_fo : List FO := [⟨[(.one (.rw 0 0))], [(.row 0 (.list true (.int .i64)))]⟩]
noncomputable def F73_t : List (List (Int)) → T (Unit × List (List (Int))) := fun list =>
 (.test true
 (.sub (F73_L3 (((), (list, ((list.length : Int), (0 : Int)))), ([] : List (List Int)))) fun z0 =>
 (.test (decide ((0 = 0) ∧ (z0.2.length = z0.2.length)))
 (.ret ((), z0.2))
 .fail))
 .fail)
noncomputable def F73 (v) := (F73_t v).run
noncomputable def F73_E : TEnv := (E0.add1 n_F88 F88_sh F88_fo F88)
theorem F73_Eok : (F73_E).OK := (E0ok.add1 F88_ok)
noncomputable def F73_told : Nat → Option SealT := fun id => if id = 6 then some (LSh.told F73_L6_sh 0 (F73_L6_step)) else if id = 3 then some (LSh.told F73_L3_sh 0 (F73_L3_step)) else none
theorem F73_L6_ok : ToldOK Tryz.prog 0 (loopAt (bodyOf fn_F73) [0, 0]) (LSh.told F73_L6_sh 0 (F73_L6_step)) :=
 loop_ok (E := F73_E) (F73_Eok) (told := F73_told) (l := F73_L6_sh) (step := F73_L6_step) (loopsOK_of (ls := []) (by kernel_rfl) trivial) (by kernel_rfl) (fun v => by kernel_rfl)
theorem F73_L3_ok : ToldOK Tryz.prog 0 (loopAt (bodyOf fn_F73) [0]) (LSh.told F73_L3_sh 0 (F73_L3_step)) :=
 loop_ok (E := F73_E) (F73_Eok) (told := F73_told) (l := F73_L3_sh) (step := F73_L3_step) (loopsOK_of (ls := [loopAt (bodyOf fn_F73) [0, 0]]) (by kernel_rfl) ⟨.inr ⟨_, by kernel_rfl, F73_L6_ok⟩, trivial⟩) (by kernel_rfl) (fun v => by kernel_rfl)
theorem F73_ok : FOK Tryz.prog n_F73 F73_sh F73_fo F73 :=
 fn_ok (E := F73_E) (F73_Eok) (told := F73_told) (fl := []) (c := bodyOf fn_F73) (s := F73_sh) (l := F73_fo) (tree := F73_t) fnat_F73 (by kernel_rfl) (by kernel_rfl) (by kernel_rfl) (loopsOK_of (ls := [loopAt (bodyOf fn_F73) [0]]) (by kernel_rfl) ⟨.inr ⟨_, by kernel_rfl, F73_L3_ok⟩, trivial⟩) (fun v => by kernel_rfl)
theorem F73_L6_eq (x : List Int) (t8 : List (List Int)) (t9 t10 : Int) (out : List (List Int)) (K : Nat) (hx : x.length < 1000000) (ho : ∀ p ∈ out, p.length < 1000000) (hl : out.length < 1000000)
  (hK : K ≤ out.length) (k4 : ∀ p (h : p < out.length), p < K → ltL out[p] x = true) (k5 : ∀ (h : K < out.length), ltL out[K] x = false) : ∀ (m k : Nat), k + m = out.length → k ≤ K →
  F73_L6 (((), (x, ((k : Int), (t8, (t9, t10))))), out) = some (((), (x, ((K : Int), (t8, (t9, t10))))), out) := by
 intro m
 induction m with
 | zero =>
  intro k hk h2
  have e : K = k := by omega
  rw [e]
  simp only [F73_L6]
  refine loopO_done ?_
  rw [F73_L6_step, T.run_test, if_neg (by rw [decide_eq_true_eq]; omega), T.run_test, if_pos (by simp), T.run_ret]
 | succ m ih =>
  intro k hk h2
  have hlt : k < out.length := by omega
  have w1 : w64 ((k : Int) + 1) = ((k + 1 : Nat) : Int) := by rw [w64_id (by omega) (by omega)]; omega
  by_cases c : k < K
  ·have hp := k4 k hlt c
   have := ih (k + 1) (by omega) (by omega)
   simp only [F73_L6] at this ⊢
   rw [← this]
   refine loopO_next ?_
   rw [F73_L6_step, T.run_test, if_pos (decide_eq_true (by omega)), T.run_test, if_pos (decide_eq_true (by omega)), T.run_sub, Nat.zero_add, Int.toNat_natCast, List.getElem?_eq_getElem hlt, Option.bind_some, T.run_sub, F88_eq _ _ (ho _ (List.getElem_mem hlt)) hx, Option.bind_some, T.run_test, if_pos hp, T.run_test, if_pos (by simp), T.run_ret, w1]
  ·have e : K = k := by omega
   subst e
   have hp := k5 hlt
   simp only [F73_L6]
   refine loopO_done ?_
   rw [F73_L6_step, T.run_test, if_pos (decide_eq_true (by omega)), T.run_test, if_pos (decide_eq_true (by omega)), T.run_sub, Nat.zero_add, Int.toNat_natCast, List.getElem?_eq_getElem hlt, Option.bind_some, T.run_sub, F88_eq _ _ (ho _ (List.getElem_mem hlt)) hx, Option.bind_some, T.run_test, if_neg (by rw [hp]; simp), T.run_test, if_pos (by simp), T.run_ret]
theorem F73_loop (l : List (List Int)) (hl : l.length < 1000) (hx : ∀ p ∈ l, p.length < 1000000) : ∀ (m i : Nat) (out : List (List Int)), i + m = l.length → out.length = i → (∀ p ∈ out, p.length < 1000000) →
  F73_L3 (((), (l, ((l.length : Int), (i : Int)))), out) = some ((), (l.drop i).foldl insF out) := by
 intro m
 induction m with
 | zero =>
  intro i out hi ho hp
  rw [List.drop_eq_nil_of_le (by omega)]
  simp only [F73_L3]
  refine loopO_done ?_
  rw [F73_L3_step, T.run_test, if_neg (by rw [decide_eq_true_eq]; omega), T.run_test, if_pos (by simp), T.run_ret]
  rfl
 | succ m ih =>
  intro i out hi ho hp
  have hlt : i < l.length := by omega
  have w1 : w64 ((i : Int) + 1) = ((i + 1 : Nat) : Int) := by rw [w64_id (by omega) (by omega)]; omega
  have hxi := hx _ (List.getElem_mem hlt)
  have := ih (i + 1) (insF out l[i]) (by omega) (by rw [insF_len]; omega) (fun p hp' => by
   rcases List.mem_cons.1 ((insF_perm _ _).mem_iff.1 hp') with rfl | h
   ·exact hxi
   ·exact hp p h)
  obtain ⟨K, k1, k2, k3, k4, k5⟩ := insF_idx (fun p => ltL p l[i]) out
  have h6 := F73_L6_eq l[i] l (l.length : Int) (i : Int) out K hxi hp (by omega) k1 k4 k5 out.length 0 (by omega) (by omega)
  rw [Int.natCast_zero] at h6
  have et : win out 0 (K - 0) = out.take K := by rw [win_take, Nat.sub_zero]
  have ed : win out K (out.length - K) = out.drop K := by
   unfold win
   rw [List.take_of_length_le (by simp)]
  have lA : (out.take K).length = K := by rw [List.length_take]; omega
  have lB : (out.drop K).length = out.length - K := by rw [List.length_drop]
  have ei : insF out l[i] = (out.take K ++ [l[i]]) ++ out.drop K := by unfold insF; rw [k2, k3]; simp
  rw [List.drop_eq_getElem_cons hlt, List.foldl_cons]
  generalize out.take K = A at *
  generalize out.drop K = B at *
  have hw1 : win A 0 K = A := by have := win_all A; rwa [lA] at this
  have hw2 : win (A ++ [l[i]]) 0 (K + 1) = A ++ [l[i]] := by have := win_all (A ++ [l[i]]); rwa [List.length_append, lA] at this
  have e0 : win (List.replicate 0 ([] : List Int)) 0 0 = [] := rfl
  simp only [F73_L3] at this ⊢
  rw [← this]
  refine loopO_next ?_
  rw [F73_L3_step, T.run_test, if_pos (decide_eq_true (by omega)), T.run_test, if_pos (decide_eq_true (by omega)), T.run_sub, Int.toNat_natCast, List.getElem?_eq_getElem hlt, Option.bind_some, T.run_test, if_pos (by simp), T.run_sub, h6, Option.bind_some]
  simp only [Int.toNat_natCast, Nat.zero_add, et, ed, e0, win_one, List.nil_append, lA, lB, hw1, hw2, List.length_append, List.length_singleton, w1]
  rw [T.run_test, if_pos (decide_eq_true (by omega)), T.run_test, if_pos (decide_eq_true (by omega)), T.run_test, if_pos (decide_eq_true (by omega)), T.run_test, if_pos rfl, T.run_test, if_pos (decide_eq_true (by omega)), T.run_test, if_pos (by simp), T.run_test, if_pos (decide_eq_true (by omega)), T.run_test, if_pos (decide_eq_true (by omega)), T.run_test, if_pos (decide_eq_true (by omega)), T.run_test, if_pos (decide_eq_true (by omega)), T.run_test, if_pos (decide_eq_true (by omega)), T.run_test, if_pos (decide_eq_true (by omega)), T.run_test, if_pos (decide_eq_true (by omega)), T.run_test, if_pos (by simp), T.run_ret, ei]
theorem F73_eq (l : List (List Int)) (hl : l.length < 1000) (hx : ∀ p ∈ l, p.length < 1000000) : F73 l = some ((), sortL l) := by
 have h := F73_loop l hl hx l.length 0 [] (by omega) rfl (by simp)
 rw [Int.natCast_zero, List.drop_zero, insF_sortL] at h
 rw [F73, F73_t, T.run_test, if_pos rfl, T.run_sub, h, Option.bind_some, T.run_test, if_pos (by simp), T.run_ret]
def F74_sh : FSh := ⟨[(.one (.si .i64)), (.one (.sl (.pair (.int .i64) (.int .i64)) false false))], []⟩
def F74_L16_sh : LSh := ⟨(fun ex => match ex with | .norm => [(0, none), (1, none), (5, none), (6, none), (7, none), (8, none), (9, none), (10, none), (11, none), (12, none)] | .exit i => if i = 6 then [(0, none), (1, none), (5, none), (6, none), (7, none), (8, none), (9, none), (11, none)] else if i = 5 then [(0, none), (1, none), (5, none), (6, none), (7, none), (8, none), (9, none), (10, none)] else if i = 4 then [(0, none), (1, none), (5, none), (6, none), (7, none), (8, none), (9, none)] else if i = 3 then [(0, none), (1, none), (5, none), (6, none), (7, none), (8, none)] else if i = 2 then [(0, none), (1, none), (5, none), (6, none), (7, none)] else if i = 1 then [(0, none), (1, none), (5, none), (6, none), (7, none)] else if i = 0 then [(5, none)] else [] | .ret => [(4, none)]), [(0, (.one (.si .i64))), (1, (.one (.sl (.pair (.int .i64) (.int .i64)) false false))), (5, (.one (.rw 0 0))), (6, (.one (.rw 1 0))), (7, (.one (.si .i64))), (8, (.one (.si .i64))), (9, (.one (.rw 2 0))), (10, (.one (.si .i64))), (11, (.one (.si .i64))), (12, (.one (.si .i64)))], [(.row 0 (.list true (.int .i64))), (.row 0 .bool), (.row 0 (.int .i64))], [⟨(.exit 6), [(0, (.one (.si .i64))), (1, (.one (.sl (.pair (.int .i64) (.int .i64)) false false))), (5, (.one (.rw 0 0))), (6, (.one (.rw 1 0))), (7, (.one (.si .i64))), (8, (.one (.si .i64))), (9, (.one (.rw 2 0))), (11, (.one (.si .i64)))], [(.row 0 (.list true (.int .i64))), (.row 0 .bool), (.row 0 (.int .i64))]⟩], [], []⟩
noncomputable def F74_L16_step : ((Int × List ((Int × Int)) × Unit × Unit × Int × Int × Unit × Int × Int × Int) × (List (List (Int)) × List (Bool) × List (Int))) → T (((Int × List ((Int × Int)) × Unit × Unit × Int × Int × Unit × Int × Int × Int) × (List (List (Int)) × List (Bool) × List (Int))) ⊕ ((Int × List ((Int × Int)) × Unit × Unit × Int × Int × Unit × Int) × (List (List (Int)) × List (Bool) × List (Int)))) := fun ((n, ds, (), (), a, b, (), at', next, c), (out, seen, piece)) =>
 (.test (decide (c > at'))
 (.sub (F72 (n, (ds, (at', c)))) fun z0 =>
 (.test z0
 (.test (at' != a)
 (.test (decide ((0 = 0) ∧ (out.length = out.length)))
 (.test (decide ((0 = 0) ∧ (seen.length = seen.length)))
 (.test (decide ((0 = 0) ∧ (piece.length = piece.length)))
 (.ret (Sum.inr ((n, (ds, ((), ((), (a, (b, ((), c))))))), (out, (seen, piece)))))
 .fail)
 .fail)
 .fail)
 (.test (c != b)
 (.test (decide ((0 = 0) ∧ (out.length = out.length)))
 (.test (decide ((0 = 0) ∧ (seen.length = seen.length)))
 (.test (decide ((0 = 0) ∧ (piece.length = piece.length)))
 (.ret (Sum.inr ((n, (ds, ((), ((), (a, (b, ((), c))))))), (out, (seen, piece)))))
 .fail)
 .fail)
 .fail)
 (.test (decide ((0 = 0) ∧ (out.length = out.length)))
 (.test (decide ((0 = 0) ∧ (seen.length = seen.length)))
 (.test (decide ((0 = 0) ∧ (piece.length = piece.length)))
 (.ret (Sum.inl ((n, (ds, ((), ((), (a, (b, ((), (at', (next, (w64 (c - 1))))))))))), (out, (seen, piece)))))
 .fail)
 .fail)
 .fail)))
 (.test (decide ((0 = 0) ∧ (out.length = out.length)))
 (.test (decide ((0 = 0) ∧ (seen.length = seen.length)))
 (.test (decide ((0 = 0) ∧ (piece.length = piece.length)))
 (.ret (Sum.inl ((n, (ds, ((), ((), (a, (b, ((), (at', (next, (w64 (c - 1))))))))))), (out, (seen, piece)))))
 .fail)
 .fail)
 .fail)))
 (.test (decide ((0 = 0) ∧ (out.length = out.length)))
 (.test (decide ((0 = 0) ∧ (seen.length = seen.length)))
 (.test (decide ((0 = 0) ∧ (piece.length = piece.length)))
 (.ret (Sum.inr ((n, (ds, ((), ((), (a, (b, ((), next))))))), (out, (seen, piece)))))
 .fail)
 .fail)
 .fail))
noncomputable def F74_L16 (v) := loopO (fun v => (F74_L16_step v).run) v
def F74_L13_sh : LSh := ⟨(fun ex => match ex with | .norm => [(0, none), (1, none), (5, none), (6, none), (7, none), (8, none), (9, none), (10, none)] | .exit i => if i = 4 then [(0, none), (1, none), (5, none), (6, none), (7, none), (8, none), (9, none)] else if i = 3 then [(0, none), (1, none), (5, none), (6, none), (7, none), (8, none)] else if i = 2 then [(0, none), (1, none), (5, none), (6, none), (7, none)] else if i = 1 then [(0, none), (1, none), (5, none), (6, none), (7, none)] else if i = 0 then [(5, none)] else [] | .ret => [(4, none)]), [(0, (.one (.si .i64))), (1, (.one (.sl (.pair (.int .i64) (.int .i64)) false false))), (5, (.one (.rw 0 0))), (6, (.one (.rw 1 0))), (7, (.one (.si .i64))), (8, (.one (.si .i64))), (9, (.one (.rw 2 0))), (10, (.one (.si .i64)))], [(.row 0 (.list true (.int .i64))), (.row 0 .bool), (.row 0 (.int .i64))], [⟨(.exit 4), [(0, (.one (.si .i64))), (1, (.one (.sl (.pair (.int .i64) (.int .i64)) false false))), (5, (.one (.rw 0 0))), (6, (.one (.rw 1 0))), (7, (.one (.si .i64))), (8, (.one (.si .i64))), (9, (.one (.rw 2 0)))], [(.row 0 (.list true (.int .i64))), (.row 0 .bool), (.row 0 (.int .i64))]⟩], [], []⟩
noncomputable def F74_L13_step : ((Int × List ((Int × Int)) × Unit × Unit × Int × Int × Unit × Int) × (List (List (Int)) × List (Bool) × List (Int))) → T (((Int × List ((Int × Int)) × Unit × Unit × Int × Int × Unit × Int) × (List (List (Int)) × List (Bool) × List (Int))) ⊕ ((Int × List ((Int × Int)) × Unit × Unit × Int × Int × Unit) × (List (List (Int)) × List (Bool) × List (Int)))) := fun ((n, ds, (), (), a, b, (), at'), (out, seen, piece)) =>
 (.test (at' != b)
 (.test (decide ((0 = 0) ∧ (out.length = out.length)))
 (.test (decide ((0 = 0) ∧ (seen.length = seen.length)))
 (.test (decide ((0 = 0) ∧ (piece.length = piece.length)))
 (.sub (F74_L16 ((n, (ds, ((), ((), (a, (b, ((), (at', ((w64 (at' + 1)), b))))))))), (out, (seen, piece)))) fun z0 =>
 (.test (decide (1 ≤ (List.length (List.set (List.replicate 1 (0 : Int)) 0 z0.1.2.2.2.2.2.2.2))))
 (.test (decide ((0 + z0.2.2.2.length) ≤ z0.2.2.2.length))
 (.test (decide ((2 * ((z0.2.2.2.length + (List.length (win (List.set (List.replicate 1 (0 : Int)) 0 z0.1.2.2.2.2.2.2.2) 0 1))) * 9)) ≤ 140737488355328))
 (.test (decide ((0 = 0) ∧ (z0.2.1.length = z0.2.1.length)))
 (.test (decide ((0 = 0) ∧ (z0.2.2.1.length = z0.2.2.1.length)))
 (.test (decide ((0 = 0) ∧ ((z0.2.2.2.length + (List.length (win (List.set (List.replicate 1 (0 : Int)) 0 z0.1.2.2.2.2.2.2.2) 0 1))) = (List.length ((win z0.2.2.2 0 z0.2.2.2.length) ++ (win (List.set (List.replicate 1 (0 : Int)) 0 z0.1.2.2.2.2.2.2.2) 0 1))))))
 (.ret (Sum.inl ((z0.1.1, (z0.1.2.1, ((), ((), (z0.1.2.2.2.2.1, (z0.1.2.2.2.2.2.1, ((), z0.1.2.2.2.2.2.2.2))))))), (z0.2.1, (z0.2.2.1, ((win z0.2.2.2 0 z0.2.2.2.length) ++ (win (List.set (List.replicate 1 (0 : Int)) 0 z0.1.2.2.2.2.2.2.2) 0 1)))))))
 .fail)
 .fail)
 .fail)
 .fail)
 .fail)
 .fail))
 .fail)
 .fail)
 .fail)
 (.test (decide ((0 = 0) ∧ (out.length = out.length)))
 (.test (decide ((0 = 0) ∧ (seen.length = seen.length)))
 (.test (decide ((0 = 0) ∧ (piece.length = piece.length)))
 (.ret (Sum.inr ((n, (ds, ((), ((), (a, (b, ())))))), (out, (seen, piece)))))
 .fail)
 .fail)
 .fail))
noncomputable def F74_L13 (v) := loopO (fun v => (F74_L13_step v).run) v
def F74_L7_sh : LSh := ⟨(fun ex => match ex with | .norm => [(0, none), (1, none), (5, none), (6, none), (7, none), (8, none)] | .exit i => if i = 2 then [(0, none), (1, none), (5, none), (6, none), (7, none)] else if i = 1 then [(0, none), (1, none), (5, none), (6, none), (7, none)] else if i = 0 then [(5, none)] else [] | .ret => [(4, none)]), [(0, (.one (.si .i64))), (1, (.one (.sl (.pair (.int .i64) (.int .i64)) false false))), (5, (.one (.rw 0 0))), (6, (.one (.rw 1 0))), (7, (.one (.si .i64))), (8, (.one (.si .i64)))], [(.row 0 (.list true (.int .i64))), (.row 0 .bool)], [⟨(.exit 2), [(0, (.one (.si .i64))), (1, (.one (.sl (.pair (.int .i64) (.int .i64)) false false))), (5, (.one (.rw 0 0))), (6, (.one (.rw 1 0))), (7, (.one (.si .i64)))], [(.row 0 (.list true (.int .i64))), (.row 0 .bool)]⟩], [], []⟩
noncomputable def F74_L7_step : ((Int × List ((Int × Int)) × Unit × Unit × Int × Int) × (List (List (Int)) × List (Bool))) → T (((Int × List ((Int × Int)) × Unit × Unit × Int × Int) × (List (List (Int)) × List (Bool))) ⊕ ((Int × List ((Int × Int)) × Unit × Unit × Int) × (List (List (Int)) × List (Bool)))) := fun ((n, ds, (), (), a, b), (out, seen)) =>
 (.test (decide (b < n))
 (.sub (F72 (n, (ds, (a, b)))) fun z0 =>
 (.test (! z0)
 (.test (decide ((0 = 0) ∧ (out.length = out.length)))
 (.test (decide ((0 = 0) ∧ (seen.length = seen.length)))
 (.ret (Sum.inl ((n, (ds, ((), ((), (a, (w64 (b + 1))))))), (out, seen))))
 .fail)
 .fail)
 (.test ((w64 (b - a)) == 1)
 (.test (decide ((0 = 0) ∧ (out.length = out.length)))
 (.test (decide ((0 = 0) ∧ (seen.length = seen.length)))
 (.ret (Sum.inl ((n, (ds, ((), ((), (a, (w64 (b + 1))))))), (out, seen))))
 .fail)
 .fail)
 (.test (decide ((0 ≤ (w64 ((w64 (a * n)) + b))) ∧ ((w64 ((w64 (a * n)) + b)) < (seen.length : Int))))
 (.sub (seen[(0 + (Int.toNat (w64 ((w64 (a * n)) + b))))]?) fun z1 =>
 (.test z1
 (.test (decide ((0 = 0) ∧ (out.length = out.length)))
 (.test (decide ((0 = 0) ∧ (seen.length = seen.length)))
 (.ret (Sum.inl ((n, (ds, ((), ((), (a, (w64 (b + 1))))))), (out, seen))))
 .fail)
 .fail)
 (.test (decide ((0 ≤ (w64 ((w64 (a * n)) + b))) ∧ ((w64 ((w64 (a * n)) + b)) < (seen.length : Int))))
 (.sub (seen[(0 + (Int.toNat (w64 ((w64 (a * n)) + b))))]?) fun z2 =>
 (.test (decide ((0 = 0) ∧ (out.length = out.length)))
 (.test (decide ((0 = 0) ∧ (seen.length = (List.length (List.set seen (0 + (Int.toNat (w64 ((w64 (a * n)) + b)))) true)))))
 (.test (decide ((0 = 0) ∧ (1 = (List.length (List.set (List.replicate 1 (0 : Int)) 0 a)))))
 (.sub (F74_L13 ((n, (ds, ((), ((), (a, (b, ((), a))))))), (out, ((List.set seen (0 + (Int.toNat (w64 ((w64 (a * n)) + b)))) true), (List.set (List.replicate 1 (0 : Int)) 0 a))))) fun z3 =>
 (.test (decide ((0 + z3.2.2.2.length) ≤ z3.2.2.2.length))
 (.test (decide (1 ≤ (List.length (List.set (List.replicate 1 ([] : List (Int))) 0 (win z3.2.2.2 0 z3.2.2.2.length)))))
 (.test (decide ((0 + z3.2.1.length) ≤ z3.2.1.length))
 (.test (decide ((2 * ((z3.2.1.length + (List.length (win (List.set (List.replicate 1 ([] : List (Int))) 0 (win z3.2.2.2 0 z3.2.2.2.length)) 0 1))) * 25)) ≤ 140737488355328))
 (.test (decide ((0 = 0) ∧ ((z3.2.1.length + (List.length (win (List.set (List.replicate 1 ([] : List (Int))) 0 (win z3.2.2.2 0 z3.2.2.2.length)) 0 1))) = (List.length ((win z3.2.1 0 z3.2.1.length) ++ (win (List.set (List.replicate 1 ([] : List (Int))) 0 (win z3.2.2.2 0 z3.2.2.2.length)) 0 1))))))
 (.test (decide ((0 = 0) ∧ (z3.2.2.1.length = z3.2.2.1.length)))
 (.ret (Sum.inl ((z3.1.1, (z3.1.2.1, ((), ((), (z3.1.2.2.2.2.1, (w64 (z3.1.2.2.2.2.2.1 + 1))))))), (((win z3.2.1 0 z3.2.1.length) ++ (win (List.set (List.replicate 1 ([] : List (Int))) 0 (win z3.2.2.2 0 z3.2.2.2.length)) 0 1)), z3.2.2.1))))
 .fail)
 .fail)
 .fail)
 .fail)
 .fail)
 .fail))
 .fail)
 .fail)
 .fail))
 .fail)))
 .fail))))
 (.test (decide ((0 = 0) ∧ (out.length = out.length)))
 (.test (decide ((0 = 0) ∧ (seen.length = seen.length)))
 (.ret (Sum.inr ((n, (ds, ((), ((), a)))), (out, seen))))
 .fail)
 .fail))
noncomputable def F74_L7 (v) := loopO (fun v => (F74_L7_step v).run) v
def F74_L4_sh : LSh := ⟨(fun ex => match ex with | .norm => [(0, none), (1, none), (5, none), (6, none), (7, none)] | .exit i => if i = 0 then [(5, none)] else [] | .ret => [(4, none)]), [(0, (.one (.si .i64))), (1, (.one (.sl (.pair (.int .i64) (.int .i64)) false false))), (5, (.one (.rw 0 0))), (6, (.one (.rw 1 0))), (7, (.one (.si .i64)))], [(.row 0 (.list true (.int .i64))), (.row 0 .bool)], [⟨(.exit 0), [(5, (.one (.rw 0 0)))], [(.row 0 (.list true (.int .i64)))]⟩], [], []⟩
noncomputable def F74_L4_step : ((Int × List ((Int × Int)) × Unit × Unit × Int) × (List (List (Int)) × List (Bool))) → T (((Int × List ((Int × Int)) × Unit × Unit × Int) × (List (List (Int)) × List (Bool))) ⊕ (Unit × List (List (Int)))) := fun ((n, ds, (), (), a), (out, seen)) =>
 (.test (decide (a < n))
 (.test (decide ((0 = 0) ∧ (out.length = out.length)))
 (.test (decide ((0 = 0) ∧ (seen.length = seen.length)))
 (.sub (F74_L7 ((n, (ds, ((), ((), (a, (w64 (a + 1))))))), (out, seen))) fun z0 =>
 (.test (decide ((0 = 0) ∧ (z0.2.1.length = z0.2.1.length)))
 (.test (decide ((0 = 0) ∧ (z0.2.2.length = z0.2.2.length)))
 (.ret (Sum.inl ((z0.1.1, (z0.1.2.1, ((), ((), (w64 (z0.1.2.2.2.2 + 1)))))), (z0.2.1, z0.2.2))))
 .fail)
 .fail))
 .fail)
 .fail)
 (.test (decide ((0 = 0) ∧ (out.length = out.length)))
 (.ret (Sum.inr ((), out)))
 .fail))
noncomputable def F74_L4 (v) := loopO (fun v => (F74_L4_step v).run) v
def F74_fo : List FO := [⟨[(.one (.rw 0 0))], [(.row 0 (.list true (.int .i64)))]⟩]
noncomputable def F74_t : (Int × List ((Int × Int))) → T (Unit × List (List (Int))) := fun (n, ds) =>
 (.test (decide ((0 ≤ (w64 (n * n))) ∧ (((w64 (n * n)) ≤ (w64 (n * n))) ∧ (((Int.toNat (w64 (n * n))) * 2) ≤ 140737488355328))))
 (.test (decide ((0 = 0) ∧ (0 = (List.length ([] : List (List Int))))))
 (.test (decide ((0 = 0) ∧ ((Int.toNat (w64 (n * n))) = (List.length (List.replicate (Int.toNat (w64 (n * n))) false)))))
 (.sub (F74_L4 ((n, (ds, ((), ((), (0 : Int))))), (([] : List (List Int)), (List.replicate (Int.toNat (w64 (n * n))) false)))) fun z0 =>
 (.test (decide ((0 + z0.2.length) ≤ z0.2.length))
 (.sub (F73 (win z0.2 0 z0.2.length)) fun z1 =>
 (.test (decide ((0 = 0) ∧ (z1.2.length = z1.2.length)))
 (.ret ((), z1.2))
 .fail))
 .fail))
 .fail)
 .fail)
 .fail)
noncomputable def F74 (v) := (F74_t v).run
noncomputable def F74_E : TEnv := ((E0.add1 n_F72 F72_sh F72_fo F72).add1 n_F73 F73_sh F73_fo F73)
theorem F74_Eok : (F74_E).OK := ((E0ok.add1 F72_ok).add1 F73_ok)
noncomputable def F74_told : Nat → Option SealT := fun id => if id = 16 then some (LSh.told F74_L16_sh 0 (F74_L16_step)) else if id = 13 then some (LSh.told F74_L13_sh 0 (F74_L13_step)) else if id = 7 then some (LSh.told F74_L7_sh 0 (F74_L7_step)) else if id = 4 then some (LSh.told F74_L4_sh 0 (F74_L4_step)) else none
theorem F74_L16_ok : ToldOK Tryz.prog 0 (loopAt (bodyOf fn_F74) [0, 0, 0, 0]) (LSh.told F74_L16_sh 0 (F74_L16_step)) :=
 loop_ok (E := F74_E) (F74_Eok) (told := F74_told) (l := F74_L16_sh) (step := F74_L16_step) (loopsOK_of (ls := []) (by kernel_rfl) trivial) (by kernel_rfl) (fun v => by kernel_rfl)
theorem F74_L13_ok : ToldOK Tryz.prog 0 (loopAt (bodyOf fn_F74) [0, 0, 0]) (LSh.told F74_L13_sh 0 (F74_L13_step)) :=
 loop_ok (E := F74_E) (F74_Eok) (told := F74_told) (l := F74_L13_sh) (step := F74_L13_step) (loopsOK_of (ls := [loopAt (bodyOf fn_F74) [0, 0, 0, 0]]) (by kernel_rfl) ⟨.inr ⟨_, by kernel_rfl, F74_L16_ok⟩, trivial⟩) (by kernel_rfl) (fun v => by kernel_rfl)
theorem F74_L7_ok : ToldOK Tryz.prog 0 (loopAt (bodyOf fn_F74) [0, 0]) (LSh.told F74_L7_sh 0 (F74_L7_step)) :=
 loop_ok (E := F74_E) (F74_Eok) (told := F74_told) (l := F74_L7_sh) (step := F74_L7_step) (loopsOK_of (ls := [loopAt (bodyOf fn_F74) [0, 0, 0]]) (by kernel_rfl) ⟨.inr ⟨_, by kernel_rfl, F74_L13_ok⟩, trivial⟩) (by kernel_rfl) (fun v => by kernel_rfl)
theorem F74_L4_ok : ToldOK Tryz.prog 0 (loopAt (bodyOf fn_F74) [0]) (LSh.told F74_L4_sh 0 (F74_L4_step)) :=
 loop_ok (E := F74_E) (F74_Eok) (told := F74_told) (l := F74_L4_sh) (step := F74_L4_step) (loopsOK_of (ls := [loopAt (bodyOf fn_F74) [0, 0]]) (by kernel_rfl) ⟨.inr ⟨_, by kernel_rfl, F74_L7_ok⟩, trivial⟩) (by kernel_rfl) (fun v => by kernel_rfl)
theorem F74_ok : FOK Tryz.prog n_F74 F74_sh F74_fo F74 :=
 fn_ok (E := F74_E) (F74_Eok) (told := F74_told) (fl := []) (c := bodyOf fn_F74) (s := F74_sh) (l := F74_fo) (tree := F74_t) fnat_F74 (by kernel_rfl) (by kernel_rfl) (by kernel_rfl) (loopsOK_of (ls := [loopAt (bodyOf fn_F74) [0]]) (by kernel_rfl) ⟨.inr ⟨_, by kernel_rfl, F74_L4_ok⟩, trivial⟩) (fun v => by kernel_rfl)
theorem F74_L16_eq {N : Nat} {ds : List Dg} (hN : N ≤ 12) (hl : ds.length < 1000000) {a b i c : Int} (ha : 0 ≤ a ∧ a ≤ 12) (hb : 0 ≤ b ∧ b ≤ 12) (h0 : 0 ≤ i) (h1 : i < c) (h2 : c ≤ b) (hj : joinD N ds i c = true) (hne : (i, c) ≠ (a, b))
  (hm : ∀ c', c < c' → c' ≤ b → (i, c') ≠ (a, b) → joinD N ds i c' = false) (next : Int) (out : List (List Int)) (seen : List Bool) (piece : List Int) : ∀ (m : Nat) (t : Int), t = c + (m : Int) → t ≤ b →
  F74_L16 (((N : Int), (ds, ((), ((), (a, (b, ((), (i, (next, t))))))))), (out, (seen, piece))) = some (((N : Int), (ds, ((), ((), (a, (b, ((), c))))))), (out, (seen, piece))) := by
 intro m
 induction m with
 | zero =>
  intro t ht htb
  have e : t = c := by omega
  subst e
  have hjo := F72_eq N ds i t hN (by omega) (by omega) hl
  simp only [F74_L16]
  refine loopO_done ?_
  rw [F74_L16_step, T.run_test, if_pos (decide_eq_true (by omega)), T.run_sub, hjo, Option.bind_some, T.run_test, if_pos hj, T.run_test]
  by_cases c1 : i = a
  ·have c2 : t ≠ b := fun e => hne (by rw [c1, e])
   rw [if_neg (by simp [c1]), T.run_test, if_pos (by simpa using c2), T.run_test, if_pos (by simp), T.run_test, if_pos (by simp), T.run_test, if_pos (by simp), T.run_ret]
  ·rw [if_pos (by simpa using c1), T.run_test, if_pos (by simp), T.run_test, if_pos (by simp), T.run_test, if_pos (by simp), T.run_ret]
 | succ m ih =>
  intro t ht htb
  have w1 : w64 (t - 1) = t - 1 := w64_id (by omega) (by omega)
  have := ih (t - 1) (by omega) (by omega)
  have hjo := F72_eq N ds i t hN (by omega) (by omega) hl
  simp only [F74_L16] at this ⊢
  rw [← this]
  refine loopO_next ?_
  rw [F74_L16_step, T.run_test, if_pos (decide_eq_true (by omega)), T.run_sub, hjo, Option.bind_some, T.run_test, w1]
  by_cases c1 : (i, t) = (a, b)
  ·simp only [Prod.mk.injEq] at c1
   obtain ⟨rfl, rfl⟩ := c1
   cases joinD N ds i t with
   | false => rw [if_neg (by simp), T.run_test, if_pos (by simp), T.run_test, if_pos (by simp), T.run_test, if_pos (by simp), T.run_ret]
   | true => rw [if_pos rfl, T.run_test, if_neg (by simp), T.run_test, if_neg (by simp), T.run_test, if_pos (by simp), T.run_test, if_pos (by simp), T.run_test, if_pos (by simp), T.run_ret]
  ·rw [hm t (by omega) htb c1, if_neg (by simp), T.run_test, if_pos (by simp), T.run_test, if_pos (by simp), T.run_test, if_pos (by simp), T.run_ret]
theorem F74_L13_eq {N : Nat} {ds : List Dg} (h3 : 3 ≤ N) (hN : N ≤ 12) (hl : ds.length < 1000000) (hc : CutD N ds) {a b : Int} (hk : (a, b) ∈ wholeD N :: ds) (out : List (List Int)) (seen : List Bool) : ∀ (m : Nat) (i : Int) (piece : List Int), b - i ≤ (m : Int) → i ∈ pcs N ds (a, b) → piece.length ≤ 20 - m →  m ≤ 20 →
  F74_L13 (((N : Int), (ds, ((), ((), (a, (b, ((), i))))))), (out, (seen, piece))) = some (((N : Int), (ds, ((), ((), (a, (b, ()))))) ), (out, (seen, piece ++ (pcs N ds (a, b)).filter fun v => decide (i < v)))) := by
 have hlow := key_low hc h3 hk
 simp only at hlow
 have stop : ∀ (i : Int) (piece : List Int), i = b → F74_L13 (((N : Int), (ds, ((), ((), (a, (b, ((), i))))))), (out, (seen, piece))) = some (((N : Int), (ds, ((), ((), (a, (b, ()))))) ), (out, (seen, piece ++ (pcs N ds (a, b)).filter fun v => decide (i < v)))) := by
  intro i piece e
  subst e
  have hlast := pcs_last N ds (a, i)
  simp only at hlast
  rw [hlast, List.append_nil]
  simp only [F74_L13]
  refine loopO_done ?_
  rw [F74_L13_step, T.run_test, if_neg (by simp), T.run_test, if_pos (by simp), T.run_test, if_pos (by simp), T.run_test, if_pos (by simp), T.run_ret]
 intro m
 induction m with
 | zero =>
  intro i piece hm hi hp h20
  have := (pcs_mem.1 hi).2.1
  simp only at this
  exact stop i piece (by omega)
 | succ m ih =>
  intro i piece hm hi hp h20
  have hib := (pcs_mem.1 hi).2.1
  simp only at hib
  by_cases e : i = b
  ·exact stop i piece e
  ·obtain ⟨c, c1, c2, c3, c4, c5⟩ := next_exists (n := N) (ds := ds) (k := (a, b)) (i := i) (by simp only; omega) (by simp only; omega)
   simp only at c2
   obtain ⟨g1, g2⟩ := next_corner hc h3 hk hi c1 c2 c3 c4 c5
   have w1 : w64 (i + 1) = i + 1 := w64_id (by omega) (by omega)
   have h16 := F74_L16_eq hN hl (a := a) (b := b) (by omega) (by omega) (by omega) c1 c2 c3 c4 c5 (i + 1) out seen piece (b - c).toNat b (by omega) (Int.le_refl _)
   have := ih c (piece ++ [c]) (by omega) g1 (by rw [List.length_append, List.length_singleton]; omega) (by omega)
   rw [after_corner c1 g1 g2]
   rw [List.append_assoc] at this
   simp only [F74_L13] at this ⊢
   show _ = some (((N : Int), (ds, ((), ((), (a, (b, ()))))) ), (out, (seen, piece ++ ([c] ++ (pcs N ds (a, b)).filter fun v => decide (c < v)))))
   rw [← this]
   refine loopO_next ?_
   rw [F74_L13_step, T.run_test, if_pos (by simpa using e), T.run_test, if_pos (by simp), T.run_test, if_pos (by simp), T.run_test, if_pos (by simp), T.run_sub, w1, h16, Option.bind_some]
   simp only [win_one, win_all]
   rw [T.run_test, if_pos (by simp), T.run_test, if_pos (by simp), T.run_test, if_pos (by exact decide_eq_true (by rw [List.length_singleton]; omega)), T.run_test, if_pos (by simp), T.run_test, if_pos (by simp), T.run_test, if_pos (by simp), T.run_ret]
def SeenOK (N a b : Nat) (seen : List Bool) : Prop := seen.length = N * N ∧ ∀ x y : Nat, x < N → y < N → (a < x ∨ a = x ∧ b ≤ y) → seen[x * N + y]? = some false
theorem seen_idx {N x y : Nat} (hx : x < N) (hy : y < N) : x * N + y < N * N := by
 have := Nat.mul_le_mul_right N (show x + 1 ≤ N from hx)
 rw [Nat.add_mul, Nat.one_mul] at this
 omega
theorem SeenOK.mono {N a b a' b' : Nat} {seen : List Bool} (h : SeenOK N a b seen) (hh : a < a' ∨ a = a' ∧ b ≤ b') : SeenOK N a' b' seen := ⟨h.1, fun x y hx hy hxy => h.2 x y hx hy (by omega)⟩
theorem SeenOK.put {N a b : Nat} {seen : List Bool} (h : SeenOK N a b seen) (hb : b < N) : SeenOK N a (b + 1) (seen.set (a * N + b) true) := by
 refine ⟨by rw [List.length_set]; exact h.1, fun x y hx hy hxy => ?_⟩
 rw [List.getElem?_set_ne]
 ·exact h.2 x y hx hy (by omega)
 ·rcases hxy with g | ⟨rfl, g⟩
  ·have := Nat.mul_le_mul_right N (show a + 1 ≤ x from g)
   rw [Nat.add_mul, Nat.one_mul] at this
   omega
  ·omega
def keysAt (N : Nat) (ds : List Dg) (a b : Nat) : List Dg := (((List.range N).drop b).filter fun b => decide (a + 1 < b) && joinD N ds (a : Int) (b : Int)).map fun (b : Nat) => ((a : Int), (b : Int))
theorem drop_range {N b : Nat} (h : b < N) : (List.range N).drop b = b :: (List.range N).drop (b + 1) := by
 rw [List.drop_eq_getElem_cons (by simpa using h), List.getElem_range]
theorem F74_L7_eq {N : Nat} {ds : List Dg} (h3 : 3 ≤ N) (hN : N ≤ 12) (hl : ds.length < 1000000) (hc : CutD N ds) (a : Nat) (ha : a < N) : ∀ (m b : Nat) (out : List (List Int)) (seen : List Bool), b + m = N → a < b → out.length ≤ a * N + b → SeenOK N a b seen →
  ∃ seen', F74_L7 (((N : Int), (ds, ((), ((), ((a : Int), (b : Int)))))), (out, seen)) = some (((N : Int), (ds, ((), ((), (a : Int))))), (out ++ (keysAt N ds a b).map (pcs N ds), seen')) ∧ SeenOK N (a + 1) 0 seen' ∧ (out ++ (keysAt N ds a b).map (pcs N ds)).length ≤ a * N + N := by
 have haN : a * N ≤ 144 := by have := Nat.mul_le_mul (show a ≤ 12 by omega) hN; omega
 intro m
 induction m with
 | zero =>
  intro b out seen hb hab ho hs
  refine ⟨seen, ?_, hs.mono (by omega), ?_⟩
  ·have e : keysAt N ds a b = [] := by unfold keysAt; rw [List.drop_eq_nil_of_le (by simp; omega)]; rfl
   rw [e]
   simp only [F74_L7]
   refine loopO_done ?_
   rw [F74_L7_step, T.run_test, if_neg (by rw [decide_eq_true_eq]; omega), T.run_test, if_pos (by simp), T.run_test, if_pos (by simp), T.run_ret]
   simp
  ·have e : keysAt N ds a b = [] := by unfold keysAt; rw [List.drop_eq_nil_of_le (by simp; omega)]; rfl
   rw [e]
   simp
   omega
 | succ m ih =>
  intro b out seen hb hab ho hs
  have hbN : b < N := by omega
  have w1 : w64 ((b : Int) + 1) = ((b + 1 : Nat) : Int) := by rw [w64_id (by omega) (by omega)]; omega
  have w2 : w64 ((b : Int) - (a : Int)) = (b : Int) - (a : Int) := w64_id (by omega) (by omega)
  have hjo := F72_eq N ds (a : Int) (b : Int) hN (by omega) (by omega) hl
  have ek : keysAt N ds a b = (if a + 1 < b ∧ joinD N ds (a : Int) (b : Int) = true then [((a : Int), (b : Int))] else []) ++ keysAt N ds a (b + 1) := by
   unfold keysAt
   rw [drop_range hbN, List.filter_cons]
   by_cases c : a + 1 < b ∧ joinD N ds (a : Int) (b : Int) = true
   ·rw [if_pos c, if_pos (by simp [c.1, c.2])]; rfl
   ·rw [if_neg c, if_neg (by simpa using c)]; rfl
  have skip : ¬ (a + 1 < b ∧ joinD N ds (a : Int) (b : Int) = true) → (F74_L7_step (((N : Int), (ds, ((), ((), ((a : Int), (b : Int)))))), (out, seen))).run = some (.inl (((N : Int), (ds, ((), ((), ((a : Int), ((b + 1 : Nat) : Int)))))), (out, seen))) := by
   intro c
   rw [F74_L7_step, T.run_test, if_pos (decide_eq_true (by omega)), T.run_sub, hjo, Option.bind_some, T.run_test, w1]
   cases hj : joinD N ds (a : Int) (b : Int) with
   | false => rw [if_pos (by simp), T.run_test, if_pos (by simp), T.run_test, if_pos (by simp), T.run_ret]
   | true =>
    have : ¬ (a + 1 < b) := fun h => c ⟨h, hj⟩
    rw [if_neg (by simp), T.run_test, w2, if_pos (by simp; omega), T.run_test, if_pos (by simp), T.run_test, if_pos (by simp), T.run_ret]
  by_cases c : a + 1 < b ∧ joinD N ds (a : Int) (b : Int) = true
  ·obtain ⟨c1, hj⟩ := c
   have hk : ((a : Int), (b : Int)) ∈ wholeD N :: ds := by
    rcases joinD_iff.1 hj with g | g | g
    ·omega
    ·exact List.mem_cons.2 (.inl (Prod.ext (by simp only [wholeD]; omega) (by simp only [wholeD]; omega)))
    ·exact List.mem_cons.2 (.inr g)
   have hends := (key_ends hc h3 hk).1
   have hw : w64 (w64 ((a : Int) * (N : Int)) + (b : Int)) = ((a * N + b : Nat) : Int) := by
    rw [← Int.natCast_mul, w64_id (z := ((a * N : Nat) : Int)) (by omega) (by omega), w64_id (by omega) (by omega)]; omega
   have hidx := seen_idx ha hbN
   have hsl := hs.1
   have hg := hs.2 a b ha hbN (by omega)
   have h13 := F74_L13_eq h3 hN hl hc hk out (seen.set (a * N + b) true) 12 (a : Int) [(a : Int)] (by omega) hends (by simp) (by omega)
   have hfirst := pcs_first hc h3 hk
   simp only at hfirst
   rw [show [(a : Int)] ++ (pcs N ds ((a : Int), (b : Int))).filter (fun v => decide ((a : Int) < v)) = pcs N ds ((a : Int), (b : Int)) from hfirst.symm] at h13
   obtain ⟨seen', e1, e2, e3⟩ := ih (b + 1) (out ++ [pcs N ds ((a : Int), (b : Int))]) (seen.set (a * N + b) true) (by omega) (by omega) (by simp; omega) (hs.put hbN)
   refine ⟨seen', ?_, e2, ?_⟩
   ·rw [ek, if_pos ⟨c1, hj⟩, List.map_append, ← List.append_assoc]
    simp only [F74_L7] at e1 ⊢
    rw [show List.map (pcs N ds) [((a : Int), (b : Int))] = [pcs N ds ((a : Int), (b : Int))] from rfl, ← e1]
    refine loopO_next ?_
    rw [F74_L7_step, T.run_test, if_pos (decide_eq_true (by omega)), T.run_sub, hjo, Option.bind_some, T.run_test, hj, if_neg (by simp), T.run_test, w2, if_neg (by simp; omega), T.run_test, hw, if_pos (decide_eq_true (by omega)), T.run_sub, Nat.zero_add, Int.toNat_natCast, hg, Option.bind_some, T.run_test, if_neg (by simp), T.run_test, if_pos (decide_eq_true (by omega)), T.run_sub, Option.bind_some, T.run_test, if_pos (by simp), T.run_test, if_pos (by simp), T.run_test, if_pos (by simp), T.run_sub,
     show (List.replicate 1 (0 : Int)).set 0 (a : Int) = [(a : Int)] from rfl, h13, Option.bind_some]
    simp only [win_one, win_all, w1]
    rw [T.run_test, if_pos (by simp), T.run_test, if_pos (by simp), T.run_test, if_pos (by simp), T.run_test, if_pos (by exact decide_eq_true (by rw [List.length_singleton]; omega)), T.run_test, if_pos (by simp), T.run_test, if_pos (by simp), T.run_ret]
   ·rw [ek, if_pos ⟨c1, hj⟩, List.map_append, ← List.append_assoc]
    exact e3
  ·obtain ⟨seen', e1, e2, e3⟩ := ih (b + 1) out seen (by omega) (by omega) (by omega) (hs.mono (by omega))
   refine ⟨seen', ?_, e2, ?_⟩
   ·rw [ek, if_neg c, List.nil_append]
    simp only [F74_L7] at e1 ⊢
    rw [← e1]
    exact loopO_next (skip c)
   ·rw [ek, if_neg c, List.nil_append]
    exact e3
theorem keysAt_eq (N : Nat) (ds : List Dg) (a : Nat) : keysAt N ds a (a + 1) = keysOf N ds a := by
 have h : ((List.range N).take (a + 1)).filter (fun b => decide (a + 1 < b) && joinD N ds (a : Int) (b : Int)) = [] := by
  rw [List.filter_eq_nil_iff]
  intro x hx
  obtain ⟨i, hi, e⟩ := List.mem_take_iff_getElem.1 hx
  rw [List.getElem_range] at e
  simp; omega
 have h2 := congrArg (List.filter (fun b => decide (a + 1 < b) && joinD N ds (a : Int) (b : Int))) (List.take_append_drop (a + 1) (List.range N))
 rw [List.filter_append, h, List.nil_append] at h2
 unfold keysAt keysOf
 rw [h2]
theorem F74_L4_eq {N : Nat} {ds : List Dg} (h3 : 3 ≤ N) (hN : N ≤ 12) (hl : ds.length < 1000000) (hc : CutD N ds) : ∀ (m a : Nat) (out : List (List Int)) (seen : List Bool), a + m = N → out.length ≤ a * N → SeenOK N a 0 seen →
  F74_L4 (((N : Int), (ds, ((), ((), (a : Int))))), (out, seen)) = some ((), out ++ (((List.range N).drop a).flatMap (keysOf N ds)).map (pcs N ds)) := by
 intro m
 induction m with
 | zero =>
  intro a out seen ha ho hs
  rw [List.drop_eq_nil_of_le (by simp; omega)]
  simp only [F74_L4]
  refine loopO_done ?_
  rw [F74_L4_step, T.run_test, if_neg (by rw [decide_eq_true_eq]; omega), T.run_test, if_pos (by simp), T.run_ret]
  simp
 | succ m ih =>
  intro a out seen ha ho hs
  have haN : a < N := by omega
  have w1 : w64 ((a : Int) + 1) = ((a + 1 : Nat) : Int) := by rw [w64_id (by omega) (by omega)]; omega
  obtain ⟨seen', e1, e2, e3⟩ := F74_L7_eq h3 hN hl hc a haN (N - (a + 1)) (a + 1) out seen (by omega) (by omega) (by omega) (hs.mono (by omega))
  rw [keysAt_eq] at e1 e3
  have := ih (a + 1) _ seen' (by omega) (by rw [Nat.add_mul, Nat.one_mul]; exact e3) e2
  rw [drop_range haN, List.flatMap_cons, List.map_append, ← List.append_assoc]
  simp only [F74_L4] at this ⊢
  rw [← this]
  refine loopO_next ?_
  rw [F74_L4_step, T.run_test, if_pos (decide_eq_true (by omega)), T.run_test, if_pos (by simp), T.run_test, if_pos (by simp), T.run_sub, w1, e1, Option.bind_some, T.run_test, if_pos (by simp), T.run_test, if_pos (by simp), T.run_ret, w1]
theorem specP_len {n : Nat} {ds : List Dg} (h : CutD n ds) (hn : 3 ≤ n) : (specP n ds).length = ds.length + 1 := by
 have := (specP_perm h hn).length_eq
 simpa using this
theorem F74_eq {N : Nat} {ds : List Dg} (h3 : 3 ≤ N) (hN : N ≤ 12) (hl : ds.length ≤ 12) (hc : CutD N ds) : F74 ((N : Int), ds) = some ((), sortL (specP N ds)) := by
 have hNN : N * N ≤ 144 := by have := Nat.mul_le_mul hN hN; omega
 have hw : w64 ((N : Int) * (N : Int)) = ((N * N : Nat) : Int) := by rw [← Int.natCast_mul, w64_id (by omega) (by omega)]
 have h4 := F74_L4_eq h3 hN (by omega) hc N 0 [] (List.replicate (N * N) false) (by omega) (by simp) ⟨by simp, fun x y hx hy _ => by rw [List.getElem?_replicate, if_pos (seen_idx hx hy)]⟩
 rw [List.drop_zero, List.nil_append, Int.natCast_zero] at h4
 change _ = some ((), specP N ds) at h4
 have hsl := specP_len hc h3
 have hs := F73_eq (specP N ds) (by omega) fun p hp => by
  obtain ⟨k, hk, rfl⟩ := List.mem_map.1 ((specP_perm hc h3).mem_iff.1 hp)
  have := pcs_len hc h3 hk
  omega
 rw [F74, F74_t, T.run_test, hw, if_pos (decide_eq_true (by omega)), T.run_test, if_pos (by simp), T.run_test, if_pos (by simp), T.run_sub, Int.toNat_natCast, h4, Option.bind_some, T.run_test, if_pos (by simp), T.run_sub, win_all, hs, Option.bind_some, T.run_test, if_pos (by simp), T.run_ret]
def F105_sh : FSh := ⟨[(.one (.si .i64)), (.one (.sl (.pair (.int .i64) (.int .i64)) false false))], []⟩
def F105_L3_sh : LSh := ⟨(fun ex => match ex with | .norm => [(5, none), (11, none), (12, none), (13, none)] | .exit i => if i = 0 then [(5, none)] else [] | .ret => [(4, none)]), [(5, (.one (.rw 0 0))), (11, (.one (.rw 1 0))), (12, (.one (.si .i64))), (13, (.one (.si .i64)))], [(.row 0 (.int .i64)), (.row 0 (.list true (.int .i64)))], [⟨(.exit 0), [(5, (.one (.rw 0 0)))], [(.row 0 (.int .i64))]⟩], [], []⟩
noncomputable def F105_L3_step : ((Unit × Unit × Int × Int) × (List (Int) × List (List (Int)))) → T (((Unit × Unit × Int × Int) × (List (Int) × List (List (Int)))) ⊕ (Unit × List (Int))) := fun (((), (), t12, t13), (out, t11)) =>
 (.test (decide (t13 < t12))
 (.test (decide ((0 ≤ t13) ∧ (t13 < (t11.length : Int))))
 (.sub (t11[(0 + (Int.toNat t13))]?) fun z0 =>
 (.test (decide (1 ≤ (List.length (List.set (List.replicate 1 (0 : Int)) 0 (z0.length : Int)))))
 (.test (decide ((0 + out.length) ≤ out.length))
 (.test (decide ((2 * ((out.length + (List.length (win (List.set (List.replicate 1 (0 : Int)) 0 (z0.length : Int)) 0 1))) * 9)) ≤ 140737488355328))
 (.test (decide ((0 = 0) ∧ ((out.length + (List.length (win (List.set (List.replicate 1 (0 : Int)) 0 (z0.length : Int)) 0 1))) = (List.length ((win out 0 out.length) ++ (win (List.set (List.replicate 1 (0 : Int)) 0 (z0.length : Int)) 0 1))))))
 (.test (decide ((0 = 0) ∧ (t11.length = t11.length)))
 (.ret (Sum.inl (((), ((), (t12, (w64 (t13 + 1))))), (((win out 0 out.length) ++ (win (List.set (List.replicate 1 (0 : Int)) 0 (z0.length : Int)) 0 1)), t11))))
 .fail)
 .fail)
 .fail)
 .fail)
 .fail))
 .fail)
 (.test (decide ((0 = 0) ∧ (out.length = out.length)))
 (.ret (Sum.inr ((), out)))
 .fail))
noncomputable def F105_L3 (v) := loopO (fun v => (F105_L3_step v).run) v
def F105_fo : List FO := [⟨[(.one (.rw 0 0))], [(.row 0 (.int .i64))]⟩]
noncomputable def F105_t : (Int × List ((Int × Int))) → T (Unit × List (Int)) := fun (n, ds) =>
 (.sub (F87 (n, ds)) fun z0 =>
 (.test (decide ((0 = 0) ∧ (0 = (List.length (List.replicate 0 (0 : Int))))))
 (.test (decide ((0 = 0) ∧ (z0.2.length = z0.2.length)))
 (.sub (F105_L3 (((), ((), ((z0.2.length : Int), (0 : Int)))), ((List.replicate 0 (0 : Int)), z0.2))) fun z1 =>
 (.test (decide ((0 = 0) ∧ (z1.2.length = z1.2.length)))
 (.sub (F44 ((), z1.2)) fun z2 =>
 (.test (decide ((0 = 0) ∧ (z1.2.length = z2.2.length)))
 (.ret ((), z2.2))
 .fail))
 .fail))
 .fail)
 .fail))
noncomputable def F105 (v) := (F105_t v).run
noncomputable def F105_E : TEnv := ((E0.add1 n_F87 F87_sh F87_fo F87).add1 n_F44 F44_sh F44_fo F44)
theorem F105_Eok : (F105_E).OK := ((E0ok.add1 F87_ok).add1 F44_ok)
noncomputable def F105_told : Nat → Option SealT := fun id => if id = 3 then some (LSh.told F105_L3_sh 0 (F105_L3_step)) else none
theorem F105_L3_ok : ToldOK Tryz.prog 0 (loopAt (bodyOf fn_F105) [0]) (LSh.told F105_L3_sh 0 (F105_L3_step)) :=
 loop_ok (E := F105_E) (F105_Eok) (told := F105_told) (l := F105_L3_sh) (step := F105_L3_step) (loopsOK_of (ls := []) (by kernel_rfl) trivial) (by kernel_rfl) (fun v => by kernel_rfl)
theorem F105_ok : FOK Tryz.prog n_F105 F105_sh F105_fo F105 :=
 fn_ok (E := F105_E) (F105_Eok) (told := F105_told) (fl := []) (c := bodyOf fn_F105) (s := F105_sh) (l := F105_fo) (tree := F105_t) fnat_F105 (by kernel_rfl) (by kernel_rfl) (by kernel_rfl) (loopsOK_of (ls := [loopAt (bodyOf fn_F105) [0]]) (by kernel_rfl) ⟨.inr ⟨_, by kernel_rfl, F105_L3_ok⟩, trivial⟩) (fun v => by kernel_rfl)
def szL (N : Nat) (ds : List Dg) : List Int := (sortL (specP N ds)).map fun p => (p.length : Int)
theorem szL_mem {N : Nat} {ds : List Dg} (hc : CutD N ds) (h3 : 3 ≤ N) {s : Int} (h : s ∈ szL N ds) : 3 ≤ s ∧ s ≤ (N : Int) := by
 obtain ⟨p, hp, rfl⟩ := List.mem_map.1 h
 obtain ⟨k, hk, rfl⟩ := List.mem_map.1 (((sortL_perm _).trans (specP_perm hc h3)).mem_iff.1 hp)
 have := pcs_len hc h3 hk
 omega
theorem sortP_len {N : Nat} {ds : List Dg} (hc : CutD N ds) (h3 : 3 ≤ N) : (sortL (specP N ds)).length = ds.length + 1 := by
 rw [(sortL_perm _).length_eq, specP_len hc h3]
theorem szL_len {N : Nat} {ds : List Dg} (hc : CutD N ds) (h3 : 3 ≤ N) : (szL N ds).length = ds.length + 1 := by
 unfold szL; rw [List.length_map, sortP_len hc h3]
theorem F105_L3_eq (t11 : List (List Int)) (hl : t11.length ≤ 20) (hb : ∀ p ∈ t11, p.length ≤ 100) : ∀ (m k : Nat) (out : List Int), k + m = t11.length → out.length = k →
  F105_L3 (((), ((), ((t11.length : Int), (k : Int)))), (out, t11)) = some ((), out ++ (t11.drop k).map fun p => (p.length : Int)) := by
 intro m
 induction m with
 | zero =>
  intro k out hk ho
  rw [List.drop_eq_nil_of_le (by omega)]
  simp only [F105_L3]
  refine loopO_done ?_
  rw [F105_L3_step, T.run_test, if_neg (by rw [decide_eq_true_eq]; omega), T.run_test, if_pos (by simp), T.run_ret]
  simp
 | succ m ih =>
  intro k out hk ho
  have hlt : k < t11.length := by omega
  have w1 : w64 ((k : Int) + 1) = ((k + 1 : Nat) : Int) := by rw [w64_id (by omega) (by omega)]; omega
  have := ih (k + 1) (out ++ [(t11[k].length : Int)]) (by omega) (by rw [List.length_append, List.length_singleton]; omega)
  rw [List.drop_eq_getElem_cons hlt, List.map_cons, List.append_cons]
  simp only [F105_L3] at this ⊢
  rw [← this]
  refine loopO_next ?_
  rw [F105_L3_step, T.run_test, if_pos (decide_eq_true (by omega)), T.run_test, if_pos (decide_eq_true (by omega)), T.run_sub, Nat.zero_add, Int.toNat_natCast, List.getElem?_eq_getElem hlt, Option.bind_some]
  simp only [win_one, win_all]
  rw [T.run_test, if_pos (by simp), T.run_test, if_pos (by simp), T.run_test, if_pos (by exact decide_eq_true (by rw [List.length_singleton]; omega)), T.run_test, if_pos (by simp), T.run_test, if_pos (by simp), T.run_ret, w1]
theorem F105_eq {N : Nat} {ds : List Dg} (h3 : 3 ≤ N) (hN : N ≤ 12) (hl : ds.length + 3 ≤ N) (hc : CutD N ds) : F105 ((N : Int), ds) = some ((), sortI (szL N ds)) := by
 have hp := F87_eq h3 hN (by omega) hc
 have hlen := sortP_len hc h3
 have hL := F105_L3_eq (sortL (specP N ds)) (by omega) (fun p hp => by
  have := szL_mem hc h3 (s := (p.length : Int)) (List.mem_map_of_mem hp)
  omega) (sortL (specP N ds)).length 0 [] (by omega) rfl
 rw [Int.natCast_zero, List.drop_zero, List.nil_append] at hL
 change _ = some ((), szL N ds) at hL
 have hs := F44_eq (szL N ds) (by rw [szL_len hc h3]; omega)
 rw [F105, F105_t, T.run_sub, hp, Option.bind_some, T.run_test, if_pos (by simp), T.run_test, if_pos (by simp), T.run_sub, show List.replicate 0 (0 : Int) = [] from rfl, hL, Option.bind_some, T.run_test, if_pos (by simp), T.run_sub, hs, Option.bind_some, T.run_test, if_pos (by exact decide_eq_true ⟨rfl, (sortI_perm _).length_eq.symm⟩), T.run_ret]
theorem len_split {p : List Int} (hs : p.Pairwise (· < ·)) {a b : Int} (ha : a ∈ p) (hb : b ∈ p) (hab : a < b) : (p.filter fun v => decide (v ≤ a ∨ b ≤ v)).length + (p.filter fun v => decide (a ≤ v ∧ v ≤ b)).length = p.length + 2 := by
 obtain ⟨A, R, rfl⟩ := List.append_of_mem ha
 obtain ⟨hA, hR, hAR⟩ := List.pairwise_append.1 hs
 have hbR : b ∈ R := by
  rcases List.mem_append.1 hb with h | h
  ·have := hAR b h a (by simp); omega
  ·rcases List.mem_cons.1 h with h | h
   ·omega
   ·exact h
 obtain ⟨B, C, rfl⟩ := List.append_of_mem hbR
 have hR' := List.pairwise_cons.1 hR
 obtain ⟨hB, hC, hBC⟩ := List.pairwise_append.1 hR'.2
 have hC' := List.pairwise_cons.1 hC
 have a1 : ∀ x ∈ A, x < a := fun x hx => hAR x hx a (by simp)
 have b1 : ∀ x ∈ B, a < x ∧ x < b := fun x hx => ⟨hR'.1 x (by simp [hx]), hBC x hx b (by simp)⟩
 have c1 : ∀ x ∈ C, b < x := fun x hx => hC'.1 x hx
 have fA1 : (A.filter fun v => decide (v ≤ a ∨ b ≤ v)) = A := List.filter_eq_self.2 fun x hx => by have := a1 x hx; simp; omega
 have fA2 : (A.filter fun v => decide (a ≤ v ∧ v ≤ b)) = [] := List.filter_eq_nil_iff.2 fun x hx => by have := a1 x hx; simp; omega
 have fB1 : (B.filter fun v => decide (v ≤ a ∨ b ≤ v)) = [] := List.filter_eq_nil_iff.2 fun x hx => by have := b1 x hx; simp; omega
 have fB2 : (B.filter fun v => decide (a ≤ v ∧ v ≤ b)) = B := List.filter_eq_self.2 fun x hx => by have := b1 x hx; simp; omega
 have fC1 : (C.filter fun v => decide (v ≤ a ∨ b ≤ v)) = C := List.filter_eq_self.2 fun x hx => by have := c1 x hx; simp; omega
 have fC2 : (C.filter fun v => decide (a ≤ v ∧ v ≤ b)) = [] := List.filter_eq_nil_iff.2 fun x hx => by have := c1 x hx; simp; omega
 simp only [List.filter_append, List.filter_cons, fA1, fA2, fB1, fB2, fC1, fC2, List.length_append]
 rw [if_pos (by simp), if_pos (by simp), if_pos (by simp; omega), if_pos (by simp; omega)]
 simp only [List.length_cons, List.length_append, List.length_nil]
 omega
theorem implP_snoc (n : Nat) (ds : List Dg) (d : Dg) : implP n (ds ++ [d]) = splitD d (implP n ds) := by simp [implP, List.foldl_append]
theorem implP_sum (n : Nat) (hn : 3 ≤ n) : ∀ (m : Nat) (ds : List Dg), ds.length = m → CutD n ds → ((implP n ds).map List.length).sum = n + 2 * ds.length
 | 0, ds, hm, _ => by
  obtain rfl := List.eq_nil_of_length_eq_zero hm
  simp [implP, nameL_length]
 | m + 1, ds, hm, h => by
  rcases List.eq_nil_or_concat ds with rfl | ⟨es, d, rfl⟩
  ·simp at hm
  ·rw [List.concat_eq_append] at h hm ⊢
   have hes := h.front
   have ih := implP_sum n hn m es (by simpa using hm) hes
   obtain ⟨k, hk⟩ := more_exists h
   have hp := implP_perm n hn es hes
   have hmem : pcs n es k ∈ implP n es := hp.mem_iff.2 (List.mem_map_of_mem hk.key)
   obtain ⟨l, p, r, e1, e2, e3, e4⟩ := splitD_at d (implP n es) ⟨_, hmem, hk.lo, hk.hi⟩
   have hpm : p ∈ implP n es := by rw [e1]; simp
   obtain ⟨k', _, hk'⟩ := List.mem_map.1 (hp.mem_iff.1 hpm)
   have hsort : p.Pairwise (· < ·) := by rw [← hk']; exact pcs_sorted _ _ _
   have hd := h.1 d (by simp)
   have hl := len_split hsort e2 e3 (by omega)
   rw [implP_snoc, e4]
   rw [e1] at ih
   simp only [List.map_append, List.map_cons, List.map_nil, List.sum_append, List.sum_cons, List.sum_nil, List.length_append, List.length_cons, List.length_nil] at ih ⊢
   omega
theorem szL_sum {n : Nat} {ds : List Dg} (h : CutD n ds) (hn : 3 ≤ n) : (szL n ds).sum = (n : Int) + 2 * (ds.length : Int) := by
 have h1 := implP_sum n hn ds.length ds rfl h
 have hp : (sortL (specP n ds)).Perm (implP n ds) := (sortL_perm _).trans (pieces_same hn h).symm
 have cast : ∀ l : List (List Int), (l.map fun p => (p.length : Int)).sum = ((l.map List.length).sum : Nat) := by
  intro l
  induction l with
  | nil => rfl
  | cons a t ih => rw [List.map_cons, List.map_cons, List.sum_cons, List.sum_cons, ih]; omega
 unfold szL
 rw [cast, (hp.map List.length).sum_nat, h1]
 omega
theorem catV_cases : ∀ s : Int, 3 ≤ s → s ≤ 12 → 1 ≤ catV s ∧ catV s ≤ 4 ^ (s - 2).toNat ∧ (catV s = 1 ↔ s = 3) := by
 have : ∀ k : Nat, k ≤ 9 → 1 ≤ catV ((k : Int) + 3) ∧ catV ((k : Int) + 3) ≤ 4 ^ ((k : Int) + 3 - 2).toNat ∧ (catV ((k : Int) + 3) = 1 ↔ (k : Int) + 3 = 3) := by decide +kernel
 intro s h1 h2
 have h := this (s - 3).toNat (by omega)
 rwa [show (((s - 3).toNat : Nat) : Int) + 3 = s by omega] at h
theorem prodW : ∀ (l : List Int) (o : Int), 1 ≤ o → (∀ s ∈ l, 3 ≤ s ∧ s ≤ 12) → o * 4 ^ ((l.map fun s => (s - 2).toNat).sum) ≤ 1099511627776 →
  ∃ c, 1 ≤ c ∧ (c = 1 ↔ ∀ s ∈ l, s = 3) ∧ l.foldl (fun o s => w64 (o * catV s)) o = o * c
 | [], o, ho, _, _ => ⟨1, by omega, by simp, by simp⟩
 | s :: t, o, ho, hl, hb => by
  obtain ⟨c1, c2, c3⟩ := catV_cases s (hl s (by simp)).1 (hl s (by simp)).2
  rw [List.map_cons, List.sum_cons, Int.pow_add, ← Int.mul_assoc] at hb
  have hp : (1 : Int) ≤ 4 ^ ((t.map fun s => (s - 2).toNat).sum) := by
   have : (0 : Int) < 4 ^ ((t.map fun s => (s - 2).toNat).sum) := Int.pow_pos (by omega)
   omega
  have h1 : o * catV s ≤ o * 4 ^ (s - 2).toNat := Int.mul_le_mul_of_nonneg_left c2 (by omega)
  have h0 : 1 ≤ o * catV s := by
   have : 1 * 1 ≤ o * catV s := Int.mul_le_mul ho c1 (by omega) (by omega)
   omega
  have h2 : o * catV s * 4 ^ ((t.map fun s => (s - 2).toNat).sum) ≤ o * 4 ^ (s - 2).toNat * 4 ^ ((t.map fun s => (s - 2).toNat).sum) := Int.mul_le_mul_of_nonneg_right h1 (by omega)
  have h3 : o * catV s * 1 ≤ o * catV s * 4 ^ ((t.map fun s => (s - 2).toNat).sum) := Int.mul_le_mul_of_nonneg_left hp (by omega)
  have hw : w64 (o * catV s) = o * catV s := w64_id (by omega) (by omega)
  obtain ⟨c, d1, d2, d3⟩ := prodW t (o * catV s) h0 (fun x hx => hl x (by simp [hx])) (by omega)
  refine ⟨catV s * c, ?_, ?_, ?_⟩
  ·have : 1 * 1 ≤ catV s * c := Int.mul_le_mul c1 d1 (by omega) (by omega)
   omega
  ·constructor
   ·intro e x hx
    have hs1 : catV s = 1 := by
     rcases (by omega : catV s = 1 ∨ 2 ≤ catV s) with h | h
     ·exact h
     ·have : 2 * 1 ≤ catV s * c := Int.mul_le_mul h d1 (by omega) (by omega)
      omega
    rw [hs1, Int.one_mul] at e
    rcases List.mem_cons.1 hx with rfl | hx
    ·exact c3.1 hs1
    ·exact d2.1 e x hx
   ·intro e
    rw [c3.2 (e s (by simp)), d2.2 fun x hx => e x (by simp [hx])]
    rfl
  ·rw [List.foldl_cons, hw, d3, Int.mul_assoc]
theorem isTri_isCut (n : Int) (ds : List Dg) : isTri n ds = (isCut n ds && decide ((ds.length : Int) = n - 3)) := by
 unfold isTri isCut
 by_cases h : (ds.length : Int) = n - 3
 ·rw [decide_eq_true h, decide_eq_true (by omega : (ds.length : Int) ≤ n - 3)]
  simp
 ·rw [decide_eq_false h]
  simp
theorem finer_one {n : Int} {ds : List Dg} (h : isCut n ds = true) : (szL n.toNat ds).foldl (fun o s => w64 (o * catV s)) 1 = 1 ↔ isTri n ds = true := by
 obtain ⟨k, rfl, h3, h12, hl, hc⟩ := isCut_cut h
 rw [Int.toNat_natCast]
 have hsum := szL_sum hc h3
 have hlen := szL_len hc h3
 have hb : ∀ s ∈ szL k ds, 3 ≤ s ∧ s ≤ 12 := fun s hs => by have := szL_mem hc h3 hs; omega
 have sums : ∀ l : List Int, (∀ s ∈ l, 3 ≤ s ∧ s ≤ 12) → (((l.map fun s => (s - 2).toNat).sum : Nat) : Int) = l.sum - 2 * (l.length : Int) ∧ 3 * (l.length : Int) ≤ l.sum ∧ (l.sum = 3 * (l.length : Int) ↔ ∀ s ∈ l, s = 3) := by
  intro l
  induction l with
  | nil => intro _; simp
  | cons a t ih =>
   intro hb
   obtain ⟨i1, i2, i3⟩ := ih fun s hs => hb s (by simp [hs])
   have ha := hb a (by simp)
   simp only [List.map_cons, List.sum_cons, List.length_cons]
   refine ⟨by omega, by omega, ?_⟩
   constructor
   ·intro e x hx
    rcases List.mem_cons.1 hx with rfl | hx
    ·omega
    ·exact i3.1 (by omega) x hx
   ·intro e
    have e1 := e a (by simp)
    have e2 := i3.2 fun s hs => e s (by simp [hs])
    omega
 obtain ⟨s1, s2, s3⟩ := sums _ hb
 have hexp : ((szL k ds).map fun s => (s - 2).toNat).sum ≤ 10 := by omega
 have hpow : (4 : Int) ^ (((szL k ds).map fun s => (s - 2).toNat).sum) ≤ 4 ^ 10 := by
  have : (4 : Nat) ^ (((szL k ds).map fun s => (s - 2).toNat).sum) ≤ 4 ^ 10 := Nat.pow_le_pow_right (by omega) hexp
  have h2 := Int.ofNat_le.2 this
  simpa using h2
 obtain ⟨c, c1, c2, c3⟩ := prodW (szL k ds) 1 (by omega) hb (by
  have : (4 : Int) ^ 10 = 1048576 := by decide
  omega)
 rw [c3, Int.one_mul, c2, ← s3, isTri_isCut, h, Bool.true_and, decide_eq_true_eq]
 omega
def F34_sh : FSh := ⟨[(.one (.sl (.int .u8) false true))], []⟩
def F34_fo : List FO := [⟨[(.one (.si .i64))], []⟩]
noncomputable def F34_t : List (Int) → T Int := fun code =>
 (.sub (F11 code) fun z0 =>
 (.ret z0))
noncomputable def F34 (v) := (F34_t v).run
noncomputable def F34_E : TEnv := (E0.add1 n_F11 F11_sh F11_fo F11)
theorem F34_Eok : (F34_E).OK := (E0ok.add1 F11_ok)
noncomputable def F34_told : Nat → Option SealT := fun id => none
theorem F34_ok : FOK Tryz.prog n_F34 F34_sh F34_fo F34 :=
 fn_ok (E := F34_E) (F34_Eok) (told := F34_told) (fl := []) (c := bodyOf fn_F34) (s := F34_sh) (l := F34_fo) (tree := F34_t) fnat_F34 (by kernel_rfl) (by kernel_rfl) (by kernel_rfl) (loopsOK_of (ls := []) (by kernel_rfl) trivial) (fun v => by kernel_rfl)
theorem F34_some {code : List Int} (h : bytesOK code) : ∃ n, F34 code = some n := by
 obtain ⟨y, g, e5, _, _⟩ := among_ok [3, 4, 5, 6, 7, 8, 12, 2, 13, 0, -1] (cur0 h) (by omega) (by simp)
 rw [F34, F34_t, T.run_sub, F11, F11_t, T.run_test, if_pos rfl, T.run_sub, e5, Option.bind_some, T.run_ret, Option.bind_some, T.run_ret]
 exact ⟨_, rfl⟩
def F90_sh : FSh := ⟨[(.one (.si .i64)), (.one (.si .i64)), (.one (.si .i64))], []⟩
def F90_fo : List FO := [⟨[(.one .sb)], []⟩]
noncomputable def F90_t : (Int × Int × Int) → T Bool := fun (n, low, high) =>
 (.test (decide (n ≥ low))
 (.ret (decide (n ≤ high)))
 (.ret false))
noncomputable def F90 (v) := (F90_t v).run
noncomputable def F90_E : TEnv := E0
theorem F90_Eok : (F90_E).OK := E0ok
noncomputable def F90_told : Nat → Option SealT := fun id => none
theorem F90_ok : FOK Tryz.prog n_F90 F90_sh F90_fo F90 :=
 fn_ok (E := F90_E) (F90_Eok) (told := F90_told) (fl := []) (c := bodyOf fn_F90) (s := F90_sh) (l := F90_fo) (tree := F90_t) fnat_F90 (by kernel_rfl) (by kernel_rfl) (by kernel_rfl) (loopsOK_of (ls := []) (by kernel_rfl) trivial) (fun v => by kernel_rfl)
theorem F90_eq (n low high : Int) : F90 (n, low, high) = some (inB low high n) := by
 simp only [F90, F90_t, T.run, ge_iff_le, decide_eq_true_eq, inB]
 by_cases h : low ≤ n <;> simp [h]
def F66_sh : FSh := ⟨[(.one (.si .i64))], []⟩
def F66_fo : List FO := [⟨[(.one .sb)], []⟩]
noncomputable def F66_t : Int → T Bool := fun n =>
 (.sub (F90 (n, ((3 : Int), (12 : Int)))) fun z0 =>
 (.ret z0))
noncomputable def F66 (v) := (F66_t v).run
noncomputable def F66_E : TEnv := (E0.add1 n_F90 F90_sh F90_fo F90)
theorem F66_Eok : (F66_E).OK := (E0ok.add1 F90_ok)
noncomputable def F66_told : Nat → Option SealT := fun id => none
theorem F66_ok : FOK Tryz.prog n_F66 F66_sh F66_fo F66 :=
 fn_ok (E := F66_E) (F66_Eok) (told := F66_told) (fl := []) (c := bodyOf fn_F66) (s := F66_sh) (l := F66_fo) (tree := F66_t) fnat_F66 (by kernel_rfl) (by kernel_rfl) (by kernel_rfl) (loopsOK_of (ls := []) (by kernel_rfl) trivial) (fun v => by kernel_rfl)
def F91_sh : FSh := ⟨[(.one (.si .i64)), (.one (.si .i64))], []⟩
def F91_L5_sh : LSh := ⟨(fun ex => match ex with | .norm => [(0, none), (5, none), (11, none), (12, none)] | .exit i => if i = 0 then [(5, none)] else [] | .ret => [(4, none)]), [(0, (.one (.si .i64))), (5, (.one (.si .i64))), (11, (.one (.si .i64))), (12, (.one (.si .i64)))], [], [⟨(.exit 0), [(5, (.one (.si .i64)))], []⟩], [], []⟩
noncomputable def F91_L5_step : (Int × Int × Int × Int) → T ((Int × Int × Int × Int) ⊕ Int) := fun (n, out, t11, t12) =>
 (.test (decide (t12 < t11))
 (.test (decide ((w64 (t12 + 1)) ≠ 0))
 (.ret (Sum.inl (n, ((w64 (Int.tdiv (w64 (out * (w64 (n - t12)))) (w64 (t12 + 1)))), (t11, (w64 (t12 + 1)))))))
 .fail)
 (.ret (Sum.inr out)))
noncomputable def F91_L5 (v) := loopO (fun v => (F91_L5_step v).run) v
def F91_fo : List FO := [⟨[(.one (.si .i64))], []⟩]
noncomputable def F91_t : (Int × Int) → T Int := fun (n, k) =>
 (.sub (F90 (k, ((0 : Int), n))) fun z0 =>
 (.test (! z0)
 (.ret (0 : Int))
 (.sub (F91_L5 (n, ((1 : Int), (k, (0 : Int))))) fun z1 =>
 (.ret z1))))
noncomputable def F91 (v) := (F91_t v).run
noncomputable def F91_E : TEnv := (E0.add1 n_F90 F90_sh F90_fo F90)
theorem F91_Eok : (F91_E).OK := (E0ok.add1 F90_ok)
noncomputable def F91_told : Nat → Option SealT := fun id => if id = 5 then some (LSh.told F91_L5_sh 0 (F91_L5_step)) else none
theorem F91_L5_ok : ToldOK Tryz.prog 0 (loopAt (bodyOf fn_F91) [0]) (LSh.told F91_L5_sh 0 (F91_L5_step)) :=
 loop_ok (E := F91_E) (F91_Eok) (told := F91_told) (l := F91_L5_sh) (step := F91_L5_step) (loopsOK_of (ls := []) (by kernel_rfl) trivial) (by kernel_rfl) (fun v => by kernel_rfl)
theorem F91_ok : FOK Tryz.prog n_F91 F91_sh F91_fo F91 :=
 fn_ok (E := F91_E) (F91_Eok) (told := F91_told) (fl := []) (c := bodyOf fn_F91) (s := F91_sh) (l := F91_fo) (tree := F91_t) fnat_F91 (by kernel_rfl) (by kernel_rfl) (by kernel_rfl) (loopsOK_of (ls := [loopAt (bodyOf fn_F91) [0]]) (by kernel_rfl) ⟨.inr ⟨_, by kernel_rfl, F91_L5_ok⟩, trivial⟩) (fun v => by kernel_rfl)
theorem F91_L5_eq (n k : Int) (hk : k ≤ 1000) : ∀ (m i : Nat) (out : Int), (i : Int) + (m : Int) = k → F91_L5 (n, (out, (k, (i : Int)))) = some (chA n m i out) := by
 intro m
 induction m with
 | zero =>
  intro i out h
  simp only [F91_L5]
  refine loopO_done ?_
  rw [F91_L5_step, T.run_test, if_neg (by rw [decide_eq_true_eq]; omega), T.run_ret]
  rfl
 | succ m ih =>
  intro i out h
  have w1 : w64 ((i : Int) + 1) = ((i + 1 : Nat) : Int) := by rw [w64_id (by omega) (by omega)]; omega
  have := ih (i + 1) (w64 (Int.tdiv (w64 (out * (w64 (n - (i : Int))))) ((i + 1 : Nat) : Int))) (by omega)
  simp only [F91_L5] at this ⊢
  rw [chA, ← this]
  refine loopO_next ?_
  rw [F91_L5_step, T.run_test, if_pos (decide_eq_true (by omega)), T.run_test, w1, if_pos (by exact decide_eq_true (by omega)), T.run_ret]
def F79_sh : FSh := ⟨[(.one (.si .i64))], []⟩
def F79_fo : List FO := [⟨[(.one (.si .i64))], []⟩]
noncomputable def F79_t : Int → T Int := fun n =>
 (.sub (F91 ((w64 ((w64 (2 * n)) - 4)), (w64 (n - 2)))) fun z0 =>
 (.test (decide ((w64 (n - 1)) ≠ 0))
 (.ret (w64 (Int.tdiv z0 (w64 (n - 1)))))
 .fail))
noncomputable def F79 (v) := (F79_t v).run
noncomputable def F79_E : TEnv := (E0.add1 n_F91 F91_sh F91_fo F91)
theorem F79_Eok : (F79_E).OK := (E0ok.add1 F91_ok)
noncomputable def F79_told : Nat → Option SealT := fun id => none
theorem F79_ok : FOK Tryz.prog n_F79 F79_sh F79_fo F79 :=
 fn_ok (E := F79_E) (F79_Eok) (told := F79_told) (fl := []) (c := bodyOf fn_F79) (s := F79_sh) (l := F79_fo) (tree := F79_t) fnat_F79 (by kernel_rfl) (by kernel_rfl) (by kernel_rfl) (loopsOK_of (ls := []) (by kernel_rfl) trivial) (fun v => by kernel_rfl)
theorem F79_eq (s : Int) (h1 : 3 ≤ s) (h2 : s ≤ 12) : F79 s = some (catV s) := by
 have e1 : w64 (w64 (2 * s) - 4) = 2 * s - 4 := by rw [w64_id (z := 2 * s) (by omega) (by omega), w64_id (by omega) (by omega)]
 have e2 : w64 (s - 2) = s - 2 := w64_id (by omega) (by omega)
 have e3 : w64 (s - 1) = s - 1 := w64_id (by omega) (by omega)
 have hc := F91_L5_eq (2 * s - 4) (s - 2) (by omega) (s - 2).toNat 0 1 (by omega)
 rw [Int.natCast_zero] at hc
 rw [F79, F79_t, T.run_sub, e1, e2, e3, F91, F91_t, T.run_sub, F90_eq, Option.bind_some, T.run_test, if_neg (by rw [inB_iff.2 (by omega)]; simp), T.run_sub, hc, Option.bind_some, T.run_ret, Option.bind_some, T.run_test, if_pos (by exact decide_eq_true (by omega)), T.run_ret]
 rfl
def F75_sh : FSh := ⟨[(.one (.si .i64)), (.one (.si .i64))], []⟩
def F75_L5_sh : LSh := ⟨(fun ex => match ex with | .norm => [(0, none), (1, none), (5, none), (6, none)] | .exit i => if i = 0 then [(5, none)] else [] | .ret => [(4, none)]), [(0, (.one (.si .i64))), (1, (.one (.si .i64))), (5, (.one (.si .i64))), (6, (.one (.si .i64)))], [], [⟨(.exit 0), [(5, (.one (.si .i64)))], []⟩], [], []⟩
noncomputable def F75_L5_step : (Int × Int × Int × Int) → T ((Int × Int × Int × Int) ⊕ Int) := fun (n, k, out, i) =>
 (.test (decide (i ≤ k))
 (.test (decide (i ≠ 0))
 (.ret (Sum.inl (n, (k, ((w64 (Int.tdiv (w64 (out * (w64 ((w64 (n - k)) + i)))) i)), (w64 (i + 1)))))))
 .fail)
 (.ret (Sum.inr out)))
noncomputable def F75_L5 (v) := loopO (fun v => (F75_L5_step v).run) v
def F75_fo : List FO := [⟨[(.one (.si .i64))], []⟩]
noncomputable def F75_t : (Int × Int) → T Int := fun (n, k) =>
 (.test (decide (k < 0))
 (.ret (0 : Int))
 (.test (decide (k > n))
 (.ret (0 : Int))
 (.sub (F75_L5 (n, (k, ((1 : Int), (1 : Int))))) fun z0 =>
 (.ret z0))))
noncomputable def F75 (v) := (F75_t v).run
noncomputable def F75_E : TEnv := E0
theorem F75_Eok : (F75_E).OK := E0ok
noncomputable def F75_told : Nat → Option SealT := fun id => if id = 5 then some (LSh.told F75_L5_sh 0 (F75_L5_step)) else none
theorem F75_L5_ok : ToldOK Tryz.prog 0 (loopAt (bodyOf fn_F75) [0]) (LSh.told F75_L5_sh 0 (F75_L5_step)) :=
 loop_ok (E := F75_E) (F75_Eok) (told := F75_told) (l := F75_L5_sh) (step := F75_L5_step) (loopsOK_of (ls := []) (by kernel_rfl) trivial) (by kernel_rfl) (fun v => by kernel_rfl)
theorem F75_ok : FOK Tryz.prog n_F75 F75_sh F75_fo F75 :=
 fn_ok (E := F75_E) (F75_Eok) (told := F75_told) (fl := []) (c := bodyOf fn_F75) (s := F75_sh) (l := F75_fo) (tree := F75_t) fnat_F75 (by kernel_rfl) (by kernel_rfl) (by kernel_rfl) (loopsOK_of (ls := [loopAt (bodyOf fn_F75) [0]]) (by kernel_rfl) ⟨.inr ⟨_, by kernel_rfl, F75_L5_ok⟩, trivial⟩) (fun v => by kernel_rfl)
theorem F75_L5_eq (n k : Int) (hk : k ≤ 1000) : ∀ (m i : Nat) (out : Int), (i : Int) + (m : Int) = k + 1 → 1 ≤ i → F75_L5 (n, (k, (out, (i : Int)))) = some (chB n k m i out) := by
 intro m
 induction m with
 | zero =>
  intro i out h h1
  simp only [F75_L5]
  refine loopO_done ?_
  rw [F75_L5_step, T.run_test, if_neg (by rw [decide_eq_true_eq]; omega), T.run_ret]
  rfl
 | succ m ih =>
  intro i out h h1
  have w1 : w64 ((i : Int) + 1) = ((i + 1 : Nat) : Int) := by rw [w64_id (by omega) (by omega)]; omega
  have := ih (i + 1) (w64 (Int.tdiv (w64 (out * (w64 ((w64 (n - k)) + (i : Int))))) (i : Int))) (by omega) (by omega)
  simp only [F75_L5] at this ⊢
  rw [chB, ← this]
  refine loopO_next ?_
  rw [F75_L5_step, T.run_test, if_pos (decide_eq_true (by omega)), T.run_test, if_pos (by exact decide_eq_true (by omega)), T.run_ret, w1]
def F80_sh : FSh := ⟨[(.one (.si .i64))], []⟩
def F80_fo : List FO := [⟨[(.one (.si .i64))], []⟩]
noncomputable def F80_t : Int → T Int := fun n =>
 (.sub (F75 ((w64 ((w64 (2 * n)) - 4)), (w64 (n - 2)))) fun z0 =>
 (.test (decide ((w64 (n - 1)) ≠ 0))
 (.ret (w64 (Int.tdiv z0 (w64 (n - 1)))))
 .fail))
noncomputable def F80 (v) := (F80_t v).run
noncomputable def F80_E : TEnv := (E0.add1 n_F75 F75_sh F75_fo F75)
theorem F80_Eok : (F80_E).OK := (E0ok.add1 F75_ok)
noncomputable def F80_told : Nat → Option SealT := fun id => none
theorem F80_ok : FOK Tryz.prog n_F80 F80_sh F80_fo F80 :=
 fn_ok (E := F80_E) (F80_Eok) (told := F80_told) (fl := []) (c := bodyOf fn_F80) (s := F80_sh) (l := F80_fo) (tree := F80_t) fnat_F80 (by kernel_rfl) (by kernel_rfl) (by kernel_rfl) (loopsOK_of (ls := []) (by kernel_rfl) trivial) (fun v => by kernel_rfl)
theorem F80_eq (s : Int) (h1 : 3 ≤ s) (h2 : s ≤ 12) : F80 s = some (catV s) := by
 have e1 : w64 (w64 (2 * s) - 4) = 2 * s - 4 := by rw [w64_id (z := 2 * s) (by omega) (by omega), w64_id (by omega) (by omega)]
 have e2 : w64 (s - 2) = s - 2 := w64_id (by omega) (by omega)
 have e3 : w64 (s - 1) = s - 1 := w64_id (by omega) (by omega)
 have hc := F75_L5_eq (2 * s - 4) (s - 2) (by omega) (s - 2).toNat 1 1 (by omega) (by omega)
 rw [Int.natCast_one] at hc
 rw [F80, F80_t, T.run_sub, e1, e2, e3, F75, F75_t, T.run_test, if_neg (by rw [decide_eq_true_eq]; omega), T.run_test, if_neg (by rw [decide_eq_true_eq]; omega), T.run_sub, hc, Option.bind_some, T.run_ret, Option.bind_some, T.run_test, if_pos (by exact decide_eq_true (by omega)), T.run_ret, ← cat_same s h1 h2]
 rfl
theorem choose_I (n k : Int) (hk : k ≤ 1000) : F91 (n, k) = some (chI n k) := by
 rw [F91, F91_t, T.run_sub, F90_eq, Option.bind_some, T.run_test]
 unfold chI
 by_cases h : 0 ≤ k ∧ k ≤ n
 ·have hc := F91_L5_eq n k hk k.toNat 0 1 (by omega)
  rw [Int.natCast_zero] at hc
  rw [if_neg (by rw [inB_iff.2 h]; simp), if_pos h, T.run_sub, hc, Option.bind_some, T.run_ret]
 ·rw [if_pos (by
   cases hi : inB 0 n k with
   | true => exact absurd (inB_iff.1 hi) h
   | false => rfl), if_neg h, T.run_ret]
theorem choose_S (n k : Int) (hk : k ≤ 1000) : F75 (n, k) = some (chS n k) := by
 rw [F75, F75_t, T.run_test]
 unfold chS
 by_cases h : k < 0
 ·rw [if_pos (decide_eq_true h), if_pos (.inl h), T.run_ret]
 ·rw [if_neg (by rw [decide_eq_true_eq]; exact h), T.run_test]
  by_cases h2 : n < k
  ·rw [if_pos (decide_eq_true h2), if_pos (.inr h2), T.run_ret]
  ·have hc := F75_L5_eq n k hk k.toNat 1 1 (by omega) (by omega)
   rw [Int.natCast_one] at hc
   rw [if_neg (by rw [decide_eq_true_eq]; omega), if_neg (by omega), T.run_sub, hc, Option.bind_some, T.run_ret]
theorem caCount_E (s : Int) (h1 : 2 ≤ s) (h2 : s ≤ 12) : F80 s = some (catE s) := by
 unfold catE
 by_cases h : s > 2
 ·rw [if_pos h]; exact F80_eq s (by omega) h2
 ·obtain rfl : s = 2 := by omega
  rw [if_neg h, F80, F80_t, T.run_sub, choose_S _ _ (by decide), Option.bind_some, T.run_test, if_pos (by decide), T.run_ret]
  decide
end Go.Proofs.W
