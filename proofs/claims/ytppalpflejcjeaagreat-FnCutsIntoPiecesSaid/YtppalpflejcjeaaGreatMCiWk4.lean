import Derived.Test.YtppalpflejcjeaaGreatMCiWk3
set_option linter.unusedVariables false
set_option linter.unusedSimpArgs false
set_option maxRecDepth 100000
set_option maxHeartbeats 4000000
namespace Go.Proofs.W
open Go Go.Gm Go.Proofs
open Go.RowKit Go.Shelf
def F29_sh : FSh := ⟨[(.one (.sl (.int .i64) false false)), (.one (.si .i64))], []⟩
def F29_L8_sh : LSh := ⟨(fun ex => match ex with | .norm => [(7, none), (8, none)] | .exit i => if i = 0 then [(7, none)] else [] | .ret => [(4, none)]), [(7, (.one (.rw 0 0))), (8, (.one (.si .i64)))], [(.row 0 (.int .i64))], [⟨(.exit 0), [(7, (.one (.rw 0 0)))], [(.row 0 (.int .i64))]⟩], [], []⟩
noncomputable def F29_L8_step : ((Unit × Int) × List (Int)) → T (((Unit × Int) × List (Int)) ⊕ (Unit × List (Int))) := fun (((), n), newslice) =>
 (.test (decide (n < (newslice.length : Int)))
 (.test (decide (0 ≤ n))
 (.test (decide (((Int.toNat n) ≤ newslice.length) ∧ (newslice.length ≤ newslice.length)))
 (.test (decide (0 ≤ n))
 (.test (decide ((0 ≤ (Int.toNat n)) ∧ ((Int.toNat n) ≤ newslice.length)))
 (.test (decide ((0 + ((Int.toNat n) - 0)) ≤ newslice.length))
 (.test (decide ((0 < (min (List.length (win newslice 0 ((Int.toNat n) - 0))) (newslice.length - (Int.toNat n)))) ∧ (((0 + (Int.toNat n)) + (newslice.length - (Int.toNat n))) ≤ newslice.length)))
 (.test (decide ((0 = 0) ∧ (newslice.length = (List.length (spliceT newslice (0 + (Int.toNat n)) (List.take (min (List.length (win newslice 0 ((Int.toNat n) - 0))) (newslice.length - (Int.toNat n))) (win newslice 0 ((Int.toNat n) - 0))))))))
 (.ret (Sum.inl (((), (w64 (n + (((min (List.length (win newslice 0 ((Int.toNat n) - 0))) (newslice.length - (Int.toNat n))) : Nat) : Int)))), (spliceT newslice (0 + (Int.toNat n)) (List.take (min (List.length (win newslice 0 ((Int.toNat n) - 0))) (newslice.length - (Int.toNat n))) (win newslice 0 ((Int.toNat n) - 0)))))))
 .fail)
 .fail)
 .fail)
 .fail)
 .fail)
 .fail)
 .fail)
 (.test (decide ((0 = 0) ∧ (newslice.length = newslice.length)))
 (.ret (Sum.inr ((), newslice)))
 .fail))
noncomputable def F29_L8 (v) := loopO (fun v => (F29_L8_step v).run) v
def F29_fo : List FO := [⟨[(.one (.rw 0 0))], [(.row 0 (.int .i64))]⟩]
noncomputable def F29_t : (List (Int) × Int) → T (Unit × List (Int)) := fun (x, count) =>
 (.test (decide (count < 0))
 .fail
 (.sub (F51 ((wu64 (x.length : Int)), (wu64 count))) fun z0 =>
 (.test (decide (z0.1 > 0))
 .fail
 (.test (decide (z0.2 > 9223372036854775807))
 .fail
 (.test (decide ((0 ≤ (w64 z0.2)) ∧ (((w64 z0.2) ≤ (w64 z0.2)) ∧ (((Int.toNat (w64 z0.2)) * 9) ≤ 140737488355328))))
 (.test (decide ((0 < (min x.length (Int.toNat (w64 z0.2)))) ∧ ((0 + (Int.toNat (w64 z0.2))) ≤ (List.length (List.replicate (Int.toNat (w64 z0.2)) (0 : Int))))))
 (.test (decide ((0 = 0) ∧ ((Int.toNat (w64 z0.2)) = (List.length (spliceT (List.replicate (Int.toNat (w64 z0.2)) (0 : Int)) 0 (List.take (min x.length (Int.toNat (w64 z0.2))) x))))))
 (.sub (F29_L8 (((), (((min x.length (Int.toNat (w64 z0.2))) : Nat) : Int)), (spliceT (List.replicate (Int.toNat (w64 z0.2)) (0 : Int)) 0 (List.take (min x.length (Int.toNat (w64 z0.2))) x)))) fun z1 =>
 (.test (decide ((0 = 0) ∧ (z1.2.length = z1.2.length)))
 (.ret ((), z1.2))
 .fail))
 .fail)
 .fail)
 .fail)))))
noncomputable def F29 (v) := (F29_t v).run
noncomputable def F29_E : TEnv := (E0.add1 n_F51 F51_sh F51_fo F51)
theorem F29_Eok : (F29_E).OK := (E0ok.add1 F51_ok)
noncomputable def F29_told : Nat → Option SealT := fun id => if id = 8 then some (LSh.told F29_L8_sh 0 (F29_L8_step)) else none
theorem F29_L8_ok : ToldOK Tryz.prog 0 (loopAt (bodyOf fn_F29) [0]) (LSh.told F29_L8_sh 0 (F29_L8_step)) :=
 loop_ok (E := F29_E) (F29_Eok) (told := F29_told) (l := F29_L8_sh) (step := F29_L8_step) (loopsOK_of (ls := []) (by kernel_rfl) trivial) (by kernel_rfl) (fun v => by kernel_rfl)
theorem F29_ok : FOK Tryz.prog n_F29 F29_sh F29_fo F29 :=
 fn_ok (E := F29_E) (F29_Eok) (told := F29_told) (fl := []) (c := bodyOf fn_F29) (s := F29_sh) (l := F29_fo) (tree := F29_t) fnat_F29 (by kernel_rfl) (by kernel_rfl) (by kernel_rfl) (loopsOK_of (ls := [loopAt (bodyOf fn_F29) [0]]) (by kernel_rfl) ⟨.inr ⟨_, by kernel_rfl, F29_L8_ok⟩, trivial⟩) (fun v => by kernel_rfl)
theorem F29_one (n : Nat) (h1 : 1 ≤ n) (h2 : n ≤ 1000000) : F29 ([1], (n : Int)) = some ((), List.replicate n 1) := by
 have hm : F51 (wu64 (([1] : List Int).length : Int), wu64 (n : Int)) = some (0, (n : Int)) := by
  have e1 : wu64 (([1] : List Int).length : Int) = 1 := IntWalk.u64_in _ ⟨by simp, by simp⟩
  have e2 : wu64 (n : Int) = (n : Int) := IntWalk.u64_in _ ⟨by omega, by omega⟩
  rw [e1, e2]
  unfold F51
  simp only []
  rw [if_pos ⟨by omega, by omega, by omega, by omega⟩]
  have t1 : (1 : Int).toNat = 1 := rfl
  rw [t1, Int.toNat_natCast, Nat.one_mul, Nat.div_eq_of_lt (by omega), Nat.mod_eq_of_lt (by omega)]
  rfl
 have hl : ∀ m k, k + m = n → 1 ≤ k → F29_L8 (((), (k : Int)), List.replicate k 1 ++ List.replicate (n - k) 0) = some ((), List.replicate n 1) := by
  intro m
  induction m using Nat.strongRecOn with
  | ind m ih =>
   intro k hk hk1
   have hlen : (List.replicate k (1 : Int) ++ List.replicate (n - k) 0).length = n := by simp; omega
   by_cases hm : m = 0
   ·have : k = n := by omega
    subst this
    rw [Nat.sub_self, List.replicate_zero, List.append_nil]
    simp only [F29_L8]
    exact loopO_done (by simp [F29_L8_step, T.run])
   ·have ih := ih (m - min k (n - k)) (by omega) (k + min k (n - k)) (by omega) (by omega)
    simp only [F29_L8] at ih ⊢
    rw [← ih]
    refine loopO_next ?_
    have c0 : (k : Int) < (n : Int) := by omega
    have c1 : (0 : Int) ≤ (k : Int) := by omega
    have c2 : k ≤ n ∧ n ≤ n := by omega
    have c3 : 0 ≤ k ∧ k ≤ n := by omega
    have tw : win (List.replicate k (1 : Int) ++ List.replicate (n - k) 0) 0 (k - 0) = List.replicate k 1 := by
     rw [win_take, Nat.sub_zero, List.take_left' (by simp)]
    have c4 : 0 + (k - 0) ≤ n := by omega
    have c5 : 0 < min k (n - k) ∧ 0 + k + (n - k) ≤ n := by omega
    have w1 : w64 ((k : Int) + ((min k (n - k) : Nat) : Int)) = ((k + min k (n - k) : Nat) : Int) := by rw [w64_id (by omega) (by omega)]; omega
    have sp : spliceT (List.replicate k (1 : Int) ++ List.replicate (n - k) 0) (0 + k) (List.take (min k (n - k)) (List.replicate k 1)) = List.replicate (k + min k (n - k)) 1 ++ List.replicate (n - (k + min k (n - k))) 0 := by
     unfold spliceT
     rw [Nat.zero_add, List.take_left' (by simp), List.take_replicate, List.length_replicate, List.drop_append, List.drop_replicate, List.drop_replicate, List.length_replicate]
     rw [show k - (k + min (min k (n - k)) k) = 0 by omega, show min (min k (n - k)) k = min k (n - k) by omega, show n - k - (k + min k (n - k) - k) = n - (k + min k (n - k)) by omega, List.replicate_zero, List.nil_append, ← List.append_assoc, List.replicate_append_replicate]
    have lsp : n = (List.replicate (k + min k (n - k)) (1 : Int) ++ List.replicate (n - (k + min k (n - k))) 0).length := by simp; omega
    simp only [F29_L8_step, T.run, hlen, c0, c1, c2, c3, c4, c5, decide_true, if_true, and_self, Int.toNat_natCast, tw, List.length_replicate, sp, w1]
    rw [← lsp]
    simp
 simp only [F29, F29_t, T.run, hm, Option.bind_some]
 have w1 : w64 (n : Int) = (n : Int) := w64_id (by omega) (by omega)
 have c0 : ¬ ((n : Int) < 0) := by omega
 have c1 : ¬ ((n : Int) > 9223372036854775807) := by omega
 have c2 : 0 ≤ (n : Int) ∧ (n : Int) ≤ (n : Int) ∧ n * 9 ≤ 140737488355328 := by omega
 have m1 : min ([1] : List Int).length n = 1 := by simp; omega
 have sp : spliceT (List.replicate n (0 : Int)) 0 (List.take 1 [1]) = List.replicate 1 1 ++ List.replicate (n - 1) 0 := by
  unfold spliceT
  simp
 have lsp : n = (List.replicate 1 (1 : Int) ++ List.replicate (n - 1) 0).length := by simp; omega
 simp only [c0, c1, w1, decide_false, Bool.false_eq_true, if_false, Int.toNat_natCast, c2, and_self, decide_true, if_true, m1, sp, hl (n - 1) 1 (by omega) (Nat.le_refl 1), Option.bind_some]
 simp only [List.length_replicate, Nat.zero_add]
 rw [← lsp]
 simp
def F77_sh : FSh := ⟨[(.one (.si .i64)), (.one (.sl (.pair (.int .i64) (.int .i64)) false false))], []⟩
def F77_L3_sh : LSh := ⟨(fun ex => match ex with | .norm => [(5, none), (11, none), (12, none), (13, none)] | .exit i => if i = 0 then [(5, none)] else [] | .ret => [(4, none)]), [(5, (.one (.rw 0 0))), (11, (.one (.sl (.pair (.int .i64) (.int .i64)) false false))), (12, (.one (.si .i64))), (13, (.one (.si .i64)))], [(.row 0 (.int .i64))], [⟨(.exit 0), [(5, (.one (.rw 0 0)))], [(.row 0 (.int .i64))]⟩], [], []⟩
noncomputable def F77_L3_step : ((Unit × List ((Int × Int)) × Int × Int) × List (Int)) → T (((Unit × List ((Int × Int)) × Int × Int) × List (Int)) ⊕ (Unit × List (Int))) := fun (((), t11, t12, t13), out) =>
 (.test (decide (t13 < t12))
 (.test (decide ((0 ≤ t13) ∧ (t13 < (t11.length : Int))))
 (.sub (t11[(Int.toNat t13)]?) fun z0 =>
 (.test (decide ((0 ≤ z0.1) ∧ (z0.1 < (out.length : Int))))
 (.sub (out[(0 + (Int.toNat z0.1))]?) fun z1 =>
 (.test (decide ((0 ≤ z0.1) ∧ (z0.1 < (out.length : Int))))
 (.sub (out[(0 + (Int.toNat z0.1))]?) fun z2 =>
 (.test (decide ((0 ≤ z0.2) ∧ (z0.2 < (out.length : Int))))
 (.sub ((List.set out (0 + (Int.toNat z0.1)) (w64 (z1 + 1)))[(0 + (Int.toNat z0.2))]?) fun z3 =>
 (.test (decide ((0 ≤ z0.2) ∧ (z0.2 < (out.length : Int))))
 (.sub ((List.set out (0 + (Int.toNat z0.1)) (w64 (z1 + 1)))[(0 + (Int.toNat z0.2))]?) fun z4 =>
 (.test (decide ((0 = 0) ∧ (out.length = (List.length (List.set (List.set out (0 + (Int.toNat z0.1)) (w64 (z1 + 1))) (0 + (Int.toNat z0.2)) (w64 (z3 + 1)))))))
 (.ret (Sum.inl (((), (t11, (t12, (w64 (t13 + 1))))), (List.set (List.set out (0 + (Int.toNat z0.1)) (w64 (z1 + 1))) (0 + (Int.toNat z0.2)) (w64 (z3 + 1))))))
 .fail))
 .fail))
 .fail))
 .fail))
 .fail))
 .fail)
 (.test (decide ((0 = 0) ∧ (out.length = out.length)))
 (.ret (Sum.inr ((), out)))
 .fail))
noncomputable def F77_L3 (v) := loopO (fun v => (F77_L3_step v).run) v
def F77_fo : List FO := [⟨[(.one (.rw 0 0))], [(.row 0 (.int .i64))]⟩]
noncomputable def F77_t : (Int × List ((Int × Int))) → T (Unit × List (Int)) := fun (n, ds) =>
 (.test true
 (.sub (F29 ((win (List.set (List.replicate 1 (0 : Int)) 0 (1 : Int)) 0 1), n)) fun z0 =>
 (.test (decide ((0 = 0) ∧ (z0.2.length = z0.2.length)))
 (.sub (F77_L3 (((), (ds, ((ds.length : Int), (0 : Int)))), z0.2)) fun z1 =>
 (.test (decide ((0 = 0) ∧ (z1.2.length = z1.2.length)))
 (.ret ((), z1.2))
 .fail))
 .fail))
 .fail)
noncomputable def F77 (v) := (F77_t v).run
noncomputable def F77_E : TEnv := (E0.add1 n_F29 F29_sh F29_fo F29)
theorem F77_Eok : (F77_E).OK := (E0ok.add1 F29_ok)
noncomputable def F77_told : Nat → Option SealT := fun id => if id = 3 then some (LSh.told F77_L3_sh 0 (F77_L3_step)) else none
theorem F77_L3_ok : ToldOK Tryz.prog 0 (loopAt (bodyOf fn_F77) [0]) (LSh.told F77_L3_sh 0 (F77_L3_step)) :=
 loop_ok (E := F77_E) (F77_Eok) (told := F77_told) (l := F77_L3_sh) (step := F77_L3_step) (loopsOK_of (ls := []) (by kernel_rfl) trivial) (by kernel_rfl) (fun v => by kernel_rfl)
theorem F77_ok : FOK Tryz.prog n_F77 F77_sh F77_fo F77 :=
 fn_ok (E := F77_E) (F77_Eok) (told := F77_told) (fl := []) (c := bodyOf fn_F77) (s := F77_sh) (l := F77_fo) (tree := F77_t) fnat_F77 (by kernel_rfl) (by kernel_rfl) (by kernel_rfl) (loopsOK_of (ls := [loopAt (bodyOf fn_F77) [0]]) (by kernel_rfl) ⟨.inr ⟨_, by kernel_rfl, F77_L3_ok⟩, trivial⟩) (fun v => by kernel_rfl)
theorem F77_eq (n : Nat) (ds : List Dg) (hn : 1 ≤ n ∧ n ≤ 1000000) (hl : ds.length < 1000000) (h : ∀ d ∈ ds, 0 ≤ d.1 ∧ d.1 < d.2 ∧ d.2 < (n : Int)) : F77 ((n : Int), ds) = some ((), quid n ds) := by
 have hl' := loop_fold (step := fun v => (F77_L3_step v).run) (xs := ds) (fun k (s : List Int) => s.length = n ∧ ∀ p, p < n → 0 ≤ s.getD p 0 ∧ s.getD p 0 ≤ k + 1) (fun k s => (((), (ds, ((ds.length : Int), (k : Int)))), s)) bumpD (fun s => ((), s))
  (fun k s d hP hd => by
   obtain ⟨hs, hb⟩ := hP
   have hlt := getElem?_lt hd
   obtain ⟨q1, q2, q3⟩ := h d (List.mem_of_getElem? hd)
   refine ⟨?_, by rw [bumpD_length, hs], fun p hp => ?_⟩
   ·have c0 : (k : Int) < (ds.length : Int) := by omega
    have c1 : (0 : Int) ≤ (k : Int) ∧ (k : Int) < (ds.length : Int) := by omega
    have w1 : w64 ((k : Int) + 1) = ((k + 1 : Nat) : Int) := by rw [w64_id (by omega) (by omega)]; omega
    have c2 : 0 ≤ d.1 ∧ d.1 < (s.length : Int) := by omega
    have c3 : 0 ≤ d.2 ∧ d.2 < (s.length : Int) := by omega
    have b1 := hb d.1.toNat (by omega)
    have b2 := hb d.2.toNat (by omega)
    have g1 : s[d.1.toNat]? = some (s.getD d.1.toNat 0) := by rw [List.getD_eq_getElem?_getD, List.getElem?_eq_getElem (by omega)]; rfl
    have g2 : s[d.2.toNat]? = some (s.getD d.2.toNat 0) := by rw [List.getD_eq_getElem?_getD, List.getElem?_eq_getElem (by omega)]; rfl
    have w2 : w64 (s.getD d.1.toNat 0 + 1) = s.getD d.1.toNat 0 + 1 := w64_id (by omega) (by omega)
    have w3 : w64 (s.getD d.2.toNat 0 + 1) = s.getD d.2.toNat 0 + 1 := w64_id (by omega) (by omega)
    have g3 : (s.set d.1.toNat (s.getD d.1.toNat 0 + 1))[d.2.toNat]? = some (s.getD d.2.toNat 0) := by rw [List.getElem?_set_ne (by omega)]; exact g2
    simp only [F77_L3_step, T.run, c0, c1, c2, c3, decide_true, if_true, and_self, Int.toNat_natCast, hd, Option.bind_some, Nat.zero_add, g1, w2, g3, w3, w1]
    simp [bumpD]
   ·rw [bumpD_get q1 q2 (by omega) (by omega)]
    have := hb p hp
    have : 0 ≤ cntD d p ∧ cntD d p ≤ 1 := by unfold cntD; split <;> split <;> omega
    omega)
  (fun s hs => by simp [F77_L3_step, T.run])
  (List.replicate n 1) ⟨by simp, fun p hp => by rw [List.getD_eq_getElem?_getD, List.getElem?_replicate, if_pos hp]; simp⟩
 have hq : ds.foldl bumpD (List.replicate n 1) = quid n ds := by
  obtain ⟨f1, f2⟩ := bump_fold n ds (List.replicate n 1) (by simp) h
  refine List.ext_getElem (by rw [f1]; simp [quid]) fun p hp _ => ?_
  have := f2 p (by omega)
  rw [List.getD_eq_getElem?_getD, List.getElem?_eq_getElem hp, List.getD_eq_getElem?_getD, List.getElem?_replicate, if_pos (by omega)] at this
  simp only [Option.getD_some] at this
  rw [this]
  simp [quid]
 simp only [Int.natCast_zero] at hl'
 have hw : win (List.set (List.replicate 1 (0 : Int)) 0 (1 : Int)) 0 1 = [1] := rfl
 simp only [F77, F77_t, T.run, hw, F29_one n hn.1 hn.2, Option.bind_some, F77_L3]
 rw [hl'.1, hq]
 simp
def F30_sh : FSh := ⟨[(.one (.si .i64)), (.one (.sl (.pair (.int .i64) (.int .i64)) false false))], []⟩
def F30_fo : List FO := [⟨[(.one (.rw 0 0)), (.one .sb)], [(.row 0 (.int .i64))]⟩]
noncomputable def F30_t : (Int × List ((Int × Int))) → T ((Unit × Bool) × List (Int)) := fun (n, ds) =>
 (.sub (F106 (n, ds)) fun z0 =>
 (.test (! z0)
 (.test true
 (.ret (((), false), ([] : List (Int))))
 .fail)
 (.sub (F77 (n, ds)) fun z1 =>
 (.test (decide ((0 = 0) ∧ (z1.2.length = z1.2.length)))
 (.ret (((), true), z1.2))
 .fail))))
noncomputable def F30 (v) := (F30_t v).run
noncomputable def F30_E : TEnv := ((E0.add1 n_F106 F106_sh F106_fo F106).add1 n_F77 F77_sh F77_fo F77)
theorem F30_Eok : (F30_E).OK := ((E0ok.add1 F106_ok).add1 F77_ok)
noncomputable def F30_told : Nat → Option SealT := fun id => none
theorem F30_ok : FOK Tryz.prog n_F30 F30_sh F30_fo F30 :=
 fn_ok (E := F30_E) (F30_Eok) (told := F30_told) (fl := []) (c := bodyOf fn_F30) (s := F30_sh) (l := F30_fo) (tree := F30_t) fnat_F30 (by kernel_rfl) (by kernel_rfl) (by kernel_rfl) (loopsOK_of (ls := []) (by kernel_rfl) trivial) (fun v => by kernel_rfl)
def pcR (n : Int) (ds : List Dg) : (Unit × Bool) × List Int := if isCut n ds = true then (((), true), quid n.toNat ds) else (((), false), [])
theorem cut_rng {N : Nat} {ds : List Dg} (h : CutD N ds) : ∀ d ∈ ds, 0 ≤ d.1 ∧ d.1 < d.2 ∧ d.2 < (N : Int) := fun d hd => by have := h.1 d hd; omega
theorem F30_eq (n : Int) (ds : List Dg) (hl : ds.length < 4611686018427387904) : F30 (n, ds) = some (pcR n ds) := by
 unfold pcR
 rw [F30, F30_t, T.run_sub, F106_eq n ds hl, Option.bind_some, T.run_test]
 by_cases c : isCut n ds = true
 ·obtain ⟨N, rfl, h3, h12, hlen, hc⟩ := isCut_cut c
  rw [c, if_neg (by decide), T.run_sub, F77_eq N ds (by omega) (by omega) (cut_rng hc), Option.bind_some, T.run_test, if_pos (by simp), T.run_ret, if_pos rfl, Int.toNat_natCast]
 ·rw [if_pos (by simp at c ⊢; exact c), T.run_test, if_pos (by rfl), T.run_ret, if_neg c]
def F62_sh : FSh := ⟨[(.one (.si .i64)), (.one (.sl (.pair (.int .i64) (.int .i64)) false false))], []⟩
def F62_L3_sh : LSh := ⟨(fun ex => match ex with | .norm => [(1, none), (5, none), (12, none), (13, none)] | .exit i => if i = 0 then [(1, none), (5, none)] else [] | .ret => [(4, none)]), [(1, (.one (.sl (.pair (.int .i64) (.int .i64)) false false))), (5, (.one (.rw 0 0))), (12, (.one (.si .i64))), (13, (.one (.si .i64)))], [(.row 0 (.int .i64))], [⟨(.exit 0), [(1, (.one (.sl (.pair (.int .i64) (.int .i64)) false false))), (5, (.one (.rw 0 0)))], [(.row 0 (.int .i64))]⟩], [], []⟩
noncomputable def F62_L3_step : ((List ((Int × Int)) × Unit × Int × Int) × List (Int)) → T (((List ((Int × Int)) × Unit × Int × Int) × List (Int)) ⊕ ((List ((Int × Int)) × Unit) × List (Int))) := fun ((ds, (), t12, t13), out) =>
 (.test (decide (t13 < t12))
 (.test (decide ((0 ≤ t13) ∧ (t13 < (out.length : Int))))
 (.sub (out[(0 + (Int.toNat t13))]?) fun z0 =>
 (.test (decide ((0 = 0) ∧ (out.length = (List.length (List.set out (0 + (Int.toNat t13)) (1 : Int))))))
 (.ret (Sum.inl ((ds, ((), (t12, (w64 (t13 + 1))))), (List.set out (0 + (Int.toNat t13)) (1 : Int)))))
 .fail))
 .fail)
 (.test (decide ((0 = 0) ∧ (out.length = out.length)))
 (.ret (Sum.inr ((ds, ()), out)))
 .fail))
noncomputable def F62_L3 (v) := loopO (fun v => (F62_L3_step v).run) v
def F62_L8_sh : LSh := ⟨(fun ex => match ex with | .norm => [(5, none), (20, none), (21, none), (22, none)] | .exit i => if i = 2 then [(5, none)] else [] | .ret => [(4, none)]), [(5, (.one (.rw 0 0))), (20, (.one (.sl (.pair (.int .i64) (.int .i64)) false false))), (21, (.one (.si .i64))), (22, (.one (.si .i64)))], [(.row 0 (.int .i64))], [⟨(.exit 2), [(5, (.one (.rw 0 0)))], [(.row 0 (.int .i64))]⟩], [], []⟩
noncomputable def F62_L8_step : ((Unit × List ((Int × Int)) × Int × Int) × List (Int)) → T (((Unit × List ((Int × Int)) × Int × Int) × List (Int)) ⊕ (Unit × List (Int))) := fun (((), t20, t21, t22), out) =>
 (.test (decide (t22 < t21))
 (.test (decide ((0 ≤ t22) ∧ (t22 < (t20.length : Int))))
 (.sub (t20[(Int.toNat t22)]?) fun z0 =>
 (.test (decide ((0 ≤ z0.1) ∧ (z0.1 < (out.length : Int))))
 (.sub (out[(0 + (Int.toNat z0.1))]?) fun z1 =>
 (.test (decide ((0 ≤ z0.1) ∧ (z0.1 < (out.length : Int))))
 (.sub (out[(0 + (Int.toNat z0.1))]?) fun z2 =>
 (.test (decide ((0 ≤ z0.2) ∧ (z0.2 < (out.length : Int))))
 (.sub ((List.set out (0 + (Int.toNat z0.1)) (w64 (z1 + 1)))[(0 + (Int.toNat z0.2))]?) fun z3 =>
 (.test (decide ((0 ≤ z0.2) ∧ (z0.2 < (out.length : Int))))
 (.sub ((List.set out (0 + (Int.toNat z0.1)) (w64 (z1 + 1)))[(0 + (Int.toNat z0.2))]?) fun z4 =>
 (.test (decide ((0 = 0) ∧ (out.length = (List.length (List.set (List.set out (0 + (Int.toNat z0.1)) (w64 (z1 + 1))) (0 + (Int.toNat z0.2)) (w64 (z3 + 1)))))))
 (.ret (Sum.inl (((), (t20, (t21, (w64 (t22 + 1))))), (List.set (List.set out (0 + (Int.toNat z0.1)) (w64 (z1 + 1))) (0 + (Int.toNat z0.2)) (w64 (z3 + 1))))))
 .fail))
 .fail))
 .fail))
 .fail))
 .fail))
 .fail)
 (.test (decide ((0 = 0) ∧ (out.length = out.length)))
 (.ret (Sum.inr ((), out)))
 .fail))
noncomputable def F62_L8 (v) := loopO (fun v => (F62_L8_step v).run) v
def F62_fo : List FO := [⟨[(.one (.rw 0 0))], [(.row 0 (.int .i64))]⟩]
noncomputable def F62_t : (Int × List ((Int × Int))) → T (Unit × List (Int)) := fun (n, ds) =>
 (.test (decide ((0 ≤ n) ∧ ((n ≤ n) ∧ (((Int.toNat n) * 9) ≤ 140737488355328))))
 (.test (decide ((0 = 0) ∧ ((Int.toNat n) = (List.length (List.replicate (Int.toNat n) (0 : Int))))))
 (.sub (F62_L3 ((ds, ((), (((Int.toNat n) : Int), (0 : Int)))), (List.replicate (Int.toNat n) (0 : Int)))) fun z0 =>
 (.test (decide ((0 = 0) ∧ (z0.2.length = z0.2.length)))
 (.sub (F62_L8 (((), (z0.1.1, ((z0.1.1.length : Int), (0 : Int)))), z0.2)) fun z1 =>
 (.test (decide ((0 = 0) ∧ (z1.2.length = z1.2.length)))
 (.ret ((), z1.2))
 .fail))
 .fail))
 .fail)
 .fail)
noncomputable def F62 (v) := (F62_t v).run
noncomputable def F62_E : TEnv := E0
theorem F62_Eok : (F62_E).OK := E0ok
noncomputable def F62_told : Nat → Option SealT := fun id => if id = 3 then some (LSh.told F62_L3_sh 0 (F62_L3_step)) else if id = 8 then some (LSh.told F62_L8_sh 0 (F62_L8_step)) else none
theorem F62_L3_ok : ToldOK Tryz.prog 0 (loopAt (bodyOf fn_F62) [0]) (LSh.told F62_L3_sh 0 (F62_L3_step)) :=
 loop_ok (E := F62_E) (F62_Eok) (told := F62_told) (l := F62_L3_sh) (step := F62_L3_step) (loopsOK_of (ls := []) (by kernel_rfl) trivial) (by kernel_rfl) (fun v => by kernel_rfl)
theorem F62_L8_ok : ToldOK Tryz.prog 0 (loopAt (bodyOf fn_F62) [1]) (LSh.told F62_L8_sh 0 (F62_L8_step)) :=
 loop_ok (E := F62_E) (F62_Eok) (told := F62_told) (l := F62_L8_sh) (step := F62_L8_step) (loopsOK_of (ls := []) (by kernel_rfl) trivial) (by kernel_rfl) (fun v => by kernel_rfl)
theorem F62_ok : FOK Tryz.prog n_F62 F62_sh F62_fo F62 :=
 fn_ok (E := F62_E) (F62_Eok) (told := F62_told) (fl := []) (c := bodyOf fn_F62) (s := F62_sh) (l := F62_fo) (tree := F62_t) fnat_F62 (by kernel_rfl) (by kernel_rfl) (by kernel_rfl) (loopsOK_of (ls := [loopAt (bodyOf fn_F62) [0], loopAt (bodyOf fn_F62) [1]]) (by kernel_rfl) ⟨.inr ⟨_, by kernel_rfl, F62_L3_ok⟩, ⟨.inr ⟨_, by kernel_rfl, F62_L8_ok⟩, trivial⟩⟩) (fun v => by kernel_rfl)
theorem F62_eq (n : Nat) (ds : List Dg) (hn : 1 ≤ n ∧ n ≤ 1000000) (hl : ds.length < 1000000) (h : ∀ d ∈ ds, 0 ≤ d.1 ∧ d.1 < d.2 ∧ d.2 < (n : Int)) : F62 ((n : Int), ds) = some ((), quid n ds) := by
 have hones : ∀ m k, k + m = n → F62_L3 ((ds, ((), ((n : Int), (k : Int)))), List.replicate k 1 ++ List.replicate (n - k) 0) = some ((ds, ()), List.replicate n 1) := by
  intro m
  induction m with
  | zero =>
   intro k hk
   have : k = n := by omega
   subst this
   rw [Nat.sub_self, List.replicate_zero, List.append_nil]
   simp only [F62_L3]
   exact loopO_done (by simp [F62_L3_step, T.run])
  | succ m ih =>
   intro k hk
   have ih := ih (k + 1) (by omega)
   simp only [F62_L3] at ih ⊢
   rw [← ih]
   refine loopO_next ?_
   have hlen : (List.replicate k (1 : Int) ++ List.replicate (n - k) 0).length = n := by simp; omega
   have c0 : (k : Int) < (n : Int) := by omega
   have c1 : (0 : Int) ≤ (k : Int) ∧ (k : Int) < (n : Int) := by omega
   have w1 : w64 ((k : Int) + 1) = ((k + 1 : Nat) : Int) := by rw [w64_id (by omega) (by omega)]; omega
   have hs : (List.replicate k (1 : Int) ++ List.replicate (n - k) 0).set k 1 = List.replicate (k + 1) 1 ++ List.replicate (n - (k + 1)) 0 := by
    rw [List.set_append_right _ _ (by simp), List.length_replicate, Nat.sub_self, show n - k = (n - (k + 1)) + 1 by omega, List.replicate_succ, List.set_cons_zero, List.replicate_succ', List.append_assoc]
    rfl
   have g0 : ∃ x, (List.replicate k (1 : Int) ++ List.replicate (n - k) 0)[k]? = some x := ⟨_, List.getElem?_eq_getElem (by rw [hlen]; omega)⟩
   obtain ⟨x, g0⟩ := g0
   simp only [F62_L3_step, T.run, hlen, c0, c1, decide_true, if_true, and_self, Int.toNat_natCast, Nat.zero_add, g0, Option.bind_some, hs, w1, List.length_set, true_and]
   have hlen2 : n = (List.replicate (k + 1) (1 : Int) ++ List.replicate (n - (k + 1)) 0).length := by simp; omega
   rw [← hlen2]
   simp
 have hl' := loop_fold (step := fun v => (F62_L8_step v).run) (xs := ds) (fun k (s : List Int) => s.length = n ∧ ∀ p, p < n → 0 ≤ s.getD p 0 ∧ s.getD p 0 ≤ k + 1) (fun k s => (((), (ds, ((ds.length : Int), (k : Int)))), s)) bumpD (fun s => ((), s))
  (fun k s d hP hd => by
   obtain ⟨hs, hb⟩ := hP
   have hlt := getElem?_lt hd
   obtain ⟨q1, q2, q3⟩ := h d (List.mem_of_getElem? hd)
   refine ⟨?_, by rw [bumpD_length, hs], fun p hp => ?_⟩
   ·have c0 : (k : Int) < (ds.length : Int) := by omega
    have c1 : (0 : Int) ≤ (k : Int) ∧ (k : Int) < (ds.length : Int) := by omega
    have w1 : w64 ((k : Int) + 1) = ((k + 1 : Nat) : Int) := by rw [w64_id (by omega) (by omega)]; omega
    have c2 : 0 ≤ d.1 ∧ d.1 < (s.length : Int) := by omega
    have c3 : 0 ≤ d.2 ∧ d.2 < (s.length : Int) := by omega
    have b1 := hb d.1.toNat (by omega)
    have b2 := hb d.2.toNat (by omega)
    have g1 : s[d.1.toNat]? = some (s.getD d.1.toNat 0) := by rw [List.getD_eq_getElem?_getD, List.getElem?_eq_getElem (by omega)]; rfl
    have g2 : s[d.2.toNat]? = some (s.getD d.2.toNat 0) := by rw [List.getD_eq_getElem?_getD, List.getElem?_eq_getElem (by omega)]; rfl
    have w2 : w64 (s.getD d.1.toNat 0 + 1) = s.getD d.1.toNat 0 + 1 := w64_id (by omega) (by omega)
    have w3 : w64 (s.getD d.2.toNat 0 + 1) = s.getD d.2.toNat 0 + 1 := w64_id (by omega) (by omega)
    have g3 : (s.set d.1.toNat (s.getD d.1.toNat 0 + 1))[d.2.toNat]? = some (s.getD d.2.toNat 0) := by rw [List.getElem?_set_ne (by omega)]; exact g2
    simp only [F62_L8_step, T.run, c0, c1, c2, c3, decide_true, if_true, and_self, Int.toNat_natCast, hd, Option.bind_some, Nat.zero_add, g1, w2, g3, w3, w1]
    simp [bumpD]
   ·rw [bumpD_get q1 q2 (by omega) (by omega)]
    have := hb p hp
    have : 0 ≤ cntD d p ∧ cntD d p ≤ 1 := by unfold cntD; split <;> split <;> omega
    omega)
  (fun s hs => by simp [F62_L8_step, T.run])
  (List.replicate n 1) ⟨by simp, fun p hp => by rw [List.getD_eq_getElem?_getD, List.getElem?_replicate, if_pos hp]; simp⟩
 have hq : ds.foldl bumpD (List.replicate n 1) = quid n ds := by
  obtain ⟨f1, f2⟩ := bump_fold n ds (List.replicate n 1) (by simp) h
  refine List.ext_getElem (by rw [f1]; simp [quid]) fun p hp _ => ?_
  have := f2 p (by omega)
  rw [List.getD_eq_getElem?_getD, List.getElem?_eq_getElem hp, List.getD_eq_getElem?_getD, List.getElem?_replicate, if_pos (by omega)] at this
  simp only [Option.getD_some] at this
  rw [this]
  simp [quid]
 have h0 := hones n 0 (by omega)
 rw [List.replicate_zero, List.nil_append, Nat.sub_zero] at h0
 simp only [Int.natCast_zero] at hl' h0
 have c0 : (0 : Int) ≤ (n : Int) ∧ (n : Int) ≤ (n : Int) ∧ n * 9 ≤ 140737488355328 := by omega
 simp only [F62, F62_t, T.run, Int.toNat_natCast, c0, and_self, decide_true, if_true, List.length_replicate, true_and, h0, Option.bind_some, F62_L8]
 rw [hl'.1, hq]
 simp
def F31_sh : FSh := ⟨[(.one (.si .i64)), (.one (.sl (.pair (.int .i64) (.int .i64)) false false))], []⟩
def F31_fo : List FO := [⟨[(.one (.rw 0 0)), (.one .sb)], [(.row 0 (.int .i64))]⟩]
noncomputable def F31_t : (Int × List ((Int × Int))) → T ((Unit × Bool) × List (Int)) := fun (n, ds) =>
 (.sub (F94 (n, ds)) fun z0 =>
 (.test (! z0)
 (.test true
 (.ret (((), false), ([] : List (Int))))
 .fail)
 (.sub (F62 (n, ds)) fun z1 =>
 (.test (decide ((0 = 0) ∧ (z1.2.length = z1.2.length)))
 (.ret (((), true), z1.2))
 .fail))))
noncomputable def F31 (v) := (F31_t v).run
noncomputable def F31_E : TEnv := ((E0.add1 n_F94 F94_sh F94_fo F94).add1 n_F62 F62_sh F62_fo F62)
theorem F31_Eok : (F31_E).OK := ((E0ok.add1 F94_ok).add1 F62_ok)
noncomputable def F31_told : Nat → Option SealT := fun id => none
theorem F31_ok : FOK Tryz.prog n_F31 F31_sh F31_fo F31 :=
 fn_ok (E := F31_E) (F31_Eok) (told := F31_told) (fl := []) (c := bodyOf fn_F31) (s := F31_sh) (l := F31_fo) (tree := F31_t) fnat_F31 (by kernel_rfl) (by kernel_rfl) (by kernel_rfl) (loopsOK_of (ls := []) (by kernel_rfl) trivial) (fun v => by kernel_rfl)
theorem F31_eq (n : Int) (ds : List Dg) (hl : ds.length < 4611686018427387904) : F31 (n, ds) = some (pcR n ds) := by
 unfold pcR
 rw [F31, F31_t, T.run_sub, F94_eq n ds hl, Option.bind_some, T.run_test]
 by_cases c : isCut n ds = true
 ·obtain ⟨N, rfl, h3, h12, hlen, hc⟩ := isCut_cut c
  rw [c, if_neg (by decide), T.run_sub, F62_eq N ds (by omega) (by omega) (cut_rng hc), Option.bind_some, T.run_test, if_pos (by simp), T.run_ret, if_pos rfl, Int.toNat_natCast]
 ·rw [if_pos (by simp at c ⊢; exact c), T.run_test, if_pos (by rfl), T.run_ret, if_neg c]
def F45_sh : FSh := ⟨[(.one (.si .i64))], []⟩
def F45_L6_sh : LSh := ⟨(fun ex => match ex with | .norm => [(0, none), (3, none), (4, none), (5, none), (8, none), (9, none)] | .exit i => if i = 2 then [(0, none), (3, none), (8, none), (9, none)] else if i = 1 then [(0, none), (3, none), (8, none), (9, none)] else if i = 0 then [(3, none)] else [] | .ret => [(2, none)]), [(0, (.one (.si .i64))), (3, (.one (.rw 0 0))), (4, (.one (.si .i64))), (5, (.one (.si .i64))), (8, (.one (.si .i64))), (9, (.one (.si .i64)))], [(.row 0 (.pair (.int .i64) (.int .i64)))], [⟨(.exit 2), [(0, (.one (.si .i64))), (3, (.one (.rw 0 0))), (8, (.one (.si .i64))), (9, (.one (.si .i64)))], [(.row 0 (.pair (.int .i64) (.int .i64)))]⟩], [], []⟩
noncomputable def F45_L6_step : ((Int × Unit × Int × Int × Int × Int) × List ((Int × Int))) → T (((Int × Unit × Int × Int × Int × Int) × List ((Int × Int))) ⊕ ((Int × Unit × Int × Int) × List ((Int × Int)))) := fun ((n, (), low, high, t8, t9), out) =>
 (.test (decide (high < n))
 (.sub (F58 (n, (low, high))) fun z0 =>
 (.test z0
 (.test (decide (1 ≤ (List.length (List.set (List.replicate 1 ((0 : Int), (0 : Int))) 0 (low, high)))))
 (.test (decide ((0 + out.length) ≤ out.length))
 (.test (decide ((2 * ((out.length + (List.length (win (List.set (List.replicate 1 ((0 : Int), (0 : Int))) 0 (low, high)) 0 1))) * 17)) ≤ 140737488355328))
 (.test (decide ((0 = 0) ∧ ((out.length + (List.length (win (List.set (List.replicate 1 ((0 : Int), (0 : Int))) 0 (low, high)) 0 1))) = (List.length ((win out 0 out.length) ++ (win (List.set (List.replicate 1 ((0 : Int), (0 : Int))) 0 (low, high)) 0 1))))))
 (.ret (Sum.inl ((n, ((), (low, ((w64 (high + 1)), (t8, t9))))), ((win out 0 out.length) ++ (win (List.set (List.replicate 1 ((0 : Int), (0 : Int))) 0 (low, high)) 0 1)))))
 .fail)
 .fail)
 .fail)
 .fail)
 (.test (decide ((0 = 0) ∧ (out.length = out.length)))
 (.ret (Sum.inl ((n, ((), (low, ((w64 (high + 1)), (t8, t9))))), out)))
 .fail)))
 (.test (decide ((0 = 0) ∧ (out.length = out.length)))
 (.ret (Sum.inr ((n, ((), (t8, t9))), out)))
 .fail))
noncomputable def F45_L6 (v) := loopO (fun v => (F45_L6_step v).run) v
def F45_L3_sh : LSh := ⟨(fun ex => match ex with | .norm => [(0, none), (3, none), (8, none), (9, none)] | .exit i => if i = 0 then [(3, none)] else [] | .ret => [(2, none)]), [(0, (.one (.si .i64))), (3, (.one (.rw 0 0))), (8, (.one (.si .i64))), (9, (.one (.si .i64)))], [(.row 0 (.pair (.int .i64) (.int .i64)))], [⟨(.exit 0), [(3, (.one (.rw 0 0)))], [(.row 0 (.pair (.int .i64) (.int .i64)))]⟩], [], []⟩
noncomputable def F45_L3_step : ((Int × Unit × Int × Int) × List ((Int × Int))) → T (((Int × Unit × Int × Int) × List ((Int × Int))) ⊕ (Unit × List ((Int × Int)))) := fun ((n, (), t8, t9), out) =>
 (.test (decide (t9 < t8))
 (.test (decide ((0 = 0) ∧ (out.length = out.length)))
 (.sub (F45_L6 ((n, ((), (t9, ((w64 (t9 + 1)), (t8, t9))))), out)) fun z0 =>
 (.test (decide ((0 = 0) ∧ (z0.2.length = z0.2.length)))
 (.ret (Sum.inl ((z0.1.1, ((), (z0.1.2.2.1, (w64 (z0.1.2.2.2 + 1))))), z0.2)))
 .fail))
 .fail)
 (.test (decide ((0 = 0) ∧ (out.length = out.length)))
 (.ret (Sum.inr ((), out)))
 .fail))
noncomputable def F45_L3 (v) := loopO (fun v => (F45_L3_step v).run) v
def F45_fo : List FO := [⟨[(.one (.rw 0 0))], [(.row 0 (.pair (.int .i64) (.int .i64)))]⟩]
noncomputable def F45_t : Int → T (Unit × List ((Int × Int))) := fun n =>
 (.test true
 (.sub (F45_L3 ((n, ((), (n, (0 : Int)))), (List.replicate 0 ((0 : Int), (0 : Int))))) fun z0 =>
 (.test (decide ((0 = 0) ∧ (z0.2.length = z0.2.length)))
 (.ret ((), z0.2))
 .fail))
 .fail)
noncomputable def F45 (v) := (F45_t v).run
noncomputable def F45_E : TEnv := (E0.add1 n_F58 F58_sh F58_fo F58)
theorem F45_Eok : (F45_E).OK := (E0ok.add1 F58_ok)
noncomputable def F45_told : Nat → Option SealT := fun id => if id = 6 then some (LSh.told F45_L6_sh 0 (F45_L6_step)) else if id = 3 then some (LSh.told F45_L3_sh 0 (F45_L3_step)) else none
theorem F45_L6_ok : ToldOK Tryz.prog 0 (loopAt (bodyOf fn_F45) [0, 0]) (LSh.told F45_L6_sh 0 (F45_L6_step)) :=
 loop_ok (E := F45_E) (F45_Eok) (told := F45_told) (l := F45_L6_sh) (step := F45_L6_step) (loopsOK_of (ls := []) (by kernel_rfl) trivial) (by kernel_rfl) (fun v => by kernel_rfl)
theorem F45_L3_ok : ToldOK Tryz.prog 0 (loopAt (bodyOf fn_F45) [0]) (LSh.told F45_L3_sh 0 (F45_L3_step)) :=
 loop_ok (E := F45_E) (F45_Eok) (told := F45_told) (l := F45_L3_sh) (step := F45_L3_step) (loopsOK_of (ls := [loopAt (bodyOf fn_F45) [0, 0]]) (by kernel_rfl) ⟨.inr ⟨_, by kernel_rfl, F45_L6_ok⟩, trivial⟩) (by kernel_rfl) (fun v => by kernel_rfl)
theorem F45_ok : FOK Tryz.prog n_F45 F45_sh F45_fo F45 :=
 fn_ok (E := F45_E) (F45_Eok) (told := F45_told) (fl := []) (c := bodyOf fn_F45) (s := F45_sh) (l := F45_fo) (tree := F45_t) fnat_F45 (by kernel_rfl) (by kernel_rfl) (by kernel_rfl) (loopsOK_of (ls := [loopAt (bodyOf fn_F45) [0]]) (by kernel_rfl) ⟨.inr ⟨_, by kernel_rfl, F45_L3_ok⟩, trivial⟩) (fun v => by kernel_rfl)
theorem F45_row (n a : Nat) (t8 t9 : Int) (hn : n ≤ 1000) : ∀ (m b : Nat) (out : List Dg), b + m = n → out.length + m ≤ 1000000 →
  F45_L6 (((n : Int), ((), ((a : Int), ((b : Int), (t8, t9))))), out) = some (((n : Int), ((), (t8, t9))), out ++ rowD n a b)
 | 0, b, out, hb, ho => by
  have : b = n := by omega
  subst this
  rw [rowD_end, List.append_nil]
  simp only [F45_L6]
  exact loopO_done (by simp [F45_L6_step, T.run])
 | m + 1, b, out, hb, ho => by
  have c0 : (b : Int) < (n : Int) := by omega
  have w1 : w64 ((b : Int) + 1) = ((b + 1 : Nat) : Int) := by rw [w64_id (by omega) (by omega)]; omega
  have c1 : 2 * ((out.length + 1) * 17) ≤ 140737488355328 := by omega
  have hd := F58_eq (n : Int) ((a : Int), (b : Int)) (by omega) (by omega)
  rw [rowD_step (by omega : b < n)]
  cases hg : inDg n ((a : Int), (b : Int)) with
  | true =>
   have ih := F45_row n a t8 t9 hn m (b + 1) (out ++ [((a : Int), (b : Int))]) (by omega) (by simp; omega)
   simp only [F45_L6] at ih ⊢
   rw [hg] at hd
   have st : (F45_L6_step (((n : Int), ((), ((a : Int), ((b : Int), (t8, t9))))), out)).run = some (.inl (((n : Int), ((), ((a : Int), (((b + 1 : Nat) : Int), (t8, t9))))), out ++ [((a : Int), (b : Int))])) := by
    simp only [F45_L6_step, T.run, c0, hd, decide_true, if_true, Option.bind_some, win_one, win_all, List.length_cons, List.length_nil, Nat.zero_add, c1, w1, List.length_set, List.length_replicate, Nat.le_refl, List.length_append, true_and]
   rw [loopO_next st, ih]
   simp
  | false =>
   have ih := F45_row n a t8 t9 hn m (b + 1) out (by omega) (by omega)
   simp only [F45_L6] at ih ⊢
   rw [hg] at hd
   have st : (F45_L6_step (((n : Int), ((), ((a : Int), ((b : Int), (t8, t9))))), out)).run = some (.inl (((n : Int), ((), ((a : Int), (((b + 1 : Nat) : Int), (t8, t9))))), out)) := by
    simp only [F45_L6_step, T.run, c0, hd, decide_true, if_true, Option.bind_some, Bool.false_eq_true, if_false, w1, true_and]
   rw [loopO_next st, ih]
   simp
theorem F45_rows (n : Nat) (hn : n ≤ 12) : ∀ (m a : Nat) (out : List Dg), a + m = n → out.length ≤ 1000 * a →
  F45_L3 (((n : Int), ((), ((n : Int), (a : Int)))), out) = some ((), out ++ rowsD n a)
 | 0, a, out, ha, ho => by
  have : a = n := by omega
  subst this
  rw [rowsD_end, List.append_nil]
  simp only [F45_L3]
  exact loopO_done (by simp [F45_L3_step, T.run])
 | m + 1, a, out, ha, ho => by
  have c0 : (a : Int) < (n : Int) := by omega
  have w1 : w64 ((a : Int) + 1) = ((a + 1 : Nat) : Int) := by rw [w64_id (by omega) (by omega)]; omega
  have hr := F45_row n a (n : Int) (a : Int) (by omega) (n - (a + 1)) (a + 1) out (by omega) (by omega)
  rw [← rowD_front n a (a + 1) (by omega)] at hr
  have hl := rowD_len n a 0
  have ih := F45_rows n hn m (a + 1) (out ++ rowD n a 0) (by omega) (by rw [List.length_append]; omega)
  rw [rowsD_step (by omega : a < n), ← List.append_assoc]
  simp only [F45_L3] at ih ⊢
  rw [← ih]
  refine loopO_next ?_
  simp only [F45_L3_step, T.run, c0, decide_true, if_true, true_and, w1, hr, Option.bind_some]
theorem F45_eq (n : Nat) (hn : n ≤ 12) : F45 (n : Int) = some ((), dgL n) := by
 have h := F45_rows n hn n 0 [] (by omega) (by simp)
 have e : rowsD n 0 = dgL n := by unfold rowsD; rw [List.drop_zero, dgL_rows]
 rw [e, List.nil_append, Int.natCast_zero] at h
 simp only [F45, F45_t, T.run, List.replicate_zero, h, Option.bind_some]
 simp
def eqD (d e : Dg) : Bool := d.1 == e.1 && (d.2 == e.2 && true)
theorem eqD_iff (d e : Dg) : eqD d e = true ↔ d = e := by
 obtain ⟨a, b⟩ := d
 obtain ⟨x, y⟩ := e
 simp [eqD]
def hasD (s : List Dg) (d : Dg) : Bool := s.any (eqD d)
def F19_sh : FSh := ⟨[(.one (.sl (.pair (.int .i64) (.int .i64)) false false)), (.ag [(.si .i64), (.si .i64)])], []⟩
def F19_L2_sh : LSh := ⟨(fun ex => match ex with | .norm => [(0, none), (3, none), (7, none), (8, none)] | .exit i => if i = 0 then [] else [] | .ret => [(4, none)]), [(0, (.one (.sl (.pair (.int .i64) (.int .i64)) false false))), (3, (.one (.pf 0 0 0))), (7, (.one (.si .i64))), (8, (.one (.si .i64)))], [(.rcd 0 [(.si .i64), (.si .i64)])], [⟨.ret, [(4, (.one (.si .i64)))], []⟩, ⟨(.exit 0), [], []⟩], [], []⟩
noncomputable def F19_L2_step : ((List ((Int × Int)) × Unit × Int × Int) × (Int × Int)) → T (((List ((Int × Int)) × Unit × Int × Int) × (Int × Int)) ⊕ (Int ⊕ Unit)) := fun ((s, (), t7, t8), (v_0, v_1)) =>
 (.test (decide (t8 < t7))
 (.test (decide ((0 ≤ t8) ∧ (t8 < (s.length : Int))))
 (.sub (s[(Int.toNat t8)]?) fun z0 =>
 (.test ((v_0 == z0.1) && ((v_1 == z0.2) && true))
 (.ret (Sum.inr (Sum.inl t8)))
 (.ret (Sum.inl ((s, ((), (t7, (w64 (t8 + 1))))), (v_0, v_1))))))
 .fail)
 (.ret (Sum.inr (Sum.inr ()))))
noncomputable def F19_L2 (v) := loopO (fun v => (F19_L2_step v).run) v
def F19_fo : List FO := [⟨[(.one (.si .i64))], []⟩]
noncomputable def F19_t : (List ((Int × Int)) × (Int × Int)) → T Int := fun (s, (v_0, v_1)) =>
 (.sub (F19_L2 ((s, ((), ((s.length : Int), (0 : Int)))), (v_0, v_1))) fun z0 =>
 (.test (Sum.isLeft z0)
 (.sub (Sum.getLeft? z0) fun z1 =>
 (.ret z1))
 (.sub (Sum.getRight? z0) fun z2 =>
 (.ret (-1)))))
noncomputable def F19 (v) := (F19_t v).run
noncomputable def F19_E : TEnv := E0
theorem F19_Eok : (F19_E).OK := E0ok
noncomputable def F19_told : Nat → Option SealT := fun id => if id = 2 then some (LSh.told F19_L2_sh 0 (F19_L2_step)) else none
theorem F19_L2_ok : ToldOK Tryz.prog 0 (loopAt (bodyOf fn_F19) [0]) (LSh.told F19_L2_sh 0 (F19_L2_step)) :=
 loop_ok (E := F19_E) (F19_Eok) (told := F19_told) (l := F19_L2_sh) (step := F19_L2_step) (loopsOK_of (ls := []) (by kernel_rfl) trivial) (by kernel_rfl) (fun v => by kernel_rfl)
theorem F19_ok : FOK Tryz.prog n_F19 F19_sh F19_fo F19 :=
 fn_ok (E := F19_E) (F19_Eok) (told := F19_told) (fl := []) (c := bodyOf fn_F19) (s := F19_sh) (l := F19_fo) (tree := F19_t) fnat_F19 (by kernel_rfl) (by kernel_rfl) (by kernel_rfl) (loopsOK_of (ls := [loopAt (bodyOf fn_F19) [0]]) (by kernel_rfl) ⟨.inr ⟨_, by kernel_rfl, F19_L2_ok⟩, trivial⟩) (fun v => by kernel_rfl)
theorem F19_eq (s : List Dg) (v : Dg) (hl : s.length < 4611686018427387904) : F19 (s, v) = some (idxI (eqD v) s) := by
 obtain ⟨v0, v1⟩ := v
 have h := loop_find (step := fun v => (F19_L2_step v).run) (xs := s) (eqD (v0, v1)) (fun k => ((s, ((), ((s.length : Int), (k : Int)))), (v0, v1))) (fun k => .inl (k : Int)) (.inr ())
  (fun k x hx => by
   have hlt := getElem?_lt hx
   have h1 : (k : Int) < (s.length : Int) := by omega
   have h2 : (0 : Int) ≤ k ∧ (k : Int) < (s.length : Int) := by omega
   simp only [F19_L2_step, T.run, Int.toNat_natCast, hx, Option.bind_some, h1, h2, decide_true, if_true, and_self]
   rw [w64_id (z := (k : Int) + 1) (by omega) (by omega)]
   change (if eqD (v0, v1) x = true then _ else _) = _
   cases hv : eqD (v0, v1) x <;> simp)
  (by simp [F19_L2_step, T.run])
 rw [show ((0 : Nat) : Int) = 0 from rfl] at h
 simp only [F19, F19_t, T.run, F19_L2]
 rw [h]
 simp only [idxI]
 cases hf : s.findIdx? (eqD (v0, v1)) <;> simp [Sum.isLeft]
def F17_sh : FSh := ⟨[(.one (.sl (.pair (.int .i64) (.int .i64)) false false)), (.ag [(.si .i64), (.si .i64)])], []⟩
def F17_fo : List FO := [⟨[(.one .sb)], []⟩]
noncomputable def F17_t : (List ((Int × Int)) × (Int × Int)) → T Bool := fun (s, (v_0, v_1)) =>
 (.sub (F19 (s, (v_0, v_1))) fun z0 =>
 (.ret (decide (z0 ≥ 0))))
noncomputable def F17 (v) := (F17_t v).run
noncomputable def F17_E : TEnv := (E0.add1 n_F19 F19_sh F19_fo F19)
theorem F17_Eok : (F17_E).OK := (E0ok.add1 F19_ok)
noncomputable def F17_told : Nat → Option SealT := fun id => none
theorem F17_ok : FOK Tryz.prog n_F17 F17_sh F17_fo F17 :=
 fn_ok (E := F17_E) (F17_Eok) (told := F17_told) (fl := []) (c := bodyOf fn_F17) (s := F17_sh) (l := F17_fo) (tree := F17_t) fnat_F17 (by kernel_rfl) (by kernel_rfl) (by kernel_rfl) (loopsOK_of (ls := []) (by kernel_rfl) trivial) (fun v => by kernel_rfl)
theorem F17_eq (s : List Dg) (v : Dg) (hl : s.length < 4611686018427387904) : F17 (s, v) = some (hasD s v) := by
 have h := F19_eq s v hl
 obtain ⟨v0, v1⟩ := v
 simp only [F17, F17_t, T.run, h, Option.bind_some, idxI_ge]
 rfl
def chA (n : Int) : Nat → Nat → Int → Int
 | 0, _, out => out
 | m + 1, i, out => chA n m (i + 1) (w64 (Int.tdiv (w64 (out * (w64 (n - (i : Int))))) ((i + 1 : Nat) : Int)))
def catV (s : Int) : Int := w64 (Int.tdiv (chA (2 * s - 4) (s - 2).toNat 0 1) (s - 1))
theorem len_split {p : List Int} (hs : p.Pairwise (· < ·)) {a b : Int} (ha : a ∈ p) (hb : b ∈ p) (hab : a < b) : (p.filter fun v => decide (v ≤ a ∨ b ≤ v)).length + (p.filter fun v => decide (a ≤ v ∧ v ≤ b)).length = p.length + 2 := by
 obtain ⟨A, R, rfl⟩ := List.append_of_mem ha
 obtain ⟨hA, hR, hAR⟩ := List.pairwise_append.1 hs
 have hbR : b ∈ R := by
  rcases List.mem_append.1 hb with h | h
  ·have := hAR b h a (by simp); omega
  ·rcases List.mem_cons.1 h with h | h
   ·omega
   ·exact h
 obtain ⟨B, C, rfl⟩ := List.append_of_mem hbR
 have hR' := List.pairwise_cons.1 hR
 obtain ⟨hB, hC, hBC⟩ := List.pairwise_append.1 hR'.2
 have hC' := List.pairwise_cons.1 hC
 have a1 : ∀ x ∈ A, x < a := fun x hx => hAR x hx a (by simp)
 have b1 : ∀ x ∈ B, a < x ∧ x < b := fun x hx => ⟨hR'.1 x (by simp [hx]), hBC x hx b (by simp)⟩
 have c1 : ∀ x ∈ C, b < x := fun x hx => hC'.1 x hx
 have fA1 : (A.filter fun v => decide (v ≤ a ∨ b ≤ v)) = A := List.filter_eq_self.2 fun x hx => by have := a1 x hx; simp; omega
 have fA2 : (A.filter fun v => decide (a ≤ v ∧ v ≤ b)) = [] := List.filter_eq_nil_iff.2 fun x hx => by have := a1 x hx; simp; omega
 have fB1 : (B.filter fun v => decide (v ≤ a ∨ b ≤ v)) = [] := List.filter_eq_nil_iff.2 fun x hx => by have := b1 x hx; simp; omega
 have fB2 : (B.filter fun v => decide (a ≤ v ∧ v ≤ b)) = B := List.filter_eq_self.2 fun x hx => by have := b1 x hx; simp; omega
 have fC1 : (C.filter fun v => decide (v ≤ a ∨ b ≤ v)) = C := List.filter_eq_self.2 fun x hx => by have := c1 x hx; simp; omega
 have fC2 : (C.filter fun v => decide (a ≤ v ∧ v ≤ b)) = [] := List.filter_eq_nil_iff.2 fun x hx => by have := c1 x hx; simp; omega
 simp only [List.filter_append, List.filter_cons, fA1, fA2, fB1, fB2, fC1, fC2, List.length_append]
 rw [if_pos (by simp), if_pos (by simp), if_pos (by simp; omega), if_pos (by simp; omega)]
 simp only [List.length_cons, List.length_append, List.length_nil]
 omega
theorem implP_snoc (n : Nat) (ds : List Dg) (d : Dg) : implP n (ds ++ [d]) = splitD d (implP n ds) := by simp [implP, List.foldl_append]
theorem implP_sum (n : Nat) (hn : 3 ≤ n) : ∀ (m : Nat) (ds : List Dg), ds.length = m → CutD n ds → ((implP n ds).map List.length).sum = n + 2 * ds.length
 | 0, ds, hm, _ => by
  obtain rfl := List.eq_nil_of_length_eq_zero hm
  simp [implP, nameL_length]
 | m + 1, ds, hm, h => by
  rcases List.eq_nil_or_concat ds with rfl | ⟨es, d, rfl⟩
  ·simp at hm
  ·rw [List.concat_eq_append] at h hm ⊢
   have hes := h.front
   have ih := implP_sum n hn m es (by simpa using hm) hes
   obtain ⟨k, hk⟩ := more_exists h
   have hp := implP_perm n hn es hes
   have hmem : pcs n es k ∈ implP n es := hp.mem_iff.2 (List.mem_map_of_mem hk.key)
   obtain ⟨l, p, r, e1, e2, e3, e4⟩ := splitD_at d (implP n es) ⟨_, hmem, hk.lo, hk.hi⟩
   have hpm : p ∈ implP n es := by rw [e1]; simp
   obtain ⟨k', _, hk'⟩ := List.mem_map.1 (hp.mem_iff.1 hpm)
   have hsort : p.Pairwise (· < ·) := by rw [← hk']; exact pcs_sorted _ _ _
   have hd := h.1 d (by simp)
   have hl := len_split hsort e2 e3 (by omega)
   rw [implP_snoc, e4]
   rw [e1] at ih
   simp only [List.map_append, List.map_cons, List.map_nil, List.sum_append, List.sum_cons, List.sum_nil, List.length_append, List.length_cons, List.length_nil] at ih ⊢
   omega
theorem szL_sum {n : Nat} {ds : List Dg} (h : CutD n ds) (hn : 3 ≤ n) : (szL n ds).sum = (n : Int) + 2 * (ds.length : Int) := by
 have h1 := implP_sum n hn ds.length ds rfl h
 have hp : (sortL (specP n ds)).Perm (implP n ds) := (sortL_perm _).trans (pieces_same hn h).symm
 have cast : ∀ l : List (List Int), (l.map fun p => (p.length : Int)).sum = ((l.map List.length).sum : Nat) := by
  intro l
  induction l with
  | nil => rfl
  | cons a t ih => rw [List.map_cons, List.map_cons, List.sum_cons, List.sum_cons, ih]; omega
 unfold szL
 rw [cast, (hp.map List.length).sum_nat, h1]
 omega
theorem catV_cases : ∀ s : Int, 3 ≤ s → s ≤ 12 → 1 ≤ catV s ∧ catV s ≤ 4 ^ (s - 2).toNat ∧ (catV s = 1 ↔ s = 3) := by
 have : ∀ k : Nat, k ≤ 9 → 1 ≤ catV ((k : Int) + 3) ∧ catV ((k : Int) + 3) ≤ 4 ^ ((k : Int) + 3 - 2).toNat ∧ (catV ((k : Int) + 3) = 1 ↔ (k : Int) + 3 = 3) := by decide +kernel
 intro s h1 h2
 have h := this (s - 3).toNat (by omega)
 rwa [show (((s - 3).toNat : Nat) : Int) + 3 = s by omega] at h
theorem prodW : ∀ (l : List Int) (o : Int), 1 ≤ o → (∀ s ∈ l, 3 ≤ s ∧ s ≤ 12) → o * 4 ^ ((l.map fun s => (s - 2).toNat).sum) ≤ 1099511627776 →
  ∃ c, 1 ≤ c ∧ (c = 1 ↔ ∀ s ∈ l, s = 3) ∧ l.foldl (fun o s => w64 (o * catV s)) o = o * c
 | [], o, ho, _, _ => ⟨1, by omega, by simp, by simp⟩
 | s :: t, o, ho, hl, hb => by
  obtain ⟨c1, c2, c3⟩ := catV_cases s (hl s (by simp)).1 (hl s (by simp)).2
  rw [List.map_cons, List.sum_cons, Int.pow_add, ← Int.mul_assoc] at hb
  have hp : (1 : Int) ≤ 4 ^ ((t.map fun s => (s - 2).toNat).sum) := by
   have : (0 : Int) < 4 ^ ((t.map fun s => (s - 2).toNat).sum) := Int.pow_pos (by omega)
   omega
  have h1 : o * catV s ≤ o * 4 ^ (s - 2).toNat := Int.mul_le_mul_of_nonneg_left c2 (by omega)
  have h0 : 1 ≤ o * catV s := by
   have : 1 * 1 ≤ o * catV s := Int.mul_le_mul ho c1 (by omega) (by omega)
   omega
  have h2 : o * catV s * 4 ^ ((t.map fun s => (s - 2).toNat).sum) ≤ o * 4 ^ (s - 2).toNat * 4 ^ ((t.map fun s => (s - 2).toNat).sum) := Int.mul_le_mul_of_nonneg_right h1 (by omega)
  have h3 : o * catV s * 1 ≤ o * catV s * 4 ^ ((t.map fun s => (s - 2).toNat).sum) := Int.mul_le_mul_of_nonneg_left hp (by omega)
  have hw : w64 (o * catV s) = o * catV s := w64_id (by omega) (by omega)
  obtain ⟨c, d1, d2, d3⟩ := prodW t (o * catV s) h0 (fun x hx => hl x (by simp [hx])) (by omega)
  refine ⟨catV s * c, ?_, ?_, ?_⟩
  ·have : 1 * 1 ≤ catV s * c := Int.mul_le_mul c1 d1 (by omega) (by omega)
   omega
  ·constructor
   ·intro e x hx
    have hs1 : catV s = 1 := by
     rcases (by omega : catV s = 1 ∨ 2 ≤ catV s) with h | h
     ·exact h
     ·have : 2 * 1 ≤ catV s * c := Int.mul_le_mul h d1 (by omega) (by omega)
      omega
    rw [hs1, Int.one_mul] at e
    rcases List.mem_cons.1 hx with rfl | hx
    ·exact c3.1 hs1
    ·exact d2.1 e x hx
   ·intro e
    rw [c3.2 (e s (by simp)), d2.2 fun x hx => e x (by simp [hx])]
    rfl
  ·rw [List.foldl_cons, hw, d3, Int.mul_assoc]
theorem isTri_isCut (n : Int) (ds : List Dg) : isTri n ds = (isCut n ds && decide ((ds.length : Int) = n - 3)) := by
 unfold isTri isCut
 by_cases h : (ds.length : Int) = n - 3
 ·rw [decide_eq_true h, decide_eq_true (by omega : (ds.length : Int) ≤ n - 3)]
  simp
 ·rw [decide_eq_false h]
  simp
theorem finer_one {n : Int} {ds : List Dg} (h : isCut n ds = true) : (szL n.toNat ds).foldl (fun o s => w64 (o * catV s)) 1 = 1 ↔ isTri n ds = true := by
 obtain ⟨k, rfl, h3, h12, hl, hc⟩ := isCut_cut h
 rw [Int.toNat_natCast]
 have hsum := szL_sum hc h3
 have hlen := szL_len hc h3
 have hb : ∀ s ∈ szL k ds, 3 ≤ s ∧ s ≤ 12 := fun s hs => by have := szL_mem hc h3 hs; omega
 have sums : ∀ l : List Int, (∀ s ∈ l, 3 ≤ s ∧ s ≤ 12) → (((l.map fun s => (s - 2).toNat).sum : Nat) : Int) = l.sum - 2 * (l.length : Int) ∧ 3 * (l.length : Int) ≤ l.sum ∧ (l.sum = 3 * (l.length : Int) ↔ ∀ s ∈ l, s = 3) := by
  intro l
  induction l with
  | nil => intro _; simp
  | cons a t ih =>
   intro hb
   obtain ⟨i1, i2, i3⟩ := ih fun s hs => hb s (by simp [hs])
   have ha := hb a (by simp)
   simp only [List.map_cons, List.sum_cons, List.length_cons]
   refine ⟨by omega, by omega, ?_⟩
   constructor
   ·intro e x hx
    rcases List.mem_cons.1 hx with rfl | hx
    ·omega
    ·exact i3.1 (by omega) x hx
   ·intro e
    have e1 := e a (by simp)
    have e2 := i3.2 fun s hs => e s (by simp [hs])
    omega
 obtain ⟨s1, s2, s3⟩ := sums _ hb
 have hexp : ((szL k ds).map fun s => (s - 2).toNat).sum ≤ 10 := by omega
 have hpow : (4 : Int) ^ (((szL k ds).map fun s => (s - 2).toNat).sum) ≤ 4 ^ 10 := by
  have : (4 : Nat) ^ (((szL k ds).map fun s => (s - 2).toNat).sum) ≤ 4 ^ 10 := Nat.pow_le_pow_right (by omega) hexp
  have h2 := Int.ofNat_le.2 this
  simpa using h2
 obtain ⟨c, c1, c2, c3⟩ := prodW (szL k ds) 1 (by omega) hb (by
  have : (4 : Int) ^ 10 = 1048576 := by decide
  omega)
 rw [c3, Int.one_mul, c2, ← s3, isTri_isCut, h, Bool.true_and, decide_eq_true_eq]
 omega
theorem mem_dgL {n : Nat} {d : Dg} (h : inDg n d = true) : d ∈ dgL n := by
 have h' := inDg_iff.1 h
 unfold dgL
 rw [List.mem_flatMap]
 refine ⟨d.1.toNat, List.mem_range.2 (by omega), List.mem_filter.2 ⟨List.mem_map.2 ⟨d.2.toNat, List.mem_range.2 (by omega), ?_⟩, h⟩⟩
 obtain ⟨a, b⟩ := d
 simp only [Prod.mk.injEq]
 simp only at h'
 omega
theorem mem_dgL_iff {n : Nat} {d : Dg} : d ∈ dgL n ↔ inDg n d = true := by
 refine ⟨fun h => ?_, mem_dgL⟩
 unfold dgL at h
 obtain ⟨a, _, h⟩ := List.mem_flatMap.1 h
 exact (List.mem_filter.1 h).2
theorem piece_sum (s : Nat) (h3 : 3 ≤ s) (h12 : s ≤ 12) : ((dgL s).map fun d => catV (d.2 - d.1 + 1) * catV ((s : Int) - (d.2 - d.1) + 1)).sum = ((s : Int) - 3) * catV s := by
 have : ∀ s : Nat, s ≤ 12 → 3 ≤ s → ((dgL s).map fun d => catV (d.2 - d.1 + 1) * catV ((s : Int) - (d.2 - d.1) + 1)).sum = ((s : Int) - 3) * catV s := by decide +kernel
 exact this s h12 h3
theorem half_in {p : List Int} (hs : p.Pairwise (· < ·)) {i j : Nat} (hij : i < j) (hj : j < p.length) : (p.filter fun v => decide (p[i] ≤ v ∧ v ≤ p[j])).length = j - i + 1 := by
 have lt := fun a b (ha : a < p.length) (hb : b < p.length) => sorted_lt hs ha hb
 rw [filter_mid p _ i (j + 1) (by omega) (by omega) (fun x h hx => by have := (lt x i h (by omega)).2 hx; rw [decide_eq_false_iff_not]; omega)
  (fun x h h1 h2 => by
   rw [decide_eq_true_eq]
   have a := lt x i h (by omega)
   have b := lt j x hj h
   omega)
  (fun x h hx => by have := (lt j x hj h).2 (by omega); rw [decide_eq_false_iff_not]; omega), List.length_take, List.length_drop]
 omega
theorem half_out {p : List Int} (hs : p.Pairwise (· < ·)) {i j : Nat} (hij : i < j) (hj : j < p.length) : (p.filter fun v => decide (v ≤ p[i] ∨ p[j] ≤ v)).length = p.length - (j - i) + 1 := by
 have lt := fun a b (ha : a < p.length) (hb : b < p.length) => sorted_lt hs ha hb
 rw [filter_out p _ (i + 1) j (by omega) (by omega)
  (fun x h hx => by have a := lt i x (by omega) h; rw [decide_eq_true_eq]; omega)
  (fun x h h1 h2 => by
   rw [decide_eq_false_iff_not]
   have a := (lt i x (by omega) h).2 (by omega)
   have b := (lt x j h hj).2 h2
   omega)
  (fun x h hx => by have a := lt x j h hj; rw [decide_eq_true_eq]; omega), List.length_append, List.length_take, List.length_drop]
 omega
theorem prod_change {A : Type} (f g : A → Int) (k : A) : ∀ l : List A, l.Nodup → k ∈ l → (∀ x ∈ l, x ≠ k → f x = g x) → (l.map g).prod * f k = (l.map f).prod * g k
 | [], _, hk, _ => by cases hk
 | a :: t, hn, hk, h => by
  obtain ⟨h1, h2⟩ := List.nodup_cons.1 hn
  rw [List.map_cons, List.map_cons, List.prod_cons, List.prod_cons]
  by_cases e : a = k
  ·subst e
   have : t.map g = t.map f := List.map_congr_left fun x hx => (h x (List.mem_cons_of_mem _ hx) fun e => h1 (e ▸ hx)).symm
   rw [this]
   generalize (t.map f).prod = P
   generalize f a = u
   generalize g a = v
   grind
  ·have hkt : k ∈ t := by
    rcases List.mem_cons.1 hk with h | h
    ·exact absurd h.symm e
    ·exact h
   have ih := prod_change f g k t h2 hkt fun x hx => h x (List.mem_cons_of_mem _ hx)
   rw [h a (by simp) e, Int.mul_assoc, ih, Int.mul_assoc]
def Fd (n : Nat) (ds : List Dg) : Int := ((wholeD n :: ds).map fun k => catV ((pcs n ds k).length : Int)).prod
theorem prod_append_one {A : Type} (f : A → Int) (d : A) : ∀ l : List A, ((l ++ [d]).map f).prod = (l.map f).prod * f d
 | [] => by simp
 | a :: t => by rw [List.cons_append, List.map_cons, List.prod_cons, prod_append_one f d t, List.map_cons, List.prod_cons, Int.mul_assoc]
theorem F_more {n : Nat} {ds : List Dg} {d k : Dg} (h : MoreD n ds d k) : Fd n (ds ++ [d]) * catV ((pcs n ds k).length : Int) = Fd n ds * (catV (((pcs n ds k).filter fun v => decide (v ≤ d.1 ∨ d.2 ≤ v)).length : Int) * catV (((pcs n ds k).filter fun v => decide (d.1 ≤ v ∧ v ≤ d.2)).length : Int)) := by
 have hn := (h.cut.front).nodup
 have hc := prod_change (fun l => catV ((pcs n ds l).length : Int)) (fun l => catV ((pcs n (ds ++ [d]) l).length : Int)) k (wholeD n :: ds) hn h.key (fun l hl hne => by rw [more_else h hl hne])
 have e : Fd n (ds ++ [d]) = ((wholeD n :: ds).map fun l => catV ((pcs n (ds ++ [d]) l).length : Int)).prod * catV ((pcs n (ds ++ [d]) d).length : Int) := by
  unfold Fd
  rw [← List.cons_append, prod_append_one]
 rw [e, more_mid h, ← more_front h, Int.mul_assoc, Int.mul_comm (catV _) (catV ((pcs n ds k).length : Int)), ← Int.mul_assoc, hc]
 unfold Fd
 rw [Int.mul_assoc]
theorem pc_in {n : Nat} {ds : List Dg} (h : CutD n ds) {k : Dg} (hk : k ∈ wholeD n :: ds) {i j : Nat} (hij : i + 2 ≤ j) (hj : j < (pcs n ds k).length) (hne : (((pcs n ds k)[i]'(by omega), (pcs n ds k)[j]) : Dg) ≠ k) :
  ((pcs n ds k)[i]'(by omega)) + 1 < (pcs n ds k)[j] ∧ (((pcs n ds k)[i]'(by omega), (pcs n ds k)[j]) : Dg) ∉ ds ∧ ∀ e ∈ ds, crossD ((pcs n ds k)[i]'(by omega), (pcs n ds k)[j]) e = false := by
 have hs := pcs_sorted n ds k
 have mi := pcs_mem.1 (List.getElem_mem (show i < (pcs n ds k).length by omega))
 have mm := pcs_mem.1 (List.getElem_mem (show i + 1 < (pcs n ds k).length by omega))
 have mj := pcs_mem.1 (List.getElem_mem hj)
 have l1 := (sorted_lt hs (show i < (pcs n ds k).length by omega) (show i + 1 < (pcs n ds k).length by omega)).2 (by omega)
 have l2 := (sorted_lt hs (show i + 1 < (pcs n ds k).length by omega) hj).2 (by omega)
 refine ⟨by omega, fun hm => ?_, fun e he => ?_⟩
 ·exact mm.2.2 _ hm (by dsimp only; omega) (by dsimp only; omega) hne (by dsimp only; omega) (by dsimp only; omega)
 ·have ap := h.apart (List.mem_cons_of_mem _ he) hk
  have ap2 := h.apart hk (List.mem_cons_of_mem _ he)
  cases hc : crossD ((pcs n ds k)[i]'(by omega), (pcs n ds k)[j]) e with
  | false => rfl
  | true =>
   exfalso
   unfold crossD at hc
   simp only [Bool.or_eq_true, Bool.and_eq_true, decide_eq_true_eq] at hc
   have ne : e ≠ k := fun e' => by subst e'; omega
   rcases hc with hc | hc
   ·exact mj.2.2 e he (by omega) (by omega) ne (by omega) (by omega)
   ·exact mi.2.2 e he (by omega) (by omega) ne (by omega) (by omega)
theorem pc_out {n : Nat} {ds : List Dg} {d k : Dg} (hn : 3 ≤ n) (h : MoreD n ds d k) : ∃ i j : Nat, ∃ hj : j < (pcs n ds k).length, ∃ hij : i + 2 ≤ j, (pcs n ds k)[i]'(by omega) = d.1 ∧ (pcs n ds k)[j] = d.2 := by
 have hs := pcs_sorted n ds k
 have hd := h.cut.1 d (by simp)
 have hcut := h.cut.front
 obtain ⟨i, hi, ei⟩ := List.mem_iff_getElem.1 h.lo
 obtain ⟨j, hj, ej⟩ := List.mem_iff_getElem.1 h.hi
 have hij : i < j := (sorted_lt hs hi hj).1 (by omega)
 refine ⟨i, j, hj, ?_, ei, ej⟩
 refine Decidable.byContradiction fun hh => ?_
 have hj1 : j = i + 1 := by omega
 have henc := h.enc
 have hdn : d ∉ ds := fun hm => ((List.pairwise_append.1 h.cut.2).2.2 d hm d (by simp)).1 rfl
 have hkl := key_low hcut hn h.key
 obtain ⟨c, c1, c2, c3, c4, c5⟩ := next_exists (n := n) (ds := ds) (k := k) (i := d.1) (by omega) (by omega)
 obtain ⟨m1, m2⟩ := next_corner hcut hn h.key h.lo c1 c2 c3 c4 c5
 have hcd : c = d.2 := by
  rcases (by omega : c < d.2 ∨ c = d.2 ∨ d.2 < c) with hlt | e | hlt
  ·exfalso
   obtain ⟨x, hx, ex⟩ := List.mem_iff_getElem.1 m1
   have a1 := (sorted_lt hs hi hx).1 (by omega)
   have a2 := (sorted_lt hs hx hj).1 (by omega)
   omega
  ·exact e
  ·exact absurd h.hi (m2 d.2 (by omega) hlt)
 rw [hcd, joinD_iff] at c3
 rcases c3 with q | q | q
 ·omega
 ·exact hd.2.2.2 (Prod.ext (by show d.1 = 0; omega) (by show d.2 = (n : Int) - 1; omega))
 ·exact hdn q
def pd (n : Nat) (ds : List Dg) (k x : Dg) : Dg := ((pcs n ds k).getD x.1.toNat 0, (pcs n ds k).getD x.2.toNat 0)
def cutsL (n : Nat) (ds : List Dg) : List Dg := (wholeD n :: ds).flatMap fun k => (dgL (pcs n ds k).length).map (pd n ds k)
def freeL (n : Nat) (ds : List Dg) : List Dg := (dgL n).filter fun d => !decide (d ∈ ds) && ds.all fun e => !crossD d e
theorem free_more {n : Nat} {ds : List Dg} (h : CutD n ds) (hn : 3 ≤ n) {d : Dg} : d ∈ freeL n ds ↔ CutD n (ds ++ [d]) := by
 unfold freeL
 rw [List.mem_filter, mem_dgL_iff, inDg_iff, Bool.and_eq_true, Bool.not_eq_true', decide_eq_false_iff_not, List.all_eq_true]
 constructor
 ·rintro ⟨h1, h2, h3⟩
  refine ⟨fun e he => ?_, List.pairwise_append.2 ⟨h.2, by simp, fun a ha b hb => ?_⟩⟩
  ·rcases List.mem_append.1 he with he | he
   ·exact h.1 e he
   ·rw [List.mem_singleton] at he
    subst he
    refine ⟨by omega, by omega, by omega, fun e' => ?_⟩
    have e1 := congrArg Prod.fst e'
    have e2 := congrArg Prod.snd e'
    unfold wholeD at e1 e2
    dsimp only at e1 e2
    omega
  ·rw [List.mem_singleton] at hb
   subst hb
   refine ⟨fun e' => h2 (e' ▸ ha), ?_⟩
   have := h3 a ha
   rw [crossD_comm]
   simpa using this
 ·intro hc
  have hd := hc.1 d (by simp)
  have hp := (List.pairwise_append.1 hc.2).2.2
  refine ⟨⟨by omega, by omega, by omega, fun e => hd.2.2.2 (Prod.ext (by show d.1 = 0; omega) (by show d.2 = (n : Int) - 1; omega))⟩, fun hm => (hp d hm d (by simp)).1 rfl, fun e he => ?_⟩
  have := (hp e he d (by simp)).2
  rw [crossD_comm] at this
  simp [this]
theorem cuts_mem {n : Nat} {ds : List Dg} (h : CutD n ds) (hn : 3 ≤ n) {d : Dg} : d ∈ cutsL n ds ↔ d ∈ freeL n ds := by
 constructor
 ·intro hd
  unfold cutsL at hd
  obtain ⟨k, hk, hd⟩ := List.mem_flatMap.1 hd
  obtain ⟨x, hx, rfl⟩ := List.mem_map.1 hd
  have hi := inDg_iff.1 (mem_dgL_iff.1 hx)
  have hs := pcs_sorted n ds k
  have hil : x.1.toNat < (pcs n ds k).length := by omega
  have hjl : x.2.toNat < (pcs n ds k).length := by omega
  have e : pd n ds k x = ((pcs n ds k)[x.1.toNat], (pcs n ds k)[x.2.toNat]) := by
   unfold pd
   rw [List.getD_eq_getElem?_getD, List.getD_eq_getElem?_getD, List.getElem?_eq_getElem hil, List.getElem?_eq_getElem hjl]; rfl
  have mi := pcs_mem.1 (List.getElem_mem hil)
  have mj := pcs_mem.1 (List.getElem_mem hjl)
  have hne : (((pcs n ds k)[x.1.toNat], (pcs n ds k)[x.2.toNat]) : Dg) ≠ k := by
   intro e'
   have e1 := congrArg Prod.fst e'
   have e2 := congrArg Prod.snd e'
   dsimp only at e1 e2
   have z := pcs_mem.1 (List.getElem_mem (show 0 < (pcs n ds k).length by omega))
   have w := pcs_mem.1 (List.getElem_mem (show (pcs n ds k).length - 1 < (pcs n ds k).length by omega))
   have a1 := sorted_lt hs (show 0 < (pcs n ds k).length by omega) hil
   have a2 := sorted_lt hs hjl (show (pcs n ds k).length - 1 < (pcs n ds k).length by omega)
   omega
  obtain ⟨g1, g2, g3⟩ := pc_in h hk (i := x.1.toNat) (j := x.2.toNat) (by omega) hjl hne
  rw [e]
  unfold freeL
  rw [List.mem_filter, mem_dgL_iff, inDg_iff, Bool.and_eq_true, Bool.not_eq_true', decide_eq_false_iff_not, List.all_eq_true]
  have hkl := key_low h hn hk
  refine ⟨⟨by dsimp only; omega, by dsimp only; omega, by dsimp only; omega, fun e' => hne ?_⟩, g2, fun f hf => by rw [g3 f hf]; rfl⟩
  dsimp only at e'
  exact Prod.ext (by dsimp only; omega) (by dsimp only; omega)
 ·intro hd
  obtain ⟨k, hk⟩ := more_exists ((free_more h hn).1 hd)
  obtain ⟨i, j, hj, hij, ei, ej⟩ := pc_out hn hk
  have hcd := hk.cut.1 d (by simp)
  refine List.mem_flatMap.2 ⟨k, hk.key, List.mem_map.2 ⟨((i : Int), (j : Int)), mem_dgL_iff.2 (inDg_iff.2 ⟨by dsimp only; omega, by dsimp only; omega, by dsimp only; omega, fun e' => ?_⟩), ?_⟩⟩
  ·dsimp only at e'
   have hs := pcs_sorted n ds k
   obtain ⟨k1, k2⟩ := key_ends h hn hk.key
   obtain ⟨a, ha, ea⟩ := List.mem_iff_getElem.1 k1
   obtain ⟨b, hb, eb⟩ := List.mem_iff_getElem.1 k2
   have a1 := sorted_lt hs (show i < (pcs n ds k).length by omega) ha
   have b1 := sorted_lt hs hb hj
   have henc := hk.enc
   have hi0 : i = 0 := by omega
   have hjs : j = (pcs n ds k).length - 1 := by omega
   have a2 : d.1 ≤ k.1 := by
    rcases Nat.lt_or_ge i a with hh | hh
    ·have := a1.2 hh; omega
    ·have e2 : (pcs n ds k)[i]'(by omega) = (pcs n ds k)[a] := by congr 1; omega
     omega
   have b2 : k.2 ≤ d.2 := by
    rcases Nat.lt_or_ge b j with hh | hh
    ·have := b1.2 hh; omega
    ·have e2 : (pcs n ds k)[b] = (pcs n ds k)[j] := by congr 1; omega
     omega
   exact henc.2.2.2 (Prod.ext (by omega) (by omega))
  ·unfold pd
   dsimp only
   rw [Int.toNat_natCast, Int.toNat_natCast, List.getD_eq_getElem?_getD, List.getD_eq_getElem?_getD, List.getElem?_eq_getElem (show i < (pcs n ds k).length by omega), List.getElem?_eq_getElem hj, ei, ej]; rfl
theorem cuts_nodup {n : Nat} {ds : List Dg} (h : CutD n ds) (hn : 3 ≤ n) (h12 : n ≤ 12) : (cutsL n ds).Nodup := by
 have hdg : ∀ n, n ≤ 12 → (dgL n).Pairwise (fun d e => ltD d e = true) := by decide +kernel
 unfold cutsL List.Nodup
 rw [List.pairwise_flatMap]
 refine ⟨fun k hk => ?_, h.nodup.imp_of_mem fun {k l} hk hl hkl x hx y hy e => ?_⟩
 ·have hpl := pcs_len h hn hk
  rw [List.pairwise_map]
  refine (hdg _ (by omega)).imp_of_mem fun {x y} hx hy hxy e => ?_
  have ix := inDg_iff.1 (mem_dgL_iff.1 hx)
  have iy := inDg_iff.1 (mem_dgL_iff.1 hy)
  have hs := pcs_sorted n ds k
  have inj : ∀ a b : Nat, a < (pcs n ds k).length → b < (pcs n ds k).length → (pcs n ds k).getD a 0 = (pcs n ds k).getD b 0 → a = b := by
   intro a b ha hb hab
   rw [List.getD_eq_getElem?_getD, List.getD_eq_getElem?_getD, List.getElem?_eq_getElem ha, List.getElem?_eq_getElem hb, Option.getD_some, Option.getD_some] at hab
   have a1 := sorted_lt hs ha hb
   have a2 := sorted_lt hs hb ha
   omega
  have e1 := inj _ _ (by omega) (by omega) (congrArg Prod.fst e)
  have e2 := inj _ _ (by omega) (by omega) (congrArg Prod.snd e)
  have := ltD_iff.1 hxy
  omega
 ·have hf : x ∈ cutsL n ds := List.mem_flatMap.2 ⟨k, hk, hx⟩
  have hc := (free_more h hn).1 ((cuts_mem h hn).1 hf)
  have mem : ∀ m ∈ wholeD n :: ds, x ∈ (dgL (pcs n ds m).length).map (pd n ds m) → MoreD n ds x m := by
   intro m hm hxm
   obtain ⟨z, hz, rfl⟩ := List.mem_map.1 hxm
   have iz := inDg_iff.1 (mem_dgL_iff.1 hz)
   have g : ∀ a : Nat, a < (pcs n ds m).length → (pcs n ds m).getD a 0 ∈ pcs n ds m := fun a ha => by
    rw [List.getD_eq_getElem?_getD, List.getElem?_eq_getElem ha, Option.getD_some]; exact List.getElem_mem ha
   exact ⟨hc, hm, g _ (by omega), g _ (by omega)⟩
  exact hkl (more_unique (mem k hk hx) (mem l hl (e ▸ hy)))
theorem free_perm {n : Nat} {ds : List Dg} (h : CutD n ds) (hn : 3 ≤ n) (h12 : n ≤ 12) : (cutsL n ds).Perm (freeL n ds) := by
 have hdg : ∀ n, n ≤ 12 → (dgL n).Nodup := by decide +kernel
 exact (List.perm_ext_iff_of_nodup (cuts_nodup h hn h12) ((hdg n h12).sublist List.filter_sublist)).2 fun d => cuts_mem h hn
theorem sum_perm_int {l m : List Int} (h : l.Perm m) : l.sum = m.sum := by
 induction h with
 | nil => rfl
 | cons x _ ih => rw [List.sum_cons, List.sum_cons, ih]
 | swap x y l => rw [List.sum_cons, List.sum_cons, List.sum_cons, List.sum_cons]; omega
 | trans _ _ ih1 ih2 => rw [ih1, ih2]
theorem sum_mul_int {A : Type} (f : A → Int) (c : Int) : ∀ l : List A, (l.map fun x => f x * c).sum = (l.map f).sum * c
 | [] => by simp
 | a :: t => by rw [List.map_cons, List.sum_cons, List.map_cons, List.sum_cons, sum_mul_int f c t, Int.add_mul]
theorem sum_mul_left {A : Type} (f : A → Int) (c : Int) : ∀ l : List A, (l.map fun x => c * f x).sum = c * (l.map f).sum
 | [] => by simp
 | a :: t => by rw [List.map_cons, List.sum_cons, List.map_cons, List.sum_cons, sum_mul_left f c t, Int.mul_add]
theorem sum_flat {A B : Type} (f : A → List B) (g : B → Int) : ∀ l : List A, ((l.flatMap f).map g).sum = (l.map fun a => ((f a).map g).sum).sum
 | [] => rfl
 | a :: t => by rw [List.flatMap_cons, List.map_append, List.sum_append, List.map_cons, List.sum_cons, sum_flat f g t]
theorem piece_free {n : Nat} {ds : List Dg} (h : CutD n ds) (hn : 3 ≤ n) (h12 : n ≤ 12) {k : Dg} (hk : k ∈ wholeD n :: ds) :
  (((dgL (pcs n ds k).length).map (pd n ds k)).map fun d => Fd n (ds ++ [d])).sum = Fd n ds * (((pcs n ds k).length : Int) - 3) := by
 have hpl := pcs_len h hn hk
 have hpos : ∀ s : Nat, s ≤ 12 → 3 ≤ s → catV (s : Int) ≠ 0 := by decide +kernel
 have hp := hpos _ (show (pcs n ds k).length ≤ 12 by omega) hpl.1
 have hsum := piece_sum _ hpl.1 (show (pcs n ds k).length ≤ 12 by omega)
 have hs := pcs_sorted n ds k
 refine Int.eq_of_mul_eq_mul_right hp ?_
 rw [List.map_map, ← sum_mul_int, Int.mul_assoc, ← hsum, ← sum_mul_left]
 congr 1
 refine List.map_congr_left fun x hx => ?_
 have ix := inDg_iff.1 (mem_dgL_iff.1 hx)
 have hi : x.1.toNat < (pcs n ds k).length := by omega
 have hj : x.2.toNat < (pcs n ds k).length := by omega
 have e : pd n ds k x = ((pcs n ds k)[x.1.toNat], (pcs n ds k)[x.2.toNat]) := by
  unfold pd
  rw [List.getD_eq_getElem?_getD, List.getD_eq_getElem?_getD, List.getElem?_eq_getElem hi, List.getElem?_eq_getElem hj]; rfl
 have hf : pd n ds k x ∈ cutsL n ds := List.mem_flatMap.2 ⟨k, hk, List.mem_map.2 ⟨x, hx, rfl⟩⟩
 have hc := (free_more h hn).1 ((cuts_mem h hn).1 hf)
 have hm : MoreD n ds (pd n ds k x) k := ⟨hc, hk, by rw [e]; exact List.getElem_mem hi, by rw [e]; exact List.getElem_mem hj⟩
 have hF := F_more hm
 rw [e] at hF
 dsimp only at hF
 rw [half_out hs (by omega) hj, half_in hs (by omega) hj] at hF
 show Fd n (ds ++ [pd n ds k x]) * _ = _
 rw [e, hF, Int.mul_comm (catV _) (catV _)]
 congr 2
 ·congr 1; omega
 ·congr 1; omega
theorem free_sum {n : Nat} {ds : List Dg} (h : CutD n ds) (hn : 3 ≤ n) (h12 : n ≤ 12) : ((freeL n ds).map fun d => Fd n (ds ++ [d])).sum = Fd n ds * ((n : Int) - 3 - (ds.length : Int)) := by
 rw [← sum_perm_int ((free_perm h hn h12).map _)]
 unfold cutsL
 rw [sum_flat]
 have e : ((wholeD n :: ds).map fun k => (((dgL (pcs n ds k).length).map (pd n ds k)).map fun d => Fd n (ds ++ [d])).sum) = (wholeD n :: ds).map fun k => Fd n ds * (((pcs n ds k).length : Int) - 3) := List.map_congr_left fun k hk => piece_free h hn h12 hk
 rw [e, sum_mul_left]
 congr 1
 have h1 := implP_sum n hn ds.length ds rfl h
 rw [((implP_perm n hn ds h).map List.length).sum_nat, List.map_map] at h1
 have key : ∀ l : List Dg, (l.map fun k => ((pcs n ds k).length : Int) - 3).sum = (((l.map (List.length ∘ pcs n ds)).sum : Nat) : Int) - 3 * (l.length : Int) := by
  intro l
  induction l with
  | nil => rfl
  | cons a t ih => rw [List.map_cons, List.sum_cons, ih, List.map_cons, List.sum_cons, List.length_cons]; simp only [Function.comp]; omega
 rw [key, h1, List.length_cons]
 omega
def F32_sh : FSh := ⟨[(.ag [(.si .i64), (.si .i64)]), (.one (.pb (.list false (.pair (.int .i64) (.int .i64)))))], []⟩
def F32_fo : List FO := [⟨[(.one .sb)], []⟩]
noncomputable def F32_t : ((Int × Int) × List ((Int × Int))) → T Bool := fun ((d_0, d_1), t1) =>
 (.sub ([t1][0]?) fun z0 =>
 (.sub (F17 (z0, (d_0, d_1))) fun z1 =>
 (.test z1
 (.ret true)
 (.sub ([t1][0]?) fun z2 =>
 (.sub (F83 (z2, (d_0, d_1))) fun z3 =>
 (.ret z3))))))
noncomputable def F32 (v) := (F32_t v).run
noncomputable def F32_E : TEnv := ((E0.add1 n_F17 F17_sh F17_fo F17).add1 n_F83 F83_sh F83_fo F83)
theorem F32_Eok : (F32_E).OK := ((E0ok.add1 F17_ok).add1 F83_ok)
noncomputable def F32_told : Nat → Option SealT := fun id => none
theorem F32_ok : FOK Tryz.prog n_F32 F32_sh F32_fo F32 :=
 fn_ok (E := F32_E) (F32_Eok) (told := F32_told) (fl := []) (c := bodyOf fn_F32) (s := F32_sh) (l := F32_fo) (tree := F32_t) fnat_F32 (by kernel_rfl) (by kernel_rfl) (by kernel_rfl) (loopsOK_of (ls := []) (by kernel_rfl) trivial) (fun v => by kernel_rfl)
theorem hasD_mem (ds : List Dg) (d : Dg) : hasD ds d = decide (d ∈ ds) := by
 unfold hasD
 rw [Bool.eq_iff_iff, List.any_eq_true, decide_eq_true_eq]
 constructor
 ·rintro ⟨x, hx, e⟩; rw [(eqD_iff _ _).1 e]; exact hx
 ·exact fun h => ⟨d, h, (eqD_iff _ _).2 rfl⟩
def frB (ds : List Dg) (d : Dg) : Bool := !decide (d ∈ ds) && ds.all fun e => !crossD d e
theorem frB_eq (ds : List Dg) (d : Dg) : (!frB ds d) = (decide (d ∈ ds) || ds.any (crossD d)) := by
 unfold frB
 rw [Bool.not_and, Bool.not_not]
 congr 1
 rw [← List.any_eq_not_all_not]
theorem F32_eq (ds : List Dg) (d : Dg) (hl : ds.length < 4611686018427387904) : F32 (d, ds) = some (!frB ds d) := by
 obtain ⟨a, b⟩ := d
 rw [F32, F32_t, T.run_sub, List.getElem?_cons_zero, Option.bind_some, T.run_sub, F17_eq ds (a, b) hl, hasD_mem, Option.bind_some, T.run_test, frB_eq]
 by_cases h : (a, b) ∈ ds
 ·rw [if_pos (decide_eq_true h), T.run_ret, decide_eq_true h, Bool.true_or]
 ·rw [if_neg (by rw [decide_eq_true_eq]; exact h), T.run_sub, Option.bind_some, T.run_sub, F83_eq ds (a, b) hl, Option.bind_some, T.run_ret, decide_eq_false h, Bool.false_or]
def F5_sh : FSh := ⟨[(.one (.sl (.pair (.int .i64) (.int .i64)) false false)), (.clo n_F32 [(.one (.pb (.list false (.pair (.int .i64) (.int .i64)))))])], []⟩
def F5_L2_sh : LSh := ⟨(fun ex => match ex with | .norm => [(0, none), (1, none), (7, none), (8, none)] | .exit i => if i = 0 then [] else [] | .ret => [(4, none)]), [(0, (.one (.sl (.pair (.int .i64) (.int .i64)) false false))), (1, (.clo n_F32 [(.one (.pb (.list false (.pair (.int .i64) (.int .i64)))))])), (7, (.one (.si .i64))), (8, (.one (.si .i64)))], [], [⟨.ret, [(4, (.one (.si .i64)))], []⟩, ⟨(.exit 0), [], []⟩], [], []⟩
noncomputable def F5_L2_step : (List ((Int × Int)) × List ((Int × Int)) × Int × Int) → T ((List ((Int × Int)) × List ((Int × Int)) × Int × Int) ⊕ (Int ⊕ Unit)) := fun (s, f_0, t7, t8) =>
 (.test (decide (t8 < t7))
 (.test (decide ((0 ≤ t8) ∧ (t8 < (s.length : Int))))
 (.sub (s[(Int.toNat t8)]?) fun z0 =>
 (.sub (F32 (z0, f_0)) fun z1 =>
 (.test z1
 (.ret (Sum.inr (Sum.inl t8)))
 (.ret (Sum.inl (s, (f_0, (t7, (w64 (t8 + 1))))))))))
 .fail)
 (.ret (Sum.inr (Sum.inr ()))))
noncomputable def F5_L2 (v) := loopO (fun v => (F5_L2_step v).run) v
def F5_fo : List FO := [⟨[(.one (.si .i64))], []⟩]
noncomputable def F5_t : (List ((Int × Int)) × List ((Int × Int))) → T Int := fun (s, f_0) =>
 (.sub (F5_L2 (s, (f_0, ((s.length : Int), (0 : Int))))) fun z0 =>
 (.test (Sum.isLeft z0)
 (.sub (Sum.getLeft? z0) fun z1 =>
 (.ret z1))
 (.sub (Sum.getRight? z0) fun z2 =>
 (.ret (-1)))))
noncomputable def F5 (v) := (F5_t v).run
noncomputable def F5_E : TEnv := (E0.add1 n_F32 F32_sh F32_fo F32)
theorem F5_Eok : (F5_E).OK := (E0ok.add1 F32_ok)
noncomputable def F5_told : Nat → Option SealT := fun id => if id = 2 then some (LSh.told F5_L2_sh 0 (F5_L2_step)) else none
theorem F5_L2_ok : ToldOK Tryz.prog 0 (loopAt (bodyOf fn_F16) [0]) (LSh.told F5_L2_sh 0 (F5_L2_step)) :=
 loop_ok (E := F5_E) (F5_Eok) (told := F5_told) (l := F5_L2_sh) (step := F5_L2_step) (loopsOK_of (ls := []) (by kernel_rfl) trivial) (by kernel_rfl) (fun v => by kernel_rfl)
theorem F5_ok : FOK Tryz.prog n_F16 F5_sh F5_fo F5 :=
 fn_ok (E := F5_E) (F5_Eok) (told := F5_told) (fl := []) (c := bodyOf fn_F16) (s := F5_sh) (l := F5_fo) (tree := F5_t) fnat_F16 (by kernel_rfl) (by kernel_rfl) (by kernel_rfl) (loopsOK_of (ls := [loopAt (bodyOf fn_F16) [0]]) (by kernel_rfl) ⟨.inr ⟨_, by kernel_rfl, F5_L2_ok⟩, trivial⟩) (fun v => by kernel_rfl)
theorem F5_eq (ds : List Dg) (hd : ds.length < 4611686018427387904) (s : List Dg) (hl : s.length < 4611686018427387904) :
  F5 (s, ds) = some (idxI (fun d => !frB ds d) s) := by
 have hf := loop_find (step := fun v => (F5_L2_step v).run) (xs := s) (fun d => !frB ds d) (fun k => (s, (ds, ((s.length : Int), (k : Int))))) (fun k => .inl (k : Int)) (.inr ())
  (fun k d hd' => by
   have hk := getElem?_lt hd'
   have w1 : w64 ((k : Int) + 1) = ((k + 1 : Nat) : Int) := by rw [w64_id (by omega) (by omega)]; omega
   rw [F5_L2_step, T.run_test, if_pos (decide_eq_true (by omega)), T.run_test, if_pos (decide_eq_true (by omega)), T.run_sub, Int.toNat_natCast, hd', Option.bind_some, T.run_sub, F32_eq ds d hd, Option.bind_some, T.run_test]
   cases (!frB ds d) with
   | true => rfl
   | false => rw [if_neg (by simp), T.run_ret, w1]; rfl)
  (by rw [F5_L2_step, T.run_test, if_neg (by simp), T.run_ret])
 have hf' : F5_L2 (s, (ds, ((s.length : Int), (0 : Int)))) = _ := hf
 rw [F5, F5_t, T.run_sub, hf', Option.bind_some]
 unfold idxI
 cases s.findIdx? (fun d => !frB ds d) <;> rfl
theorem del_loop {X : Type} {step : ((Unit × X × Int × Int) × List Dg) → Option (((Unit × X × Int × Int) × List Dg) ⊕ ((Unit × Int) × List Dg))} (x : X) (keep : Dg → Bool) (o : List Dg)
  (h1 : ∀ (s : List Dg) (i j : Nat) (d : Dg), s.length = o.length → i < j → j < s.length → s[j]? = some d → d ∈ o → keep d = true → step (((), (x, ((i : Int), (j : Int)))), s) = some (.inl (((), (x, (((i + 1 : Nat) : Int), ((j + 1 : Nat) : Int)))), s.set i d)))
  (h2 : ∀ (s : List Dg) (i j : Nat) (d : Dg), s.length = o.length → i < j → j < s.length → s[j]? = some d → d ∈ o → keep d = false → step (((), (x, ((i : Int), (j : Int)))), s) = some (.inl (((), (x, ((i : Int), ((j + 1 : Nat) : Int)))), s)))
  (h3 : ∀ (s : List Dg) (i : Nat), s.length = o.length → step (((), (x, ((i : Int), (o.length : Int)))), s) = some (.inr (((), (i : Int)), s))) :
  ∀ (m j : Nat) (s : List Dg) (i : Nat), j + m = o.length → s.length = o.length → i < j → s.take i = (o.take j).filter keep → s.drop j = o.drop j →
  ∃ (i' : Nat) (s' : List Dg), s'.length = o.length ∧ i' < o.length ∧ s'.take i' = o.filter keep ∧ loopO step (((), (x, ((i : Int), (j : Int)))), s) = some (((), (i' : Int)), s')
 | 0, j, s, i, hj, hs, hi, e1, e2 => by
  obtain rfl : j = o.length := by omega
  rw [List.take_length] at e1
  exact ⟨i, s, hs, hi, e1, loopO_done (h3 s i hs)⟩
 | m + 1, j, s, i, hj, hs, hi, e1, e2 => by
  have hlt : j < s.length := by omega
  have hlo : j < o.length := by omega
  have he : s[j] = o[j] := by
   rw [List.drop_eq_getElem_cons hlt, List.drop_eq_getElem_cons hlo] at e2
   exact (List.cons.inj e2).1
  have e2' : s.drop (j + 1) = o.drop (j + 1) := by
   rw [List.drop_eq_getElem_cons hlt, List.drop_eq_getElem_cons hlo] at e2
   exact (List.cons.inj e2).2
  have hg : s[j]? = some o[j] := by rw [List.getElem?_eq_getElem hlt, he]
  have htake : o.take (j + 1) = o.take j ++ [o[j]] := List.take_succ_eq_append_getElem hlo
  cases hf : keep o[j] with
  | true =>
   have e1' : (s.set i o[j]).take (i + 1) = (o.take (j + 1)).filter keep := by
    rw [List.take_succ_eq_append_getElem (by simp; omega), List.getElem_set_self, List.take_set_of_le (Nat.le_refl _), e1, htake, List.filter_append]
    simp [hf]
   rw [loopO_next (h1 s i j o[j] hs hi hlt hg (List.getElem_mem hlo) hf)]
   exact del_loop x keep o h1 h2 h3 m (j + 1) (s.set i o[j]) (i + 1) (by omega) (by simpa using hs) (by omega) e1' (by rw [List.drop_set_of_lt (by omega)]; exact e2')
  | false =>
   have e1' : s.take i = (o.take (j + 1)).filter keep := by
    rw [e1, htake, List.filter_append]
    simp [hf]
   rw [loopO_next (h2 s i j o[j] hs hi hlt hg (List.getElem_mem hlo) hf)]
   exact del_loop x keep o h1 h2 h3 m (j + 1) s i (by omega) hs (by omega) e1' e2'
def delT (idx : Option Int) (lp : Int → Int → Option ((Unit × Int) × List Dg)) (s : List Dg) : T ((Nat × Nat) × List Dg) :=
 (.test (decide ((0 + s.length) ≤ s.length))
 (.sub idx fun z0 =>
  (.test (z0 == (-1))
  (.ret ((0, s.length), s))
  (.test (decide ((0 = 0) ∧ (s.length = s.length)))
   (.sub (lp z0 (w64 (z0 + 1))) fun z1 =>
    (.test (decide (0 ≤ z1.1.2))
    (.test (decide (((Int.toNat z1.1.2) ≤ z1.2.length) ∧ (z1.2.length ≤ z1.2.length)))
     (.test (decide ((0 < (z1.2.length - (Int.toNat z1.1.2))) ∧ (((0 + (Int.toNat z1.1.2)) + (z1.2.length - (Int.toNat z1.1.2))) ≤ z1.2.length)))
      (.test (decide (0 ≤ z1.1.2))
       (.test (decide ((0 ≤ (Int.toNat z1.1.2)) ∧ ((Int.toNat z1.1.2) ≤ z1.2.length)))
        (.ret ((0, ((Int.toNat z1.1.2) - 0)), (spliceT z1.2 (0 + (Int.toNat z1.1.2)) (List.replicate (z1.2.length - (Int.toNat z1.1.2)) ((0 : Int), (0 : Int))))))
        .fail)
       .fail)
      .fail)
     .fail)
    .fail))
   .fail)))
 .fail)
def delM : ((Nat × Nat) × List Dg) → T (Unit × List Dg) := fun ((o, n), r0) => .test (decide (o = 0 ∧ n ≤ r0.length)) (.ret ((), (List.take n r0))) .fail
theorem del_all {s : List Dg} (keep : Dg → Bool) (hl : s.length < 4611686018427387904) {idx : Option Int} {lp : Int → Int → Option ((Unit × Int) × List Dg)} (hi : idx = some (idxI (fun d => !keep d) s))
  (hlp : ∀ i : Nat, i < s.length → s.take i = (s.take (i + 1)).filter keep → ∃ (i' : Nat) (s' : List Dg), s'.length = s.length ∧ i' < s.length ∧ s'.take i' = s.filter keep ∧ lp (i : Int) ((i + 1 : Nat) : Int) = some (((), (i' : Int)), s')) :
  (delT idx lp s).run.bind (fun o => (delM o).run) = some ((), s.filter keep) := by
 subst hi
 unfold delT
 rw [T.run_test, if_pos (by simp), T.run_sub, Option.bind_some, T.run_test]
 unfold idxI
 cases hf : s.findIdx? (fun q => !keep q) with
 | none =>
  have hall : s.filter keep = s := by
   rw [List.filter_eq_self]
   intro x hx
   have := List.findIdx?_eq_none_iff.1 hf x hx
   simpa using this
  dsimp only
  rw [if_pos (show ((-1 : Int) == -1) = true from rfl), T.run_ret, hall, Option.bind_some, delM, T.run_test, if_pos (by simp), T.run_ret, List.take_length]
 | some i =>
  obtain ⟨h1, h2, h3⟩ := List.findIdx?_eq_some_iff_getElem.1 hf
  have ht : s.take i = (s.take (i + 1)).filter keep := by
   rw [List.take_succ_eq_append_getElem h1, List.filter_append]
   have : [s[i]].filter keep = [] := by simp at h2; simp [h2]
   rw [this, List.append_nil]
   symm
   rw [List.filter_eq_self]
   intro x hx
   obtain ⟨j, hj, e⟩ := List.mem_take_iff_getElem.1 hx
   have := h3 j (by omega)
   rw [e] at this
   simpa using this
  obtain ⟨i', s', r1, r2, r3, r4⟩ := hlp i h1 ht
  have w1 : w64 ((i : Int) + 1) = ((i + 1 : Nat) : Int) := by rw [w64_id (by omega) (by omega)]; omega
  have hsp : (spliceT s' i' (List.replicate (s'.length - i') ((0 : Int), (0 : Int)))).take i' = s.filter keep := by
   unfold spliceT
   rw [List.take_append_of_le_length (by rw [List.length_take]; omega), List.take_take, Nat.min_self, r3]
  have hspl : i' ≤ (spliceT s' i' (List.replicate (s'.length - i') ((0 : Int), (0 : Int)))).length := by
   unfold spliceT
   simp only [List.length_append, List.length_take, List.length_replicate, List.length_drop]
   omega
  dsimp only
  rw [if_neg (by rw [beq_iff_eq]; omega), T.run_test, if_pos (by simp), T.run_sub, w1, r4, Option.bind_some]
  dsimp only
  rw [T.run_test, if_pos (decide_eq_true (by omega)), T.run_test]
  simp only [Int.toNat_natCast, Nat.zero_add, Nat.sub_zero]
  rw [if_pos (decide_eq_true (by omega)), T.run_test, if_pos (decide_eq_true (by omega)), T.run_test, if_pos (decide_eq_true (by omega)), T.run_test, if_pos (decide_eq_true (by omega)), T.run_ret, Option.bind_some, delM, T.run_test, if_pos (decide_eq_true ⟨rfl, hspl⟩), T.run_ret, hsp]
def F4_sh : FSh := ⟨[(.one (.rw 0 0)), (.clo n_F32 [(.one (.pb (.list false (.pair (.int .i64) (.int .i64)))))])], [(.row 0 (.pair (.int .i64) (.int .i64)))]⟩
def F4_L5_sh : LSh := ⟨(fun ex => match ex with | .norm => [(0, none), (1, none), (5, none), (6, none)] | .exit i => if i = 0 then [(0, none), (5, none)] else [] | .ret => [(4, none)]), [(0, (.one (.rw 0 0))), (1, (.clo n_F32 [(.one (.pb (.list false (.pair (.int .i64) (.int .i64)))))])), (5, (.one (.si .i64))), (6, (.one (.si .i64)))], [(.row 0 (.pair (.int .i64) (.int .i64)))], [⟨(.exit 0), [(0, (.one (.rw 0 0))), (5, (.one (.si .i64)))], [(.row 0 (.pair (.int .i64) (.int .i64)))]⟩], [], []⟩
noncomputable def F4_L5_step : ((Unit × List ((Int × Int)) × Int × Int) × List ((Int × Int))) → T (((Unit × List ((Int × Int)) × Int × Int) × List ((Int × Int))) ⊕ ((Unit × Int) × List ((Int × Int)))) := fun (((), del_0, i, j), s) =>
 (.test (decide (j < (s.length : Int)))
 (.test (decide ((0 ≤ j) ∧ (j < (s.length : Int))))
 (.sub (s[(0 + (Int.toNat j))]?) fun z0 =>
 (.sub (F32 (z0, del_0)) fun z1 =>
 (.test (! z1)
 (.test (decide ((0 ≤ i) ∧ (i < (s.length : Int))))
 (.sub (s[(0 + (Int.toNat i))]?) fun z2 =>
 (.test (decide ((0 = 0) ∧ (s.length = (List.length (List.set s (0 + (Int.toNat i)) z0)))))
 (.ret (Sum.inl (((), (del_0, ((w64 (i + 1)), (w64 (j + 1))))), (List.set s (0 + (Int.toNat i)) z0))))
 .fail))
 .fail)
 (.test (decide ((0 = 0) ∧ (s.length = s.length)))
 (.ret (Sum.inl (((), (del_0, (i, (w64 (j + 1))))), s)))
 .fail))))
 .fail)
 (.test (decide ((0 = 0) ∧ (s.length = s.length)))
 (.ret (Sum.inr (((), i), s)))
 .fail))
noncomputable def F4_L5 (v) := loopO (fun v => (F4_L5_step v).run) v
def F4_w_fo : List FO := [⟨[(.one (.rf 0 0))], [(.row 0 (.pair (.int .i64) (.int .i64)))]⟩]
noncomputable def F4_t : ((Unit × List ((Int × Int))) × List ((Int × Int))) → T ((Nat × Nat) × List ((Int × Int))) := fun (((), del_0), s) =>
 (.test (decide ((0 + s.length) ≤ s.length))
 (.sub (F5 ((win s 0 s.length), del_0)) fun z0 =>
 (.test (z0 == (-1))
 (.ret ((0, s.length), s))
 (.test (decide ((0 = 0) ∧ (s.length = s.length)))
 (.sub (F4_L5 (((), (del_0, (z0, (w64 (z0 + 1))))), s)) fun z1 =>
 (.test (decide (0 ≤ z1.1.2))
 (.test (decide (((Int.toNat z1.1.2) ≤ z1.2.length) ∧ (z1.2.length ≤ z1.2.length)))
 (.test (decide ((0 < (z1.2.length - (Int.toNat z1.1.2))) ∧ (((0 + (Int.toNat z1.1.2)) + (z1.2.length - (Int.toNat z1.1.2))) ≤ z1.2.length)))
 (.test (decide (0 ≤ z1.1.2))
 (.test (decide ((0 ≤ (Int.toNat z1.1.2)) ∧ ((Int.toNat z1.1.2) ≤ z1.2.length)))
 (.ret ((0, ((Int.toNat z1.1.2) - 0)), (spliceT z1.2 (0 + (Int.toNat z1.1.2)) (List.replicate (z1.2.length - (Int.toNat z1.1.2)) ((0 : Int), (0 : Int))))))
 .fail)
 .fail)
 .fail)
 .fail)
 .fail))
 .fail)))
 .fail)
noncomputable def F4_w (v) := (F4_t v).run
noncomputable def F4_E : TEnv := ((E0.add1 n_F16 F5_sh F5_fo F5).add1 n_F32 F32_sh F32_fo F32)
theorem F4_Eok : (F4_E).OK := ((E0ok.add1 F5_ok).add1 F32_ok)
noncomputable def F4_told : Nat → Option SealT := fun id => if id = 5 then some (LSh.told F4_L5_sh 1 (F4_L5_step)) else none
theorem F4_L5_ok : ToldOK Tryz.prog 1 (loopAt (bodyOf fn_F14) [0]) (LSh.told F4_L5_sh 1 (F4_L5_step)) :=
 loop_ok (E := F4_E) (F4_Eok) (told := F4_told) (l := F4_L5_sh) (step := F4_L5_step) (loopsOK_of (ls := []) (by kernel_rfl) trivial) (by kernel_rfl) (fun v => by kernel_rfl)
theorem F4_w_ok : FOK Tryz.prog n_F14 F4_sh F4_w_fo F4_w :=
 fn_ok (E := F4_E) (F4_Eok) (told := F4_told) (fl := []) (c := bodyOf fn_F14) (s := F4_sh) (l := F4_w_fo) (tree := F4_t) fnat_F14 (by kernel_rfl) (by kernel_rfl) (by kernel_rfl) (loopsOK_of (ls := [loopAt (bodyOf fn_F14) [0]]) (by kernel_rfl) ⟨.inr ⟨_, by kernel_rfl, F4_L5_ok⟩, trivial⟩) (fun v => by kernel_rfl)
def F4_fo : List FO := [⟨[(.one (.rw 0 0))], [(.row 0 (.pair (.int .i64) (.int .i64)))]⟩]
def F4_m : ((Nat × Nat) × List ((Int × Int))) → T (Unit × List ((Int × Int))) := fun ((o, n), r0) => .test (decide (o = 0 ∧ n ≤ r0.length)) (.ret ((), (List.take n r0))) .fail
noncomputable def F4 (v : ((Unit × List ((Int × Int))) × List ((Int × Int)))) : Option (Unit × List ((Int × Int))) := (F4_w v).bind fun o => (F4_m o).run
theorem F4_ok : FOK Tryz.prog n_F14 F4_sh F4_fo F4 :=
 FOK.trunc (l' := F4_fo) F4_w_ok F4_m (fun o => by kernel_rfl)
theorem F4_eq (ds : List Dg) (hd : ds.length < 4611686018427387904) (s : List Dg) (hl : s.length < 4611686018427387904) :
  F4 (((), ds), s) = some ((), s.filter (frB ds)) := by
 have hi := F5_eq ds hd s hl
 refine Eq.trans ?_ (del_all (s := s) (frB ds) hl (idx := F5 (win s 0 s.length, ds)) (lp := fun i j => F4_L5 (((), (ds, (i, j))), s)) (by rw [win_all]; exact hi) fun i hi ht => ?_)
 ·rfl
 ·refine del_loop (step := fun v => (F4_L5_step v).run) ds (frB ds) s ?_ ?_ ?_ (s.length - (i + 1)) (i + 1) s i (by omega) rfl (by omega) ht rfl
  ·intro s' i j d hs' hij hj hd' hm hk
   have w1 : w64 ((i : Int) + 1) = ((i + 1 : Nat) : Int) := by rw [w64_id (by omega) (by omega)]; omega
   have w2 : w64 ((j : Int) + 1) = ((j + 1 : Nat) : Int) := by rw [w64_id (by omega) (by omega)]; omega
   rw [F4_L5_step, T.run_test, if_pos (decide_eq_true (by omega)), T.run_test, if_pos (decide_eq_true (by omega)), T.run_sub, Nat.zero_add, Int.toNat_natCast, hd', Option.bind_some, T.run_sub, F32_eq ds d hd, hk, Option.bind_some, T.run_test, if_pos (by simp), T.run_test, if_pos (decide_eq_true (by omega)), T.run_sub, Nat.zero_add, Int.toNat_natCast, List.getElem?_eq_getElem (show i < s'.length by omega), Option.bind_some, T.run_test, if_pos (by simp), T.run_ret, w1, w2]
  ·intro s' i j d hs' hij hj hd' hm hk
   have w2 : w64 ((j : Int) + 1) = ((j + 1 : Nat) : Int) := by rw [w64_id (by omega) (by omega)]; omega
   rw [F4_L5_step, T.run_test, if_pos (decide_eq_true (by omega)), T.run_test, if_pos (decide_eq_true (by omega)), T.run_sub, Nat.zero_add, Int.toNat_natCast, hd', Option.bind_some, T.run_sub, F32_eq ds d hd, hk, Option.bind_some, T.run_test, if_neg (by simp), T.run_test, if_pos (by simp), T.run_ret, w2]
  ·intro s' i hs'
   rw [F4_L5_step, T.run_test, if_neg (by rw [decide_eq_true_eq]; omega), T.run_test, if_pos (by simp), T.run_ret]
def F42_sh : FSh := ⟨[(.one (.si .i64)), (.one (.sl (.pair (.int .i64) (.int .i64)) false false))], []⟩
def F42_fo : List FO := [⟨[(.one (.rw 0 0))], [(.row 0 (.pair (.int .i64) (.int .i64)))]⟩]
noncomputable def F42_t : (Int × List ((Int × Int))) → T (Unit × List ((Int × Int))) := fun (n, ds) =>
 (.sub (F45 n) fun z0 =>
 (.test (decide ((0 = 0) ∧ (z0.2.length = z0.2.length)))
 (.sub (F4 (((), ds), z0.2)) fun z1 =>
 (.test (decide ((0 = 0) ∧ (z1.2.length = z1.2.length)))
 (.ret ((), z1.2))
 .fail))
 .fail))
noncomputable def F42 (v) := (F42_t v).run
noncomputable def F42_E : TEnv := ((E0.add1 n_F45 F45_sh F45_fo F45).add1 n_F14 F4_sh F4_fo F4)
theorem F42_Eok : (F42_E).OK := ((E0ok.add1 F45_ok).add1 F4_ok)
noncomputable def F42_told : Nat → Option SealT := fun id => none
theorem F42_ok : FOK Tryz.prog n_F42 F42_sh F42_fo F42 :=
 fn_ok (E := F42_E) (F42_Eok) (told := F42_told) (fl := []) (c := bodyOf fn_F42) (s := F42_sh) (l := F42_fo) (tree := F42_t) fnat_F42 (by kernel_rfl) (by kernel_rfl) (by kernel_rfl) (loopsOK_of (ls := []) (by kernel_rfl) trivial) (fun v => by kernel_rfl)
theorem dgL_short : ∀ n, n ≤ 12 → (dgL n).length ≤ 100 := by decide +kernel
theorem freeL_len (n : Nat) (ds : List Dg) (hn : n ≤ 12) : (freeL n ds).length ≤ 100 := Nat.le_trans (List.length_filter_le _ _) (dgL_short n hn)
theorem F42_eq (n : Nat) (hn : n ≤ 12) (ds : List Dg) (hd : ds.length < 4611686018427387904) : F42 ((n : Int), ds) = some ((), freeL n ds) := by
 have hdl := dgL_short n hn
 rw [F42, F42_t, T.run_sub, F45_eq n hn, Option.bind_some, T.run_test, if_pos (by simp), T.run_sub, F4_eq ds hd (dgL n) (by omega), Option.bind_some, T.run_test, if_pos (by simp), T.run_ret]
 rfl
def F43_sh : FSh := ⟨[(.one (.si .i64)), (.one (.sl (.pair (.int .i64) (.int .i64)) false false))], []⟩
def F43_fo : List FO := [⟨[(.one (.rw 0 0)), (.one .sb)], [(.row 0 (.pair (.int .i64) (.int .i64)))]⟩]
noncomputable def F43_t : (Int × List ((Int × Int))) → T ((Unit × Bool) × List ((Int × Int))) := fun (n, ds) =>
 (.sub (F106 (n, ds)) fun z0 =>
 (.test (! z0)
 (.test true
 (.ret (((), false), ([] : List (Int × Int))))
 .fail)
 (.sub (F42 (n, ds)) fun z1 =>
 (.test (decide ((0 = 0) ∧ (z1.2.length = z1.2.length)))
 (.ret (((), true), z1.2))
 .fail))))
noncomputable def F43 (v) := (F43_t v).run
noncomputable def F43_E : TEnv := ((E0.add1 n_F106 F106_sh F106_fo F106).add1 n_F42 F42_sh F42_fo F42)
theorem F43_Eok : (F43_E).OK := ((E0ok.add1 F106_ok).add1 F42_ok)
noncomputable def F43_told : Nat → Option SealT := fun id => none
theorem F43_ok : FOK Tryz.prog n_F43 F43_sh F43_fo F43 :=
 fn_ok (E := F43_E) (F43_Eok) (told := F43_told) (fl := []) (c := bodyOf fn_F43) (s := F43_sh) (l := F43_fo) (tree := F43_t) fnat_F43 (by kernel_rfl) (by kernel_rfl) (by kernel_rfl) (loopsOK_of (ls := []) (by kernel_rfl) trivial) (fun v => by kernel_rfl)
def frR (n : Int) (ds : List Dg) : (Unit × Bool) × List Dg := if isCut n ds = true then (((), true), freeL n.toNat ds) else (((), false), [])
theorem F43_eq (n : Int) (ds : List Dg) (hl : ds.length < 4611686018427387904) : F43 (n, ds) = some (frR n ds) := by
 unfold frR
 rw [F43, F43_t, T.run_sub, F106_eq n ds hl, Option.bind_some, T.run_test]
 by_cases c : isCut n ds = true
 ·obtain ⟨N, rfl, h3, h12, _, _⟩ := isCut_cut c
  rw [c, if_neg (by decide), T.run_sub, F42_eq N h12 ds hl, Option.bind_some, T.run_test, if_pos (by simp), T.run_ret, if_pos rfl, Int.toNat_natCast]
 ·rw [if_pos (by simp at c ⊢; exact c), T.run_test, if_pos rfl, T.run_ret, if_neg c]
def F124_sh : FSh := ⟨[(.one (.sl (.pair (.int .i64) (.int .i64)) false false)), (.ag [(.si .i64), (.si .i64)])], []⟩
def F124_L2_sh : LSh := ⟨(fun ex => match ex with | .norm => [(3, none), (7, none), (8, none), (9, none)] | .exit i => if i = 0 then [] else [] | .ret => [(4, none)]), [(3, (.one (.pf 0 0 0))), (7, (.one (.sl (.pair (.int .i64) (.int .i64)) false false))), (8, (.one (.si .i64))), (9, (.one (.si .i64)))], [(.rcd 0 [(.si .i64), (.si .i64)])], [⟨.ret, [(4, (.one .sb))], []⟩, ⟨(.exit 0), [], []⟩], [], []⟩
noncomputable def F124_L2_step : ((Unit × List ((Int × Int)) × Int × Int) × (Int × Int)) → T (((Unit × List ((Int × Int)) × Int × Int) × (Int × Int)) ⊕ (Bool ⊕ Unit)) := fun (((), t7, t8, t9), (d_0, d_1)) =>
 (.test (decide (t9 < t8))
 (.test (decide ((0 ≤ t9) ∧ (t9 < (t7.length : Int))))
 (.sub (t7[(Int.toNat t9)]?) fun z0 =>
 (.test ((z0.1 == d_0) && ((z0.2 == d_1) && true))
 (.ret (Sum.inr (Sum.inl true)))
 (.ret (Sum.inl (((), (t7, (t8, (w64 (t9 + 1))))), (d_0, d_1))))))
 .fail)
 (.ret (Sum.inr (Sum.inr ()))))
noncomputable def F124_L2 (v) := loopO (fun v => (F124_L2_step v).run) v
def F124_fo : List FO := [⟨[(.one .sb)], []⟩]
noncomputable def F124_t : (List ((Int × Int)) × (Int × Int)) → T Bool := fun (ds, (d_0, d_1)) =>
 (.sub (F124_L2 (((), (ds, ((ds.length : Int), (0 : Int)))), (d_0, d_1))) fun z0 =>
 (.test (Sum.isLeft z0)
 (.sub (Sum.getLeft? z0) fun z1 =>
 (.ret z1))
 (.sub (Sum.getRight? z0) fun z2 =>
 (.ret false))))
noncomputable def F124 (v) := (F124_t v).run
noncomputable def F124_E : TEnv := E0
theorem F124_Eok : (F124_E).OK := E0ok
noncomputable def F124_told : Nat → Option SealT := fun id => if id = 2 then some (LSh.told F124_L2_sh 0 (F124_L2_step)) else none
theorem F124_L2_ok : ToldOK Tryz.prog 0 (loopAt (bodyOf fn_F124) [0]) (LSh.told F124_L2_sh 0 (F124_L2_step)) :=
 loop_ok (E := F124_E) (F124_Eok) (told := F124_told) (l := F124_L2_sh) (step := F124_L2_step) (loopsOK_of (ls := []) (by kernel_rfl) trivial) (by kernel_rfl) (fun v => by kernel_rfl)
theorem F124_ok : FOK Tryz.prog n_F124 F124_sh F124_fo F124 :=
 fn_ok (E := F124_E) (F124_Eok) (told := F124_told) (fl := []) (c := bodyOf fn_F124) (s := F124_sh) (l := F124_fo) (tree := F124_t) fnat_F124 (by kernel_rfl) (by kernel_rfl) (by kernel_rfl) (loopsOK_of (ls := [loopAt (bodyOf fn_F124) [0]]) (by kernel_rfl) ⟨.inr ⟨_, by kernel_rfl, F124_L2_ok⟩, trivial⟩) (fun v => by kernel_rfl)
theorem F124_eq (ds : List Dg) (d : Dg) (hl : ds.length < 4611686018427387904) : F124 (ds, d) = some (decide (d ∈ ds)) := by
 obtain ⟨a, b⟩ := d
 have h := loop_find (step := fun v => (F124_L2_step v).run) (xs := ds) (fun e => decide (e = (a, b))) (fun k => (((), (ds, ((ds.length : Int), (k : Int)))), (a, b))) (fun k => .inl true) (.inr ())
  (fun k x hx => by
   have hk := getElem?_lt hx
   rw [F124_L2_step, T.run_test, if_pos (decide_eq_true (by omega)), T.run_test, if_pos (decide_eq_true (by omega)), T.run_sub, Int.toNat_natCast, hx, Option.bind_some, T.run_test, T.run_ret, T.run_ret, w64_id (by omega) (by omega)]
   obtain ⟨x1, x2⟩ := x
   by_cases e : x1 = a ∧ x2 = b
   ·simp [e]
   ·rw [if_neg (by simp; exact fun h1 h2 => e ⟨h1, h2⟩), decide_eq_false (by rw [Prod.mk.injEq]; exact e)]; simp)
  (by rw [F124_L2_step, T.run_test, if_neg (by simp), T.run_ret])
 have h' : F124_L2 (((), (ds, ((ds.length : Int), (0 : Int)))), (a, b)) = _ := h
 rw [F124, F124_t, T.run_sub, h', Option.bind_some]
 cases hf : ds.findIdx? (fun e => decide (e = (a, b))) with
 | none =>
  have : (a, b) ∉ ds := fun hm => by
   have := List.findIdx?_eq_none_iff.1 hf (a, b) hm
   simp at this
  rw [decide_eq_false this]; rfl
 | some k =>
  have : (a, b) ∈ ds := by
   obtain ⟨hlt, hk, _⟩ := List.findIdx?_eq_some_iff_getElem.1 hf
   rw [← of_decide_eq_true hk]; exact List.getElem_mem hlt
  rw [decide_eq_true this]; rfl
theorem cmp_loop {X A : Type} [DecidableEq X] {step : A → Option (A ⊕ (Bool ⊕ Unit))} (a b : List X) (emb : Nat → A) (hab : a.length = b.length)
  (h : ∀ k x y, a[k]? = some x → b[k]? = some y → step (emb k) = if x = y then some (.inl (emb (k + 1))) else some (.inr (.inl false))) (hend : step (emb a.length) = some (.inr (.inr ()))) :
  loopO step (emb 0) = some (if a = b then .inr () else .inl false) := by
 have key : ∀ m k, k + m = a.length → loopO step (emb k) = some (if a.drop k = b.drop k then .inr () else .inl false) := by
  intro m
  induction m with
  | zero =>
   intro k hk
   rw [List.drop_of_length_le (by omega), List.drop_of_length_le (by omega), if_pos rfl, show k = a.length by omega]
   exact loopO_done hend
  | succ m ih =>
   intro k hk
   have h1 : k < a.length := by omega
   have h2 : k < b.length := by omega
   have hs := h k a[k] b[k] (List.getElem?_eq_getElem h1) (List.getElem?_eq_getElem h2)
   rw [List.drop_eq_getElem_cons h1, List.drop_eq_getElem_cons h2]
   by_cases e : a[k] = b[k]
   ·rw [if_pos e] at hs
    rw [loopO_next hs, ih (k + 1) (by omega), e]
    by_cases e2 : a.drop (k + 1) = b.drop (k + 1)
    ·rw [if_pos e2, e2, if_pos rfl]
    ·rw [if_neg e2, if_neg fun x => e2 (List.cons.inj x).2]
   ·rw [if_neg e] at hs
    rw [loopO_done hs, if_neg fun x => e (List.cons.inj x).1]
 have := key a.length 0 (by omega)
 rwa [List.drop_zero, List.drop_zero] at this
theorem flat_if {A B : Type} (c : A → Bool) (f : A → B) : ∀ l : List A, (l.filter c).map f = l.flatMap fun x => if c x = true then [f x] else []
 | [] => rfl
 | a :: t => by
  rw [List.flatMap_cons, ← flat_if c f t]
  cases h : c a <;> simp [h]
theorem app_loop {A B X : Type} {step : A → Option (A ⊕ B)} (emb : Nat → List X → A) (f : Nat → List X) (fin : List X → B) (n D L k0 : Nat) (hD : ∀ j, (f j).length ≤ D)
  (hend : ∀ o j, n ≤ j → step (emb j o) = some (.inr (fin o))) (hstep : ∀ j o, k0 ≤ j → j < n → o.length ≤ L + D * j → step (emb j o) = some (.inl (emb (j + 1) (o ++ f j)))) :
  ∀ (m k : Nat) (o : List X), k0 ≤ k → m = n - k → o.length ≤ L + D * k → loopO step (emb k o) = some (fin (o ++ (List.range' k m).flatMap f))
 | 0, k, o, h0, hm, ho => by
  rw [List.range'_zero, List.flatMap_nil, List.append_nil]
  exact loopO_done (hend o k (by omega))
 | m + 1, k, o, h0, hm, ho => by
  have hl : (o ++ f k).length ≤ L + D * (k + 1) := by
   rw [List.length_append, Nat.mul_add, Nat.mul_one]
   have := hD k
   omega
  rw [loopO_next (hstep k o h0 (by omega) ho), app_loop emb f fin n D L k0 hD hend hstep m (k + 1) (o ++ f k) (by omega) (by omega) hl, List.range'_succ, List.flatMap_cons, List.append_assoc]
def F97_sh : FSh := ⟨[(.one (.si .i64)), (.one (.sl (.pair (.int .i64) (.int .i64)) false false))], []⟩
def F97_L12_sh : LSh := ⟨(fun ex => match ex with | .norm => [(0, none), (1, none), (5, none), (6, none), (7, none), (8, none), (9, none), (36, none), (37, none), (38, none)] | .exit i => if i = 4 then [(0, none), (1, none), (5, none), (6, none), (7, none), (8, none), (9, none)] else if i = 3 then [(0, none), (1, none), (5, none), (6, none), (7, none)] else if i = 2 then [(0, none), (1, none), (5, none), (6, none)] else if i = 1 then [(0, none), (1, none), (5, none), (6, none)] else if i = 0 then [(5, none)] else [] | .ret => [(4, none)]), [(0, (.one (.si .i64))), (1, (.one (.sl (.pair (.int .i64) (.int .i64)) false false))), (5, (.one (.rw 0 0))), (6, (.one (.si .i64))), (7, (.one (.si .i64))), (8, (.one (.pf 1 0 0))), (9, (.one .sb)), (36, (.one (.sl (.pair (.int .i64) (.int .i64)) false false))), (37, (.one (.si .i64))), (38, (.one (.si .i64)))], [(.row 0 (.pair (.int .i64) (.int .i64))), (.rcd 0 [(.si .i64), (.si .i64)])], [⟨(.exit 4), [(0, (.one (.si .i64))), (1, (.one (.sl (.pair (.int .i64) (.int .i64)) false false))), (5, (.one (.rw 0 0))), (6, (.one (.si .i64))), (7, (.one (.si .i64))), (8, (.one (.pf 1 0 0))), (9, (.one .sb))], [(.row 0 (.pair (.int .i64) (.int .i64))), (.rcd 0 [(.si .i64), (.si .i64)])]⟩], [], []⟩
noncomputable def F97_L12_step : ((Int × List ((Int × Int)) × Unit × Int × Int × Unit × Bool × List ((Int × Int)) × Int × Int) × (List ((Int × Int)) × (Int × Int))) → T (((Int × List ((Int × Int)) × Unit × Int × Int × Unit × Bool × List ((Int × Int)) × Int × Int) × (List ((Int × Int)) × (Int × Int))) ⊕ ((Int × List ((Int × Int)) × Unit × Int × Int × Unit × Bool) × (List ((Int × Int)) × (Int × Int)))) := fun ((n, ds, (), a, b, (), free, t36, t37, t38), (out, (d_0, d_1))) =>
 (.test (decide (t38 < t37))
 (.test (decide ((0 ≤ t38) ∧ (t38 < (t36.length : Int))))
 (.sub (t36[(Int.toNat t38)]?) fun z0 =>
 (.test free
 (.sub (F81 ((d_0, d_1), z0)) fun z1 =>
 (.test (decide ((0 = 0) ∧ (out.length = out.length)))
 (.ret (Sum.inl ((n, (ds, ((), (a, (b, ((), ((! z1), (t36, (t37, (w64 (t38 + 1))))))))))), (out, (d_0, d_1)))))
 .fail))
 (.test (decide ((0 = 0) ∧ (out.length = out.length)))
 (.ret (Sum.inl ((n, (ds, ((), (a, (b, ((), (false, (t36, (t37, (w64 (t38 + 1))))))))))), (out, (d_0, d_1)))))
 .fail)))
 .fail)
 (.test (decide ((0 = 0) ∧ (out.length = out.length)))
 (.ret (Sum.inr ((n, (ds, ((), (a, (b, ((), free)))))), (out, (d_0, d_1)))))
 .fail))
noncomputable def F97_L12 (v) := loopO (fun v => (F97_L12_step v).run) v
def F97_L6_sh : LSh := ⟨(fun ex => match ex with | .norm => [(0, none), (1, none), (5, none), (6, none), (7, none)] | .exit i => if i = 2 then [(0, none), (1, none), (5, none), (6, none)] else if i = 1 then [(0, none), (1, none), (5, none), (6, none)] else if i = 0 then [(5, none)] else [] | .ret => [(4, none)]), [(0, (.one (.si .i64))), (1, (.one (.sl (.pair (.int .i64) (.int .i64)) false false))), (5, (.one (.rw 0 0))), (6, (.one (.si .i64))), (7, (.one (.si .i64)))], [(.row 0 (.pair (.int .i64) (.int .i64)))], [⟨(.exit 2), [(0, (.one (.si .i64))), (1, (.one (.sl (.pair (.int .i64) (.int .i64)) false false))), (5, (.one (.rw 0 0))), (6, (.one (.si .i64)))], [(.row 0 (.pair (.int .i64) (.int .i64)))]⟩], [], []⟩
noncomputable def F97_L6_step : ((Int × List ((Int × Int)) × Unit × Int × Int) × List ((Int × Int))) → T (((Int × List ((Int × Int)) × Unit × Int × Int) × List ((Int × Int))) ⊕ ((Int × List ((Int × Int)) × Unit × Int) × List ((Int × Int)))) := fun ((n, ds, (), a, b), out) =>
 (.test (decide (b < n))
 (.sub (F57 (n, (a, b))) fun z0 =>
 (.test (! z0)
 (.test (decide ((0 = 0) ∧ (out.length = out.length)))
 (.ret (Sum.inl ((n, (ds, ((), (a, (w64 (b + 1)))))), out)))
 .fail)
 (.sub (F124 (ds, (a, b))) fun z1 =>
 (.test z1
 (.test (decide ((0 = 0) ∧ (out.length = out.length)))
 (.ret (Sum.inl ((n, (ds, ((), (a, (w64 (b + 1)))))), out)))
 .fail)
 (.test (decide ((0 = 0) ∧ (out.length = out.length)))
 (.sub (F97_L12 ((n, (ds, ((), (a, (b, ((), (true, (ds, ((ds.length : Int), (0 : Int)))))))))), (out, (a, b)))) fun z2 =>
 (.test z2.1.2.2.2.2.2.2
 (.test (decide (1 ≤ 1))
 (.test (decide ((0 + z2.2.1.length) ≤ z2.2.1.length))
 (.test (decide ((2 * ((z2.2.1.length + 1) * 17)) ≤ 140737488355328))
 (.test (decide ((0 = 0) ∧ ((z2.2.1.length + 1) = (List.length ((win z2.2.1 0 z2.2.1.length) ++ [z2.2.2])))))
 (.ret (Sum.inl ((z2.1.1, (z2.1.2.1, ((), (z2.1.2.2.2.1, (w64 (z2.1.2.2.2.2.1 + 1)))))), ((win z2.2.1 0 z2.2.1.length) ++ [z2.2.2]))))
 .fail)
 .fail)
 .fail)
 .fail)
 (.test (decide ((0 = 0) ∧ (z2.2.1.length = z2.2.1.length)))
 (.ret (Sum.inl ((z2.1.1, (z2.1.2.1, ((), (z2.1.2.2.2.1, (w64 (z2.1.2.2.2.2.1 + 1)))))), z2.2.1)))
 .fail)))
 .fail)))))
 (.test (decide ((0 = 0) ∧ (out.length = out.length)))
 (.ret (Sum.inr ((n, (ds, ((), a))), out)))
 .fail))
noncomputable def F97_L6 (v) := loopO (fun v => (F97_L6_step v).run) v
def F97_L3_sh : LSh := ⟨(fun ex => match ex with | .norm => [(0, none), (1, none), (5, none), (6, none)] | .exit i => if i = 0 then [(5, none)] else [] | .ret => [(4, none)]), [(0, (.one (.si .i64))), (1, (.one (.sl (.pair (.int .i64) (.int .i64)) false false))), (5, (.one (.rw 0 0))), (6, (.one (.si .i64)))], [(.row 0 (.pair (.int .i64) (.int .i64)))], [⟨(.exit 0), [(5, (.one (.rw 0 0)))], [(.row 0 (.pair (.int .i64) (.int .i64)))]⟩], [], []⟩
noncomputable def F97_L3_step : ((Int × List ((Int × Int)) × Unit × Int) × List ((Int × Int))) → T (((Int × List ((Int × Int)) × Unit × Int) × List ((Int × Int))) ⊕ (Unit × List ((Int × Int)))) := fun ((n, ds, (), a), out) =>
 (.test (decide (a < n))
 (.test (decide ((0 = 0) ∧ (out.length = out.length)))
 (.sub (F97_L6 ((n, (ds, ((), (a, (w64 (a + 2)))))), out)) fun z0 =>
 (.test (decide ((0 = 0) ∧ (z0.2.length = z0.2.length)))
 (.ret (Sum.inl ((z0.1.1, (z0.1.2.1, ((), (w64 (z0.1.2.2.2 + 1))))), z0.2)))
 .fail))
 .fail)
 (.test (decide ((0 = 0) ∧ (out.length = out.length)))
 (.ret (Sum.inr ((), out)))
 .fail))
noncomputable def F97_L3 (v) := loopO (fun v => (F97_L3_step v).run) v
def F97_fo : List FO := [⟨[(.one (.rw 0 0))], [(.row 0 (.pair (.int .i64) (.int .i64)))]⟩]
noncomputable def F97_t : (Int × List ((Int × Int))) → T (Unit × List ((Int × Int))) := fun (n, ds) =>
 (.test true
 (.sub (F97_L3 ((n, (ds, ((), (0 : Int)))), ([] : List (Int × Int)))) fun z0 =>
 (.test (decide ((0 = 0) ∧ (z0.2.length = z0.2.length)))
 (.ret ((), z0.2))
 .fail))
 .fail)
noncomputable def F97 (v) := (F97_t v).run
noncomputable def F97_E : TEnv := (((E0.add1 n_F57 F57_sh F57_fo F57).add1 n_F124 F124_sh F124_fo F124).add1 n_F81 F81_sh F81_fo F81)
theorem F97_Eok : (F97_E).OK := (((E0ok.add1 F57_ok).add1 F124_ok).add1 F81_ok)
noncomputable def F97_told : Nat → Option SealT := fun id => if id = 12 then some (LSh.told F97_L12_sh 0 (F97_L12_step)) else if id = 6 then some (LSh.told F97_L6_sh 0 (F97_L6_step)) else if id = 3 then some (LSh.told F97_L3_sh 0 (F97_L3_step)) else none
theorem F97_L12_ok : ToldOK Tryz.prog 0 (loopAt (bodyOf fn_F97) [0, 0, 0]) (LSh.told F97_L12_sh 0 (F97_L12_step)) :=
 loop_ok (E := F97_E) (F97_Eok) (told := F97_told) (l := F97_L12_sh) (step := F97_L12_step) (loopsOK_of (ls := []) (by kernel_rfl) trivial) (by kernel_rfl) (fun v => by kernel_rfl)
theorem F97_L6_ok : ToldOK Tryz.prog 0 (loopAt (bodyOf fn_F97) [0, 0]) (LSh.told F97_L6_sh 0 (F97_L6_step)) :=
 loop_ok (E := F97_E) (F97_Eok) (told := F97_told) (l := F97_L6_sh) (step := F97_L6_step) (loopsOK_of (ls := [loopAt (bodyOf fn_F97) [0, 0, 0]]) (by kernel_rfl) ⟨.inr ⟨_, by kernel_rfl, F97_L12_ok⟩, trivial⟩) (by kernel_rfl) (fun v => by kernel_rfl)
theorem F97_L3_ok : ToldOK Tryz.prog 0 (loopAt (bodyOf fn_F97) [0]) (LSh.told F97_L3_sh 0 (F97_L3_step)) :=
 loop_ok (E := F97_E) (F97_Eok) (told := F97_told) (l := F97_L3_sh) (step := F97_L3_step) (loopsOK_of (ls := [loopAt (bodyOf fn_F97) [0, 0]]) (by kernel_rfl) ⟨.inr ⟨_, by kernel_rfl, F97_L6_ok⟩, trivial⟩) (by kernel_rfl) (fun v => by kernel_rfl)
theorem F97_ok : FOK Tryz.prog n_F97 F97_sh F97_fo F97 :=
 fn_ok (E := F97_E) (F97_Eok) (told := F97_told) (fl := []) (c := bodyOf fn_F97) (s := F97_sh) (l := F97_fo) (tree := F97_t) fnat_F97 (by kernel_rfl) (by kernel_rfl) (by kernel_rfl) (loopsOK_of (ls := [loopAt (bodyOf fn_F97) [0]]) (by kernel_rfl) ⟨.inr ⟨_, by kernel_rfl, F97_L3_ok⟩, trivial⟩) (fun v => by kernel_rfl)
theorem F97_L12_eq (n : Int) (ds : List Dg) (hl : ds.length < 4611686018427387904) (a b : Int) (out : List Dg) (d : Dg) : ∀ (m k : Nat) (fr : Bool), k + m = ds.length →
  F97_L12 ((n, (ds, ((), (a, (b, ((), (fr, (ds, (((ds.length : Nat) : Int), (k : Int)))))))))), (out, d)) = some ((n, (ds, ((), (a, (b, ((), fr && (ds.drop k).all fun e => !crossD d e)))))), (out, d))
 | 0, k, fr, hk => by
  obtain ⟨x, y⟩ := d
  rw [List.drop_of_length_le (by omega), List.all_nil, Bool.and_true]
  refine loopO_done ?_
  rw [F97_L12_step, T.run_test, if_neg (by rw [decide_eq_true_eq]; omega), T.run_test, if_pos (by simp), T.run_ret]
 | m + 1, k, fr, hk => by
  have hlt : k < ds.length := by omega
  have w1 : w64 ((k : Int) + 1) = ((k + 1 : Nat) : Int) := by rw [w64_id (by omega) (by omega)]; omega
  rw [List.drop_eq_getElem_cons hlt, List.all_cons]
  have ih := F97_L12_eq n ds hl a b out d m (k + 1) (fr && !crossD d ds[k]) (by omega)
  obtain ⟨x, y⟩ := d
  rw [← Bool.and_assoc, ← ih]
  refine loopO_next ?_
  rw [F97_L12_step, T.run_test, if_pos (decide_eq_true (by omega)), T.run_test, if_pos (decide_eq_true (by omega)), T.run_sub, Int.toNat_natCast, List.getElem?_eq_getElem hlt, Option.bind_some, T.run_test]
  cases fr with
  | true => rw [if_pos rfl, T.run_sub, F81_eq, Option.bind_some, T.run_test, if_pos (by simp), T.run_ret, w1, Bool.true_and]
  | false => rw [if_neg (by simp), T.run_test, if_pos (by simp), T.run_ret, w1, Bool.false_and]
theorem F97_row (n a : Nat) (hn : 3 ≤ n ∧ n ≤ 12) (ds : List Dg) (hl : ds.length < 4611686018427387904) (out : List Dg) (ho : out.length ≤ 1000) :
  F97_L6 (((n : Int), (ds, ((), ((a : Int), ((a + 2 : Nat) : Int))))), out) = some (((n : Int), (ds, ((), (a : Int)))), out ++ (List.range' (a + 2) (n - (a + 2))).flatMap fun (b : Nat) => if (inDg n ((a : Int), (b : Int)) && frB ds ((a : Int), (b : Int))) = true then [((a : Int), (b : Int))] else []) := by
 have hL := app_loop (step := fun v => (F97_L6_step v).run) (fun b o => (((n : Int), (ds, ((), ((a : Int), (b : Int))))), o)) (fun b => if (inDg n ((a : Int), (b : Int)) && frB ds ((a : Int), (b : Int))) = true then [((a : Int), (b : Int))] else []) (fun o => (((n : Int), (ds, ((), (a : Int)))), o)) n 1 1000 (a + 2)
  (fun j => by split <;> simp)
  (fun o j hj => by rw [F97_L6_step, T.run_test, if_neg (by rw [decide_eq_true_eq]; omega), T.run_test, if_pos (by simp), T.run_ret])
  (fun b o h0 hb ho => by
   have w1 : w64 ((b : Int) + 1) = ((b + 1 : Nat) : Int) := by rw [w64_id (by omega) (by omega)]; omega
   rw [F97_L6_step, T.run_test, if_pos (decide_eq_true (by omega)), T.run_sub, F57_eq (n : Int) ((a : Int), (b : Int)) (by omega) (by omega), Option.bind_some, T.run_test]
   cases hg : inDg n ((a : Int), (b : Int)) with
   | false => rw [if_pos (by rfl), T.run_test, if_pos (by simp), T.run_ret, w1, Bool.false_and, if_neg (by simp), List.append_nil]
   | true =>
    rw [if_neg (by simp), T.run_sub, F124_eq ds _ hl, Option.bind_some, T.run_test, Bool.true_and]
    unfold frB
    by_cases hm : ((a : Int), (b : Int)) ∈ ds
    ·rw [if_pos (decide_eq_true hm), T.run_test, if_pos (by simp), T.run_ret, w1, decide_eq_true hm]
     simp
    ·have hc := F97_L12_eq (n : Int) ds hl (a : Int) (b : Int) o ((a : Int), (b : Int)) ds.length 0 true (by omega)
     rw [Bool.true_and, List.drop_zero] at hc
     rw [if_neg (by rw [decide_eq_true_eq]; exact hm), T.run_test, if_pos (by simp), T.run_sub]
     rw [show ((0 : Nat) : Int) = 0 from rfl] at hc
     rw [hc, Option.bind_some, T.run_test, decide_eq_false hm, Bool.not_false, Bool.true_and]
     dsimp only
     cases hx : ds.all fun e => !crossD ((a : Int), (b : Int)) e with
     | true =>
      rw [if_pos (by rfl)]
      repeat rw [T.run_test, if_pos (by first | rfl | (simp [win_all]; done) | (simp; omega))]
      rw [T.run_ret, w1, if_pos (by rfl)]
      simp only [win_all]
     | false =>
      rw [if_neg (by simp), T.run_test, if_pos (by simp), T.run_ret, w1, if_neg (by simp), List.append_nil])
  (n - (a + 2)) (a + 2) out (Nat.le_refl _) rfl (by omega)
 exact hL
theorem free_row (n a : Nat) (ds : List Dg) : ((List.range' (a + 2) (n - (a + 2))).flatMap fun (b : Nat) => if (inDg n ((a : Int), (b : Int)) && frB ds ((a : Int), (b : Int))) = true then [((a : Int), (b : Int))] else []) =
  (((List.range n).map fun (b : Nat) => ((a : Int), (b : Int))).filter fun d => inDg n d).filter (frB ds) := by
 rw [List.filter_filter, List.filter_map, flat_if]
 have e : List.range n = List.range' 0 (min n (a + 2)) ++ List.range' (a + 2) (n - (a + 2)) := by
  rw [List.range_eq_range']
  by_cases h : a + 2 ≤ n
  ·rw [Nat.min_eq_right h]
   have := List.range'_append (s := 0) (m := a + 2) (n := n - (a + 2)) (step := 1)
   rw [Nat.one_mul, Nat.zero_add, show a + 2 + (n - (a + 2)) = n by omega] at this
   exact this.symm
  ·rw [Nat.min_eq_left (by omega), show n - (a + 2) = 0 by omega, List.range'_zero, List.append_nil]
 rw [e, List.flatMap_append]
 have e0 : ((List.range' 0 (min n (a + 2))).flatMap fun x => if ((fun d => frB ds d && inDg n d) ∘ fun (b : Nat) => ((a : Int), (b : Int))) x = true then [((a : Int), (x : Int))] else []) = [] := by
  rw [List.flatMap_eq_nil_iff]
  intro b hb
  have hb := (List.mem_range'_1.1 hb).2
  have : inDg n ((a : Int), (b : Int)) = false := by
   rw [Bool.eq_false_iff, ne_eq, inDg_iff]
   dsimp only
   omega
  simp [this]
 rw [e0, List.nil_append]
 refine congrArg (fun f => List.flatMap f _) (funext fun b => ?_)
 simp only [Function.comp, Bool.and_comm]
theorem F97_eq (n : Nat) (hn : 3 ≤ n ∧ n ≤ 12) (ds : List Dg) (hl : ds.length < 4611686018427387904) : F97 ((n : Int), ds) = some ((), freeL n ds) := by
 have hD : ∀ a : Nat, (((((List.range n).map fun (b : Nat) => ((a : Int), (b : Int))).filter fun d => inDg n d).filter (frB ds))).length ≤ 12 := fun a => by
  refine Nat.le_trans (List.length_filter_le _ _) (Nat.le_trans (List.length_filter_le _ _) ?_)
  rw [List.length_map, List.length_range]; omega
 have hL := app_loop (step := fun v => (F97_L3_step v).run) (fun a o => (((n : Int), (ds, ((), (a : Int)))), o)) (fun a => ((((List.range n).map fun (b : Nat) => ((a : Int), (b : Int))).filter fun d => inDg n d).filter (frB ds))) (fun o => ((), o)) n 12 0 0 hD
  (fun o j hj => by rw [F97_L3_step, T.run_test, if_neg (by rw [decide_eq_true_eq]; omega), T.run_test, if_pos (by simp), T.run_ret])
  (fun a o _ ha ho => by
   have w1 : w64 ((a : Int) + 1) = ((a + 1 : Nat) : Int) := by rw [w64_id (by omega) (by omega)]; omega
   have w2 : w64 ((a : Int) + 2) = ((a + 2 : Nat) : Int) := by rw [w64_id (by omega) (by omega)]; omega
   have ho : o.length ≤ 1000 := by
    have : 12 * a ≤ 12 * 12 := Nat.mul_le_mul_left 12 (by omega)
    omega
   rw [F97_L3_step, T.run_test, if_pos (decide_eq_true (by omega)), T.run_test, if_pos (by simp), T.run_sub, w2, F97_row n a hn ds hl o ho, free_row, Option.bind_some, T.run_test, if_pos (by simp), T.run_ret, w1])
  n 0 [] (Nat.le_refl 0) rfl (by simp)
 rw [List.nil_append] at hL
 have hL' : F97_L3 (((n : Int), (ds, ((), (0 : Int)))), ([] : List (Int × Int))) = _ := hL
 have e : ((List.range' 0 n).flatMap fun (a : Nat) => ((((List.range n).map fun (b : Nat) => ((a : Int), (b : Int))).filter fun d => inDg n d).filter (frB ds))) = freeL n ds := by
  show _ = (dgL n).filter (frB ds)
  unfold dgL
  rw [← List.range_eq_range', List.filter_flatMap]
 rw [e] at hL'
 rw [F97, F97_t, T.run_test, if_pos rfl, T.run_sub, hL', Option.bind_some, T.run_test, if_pos (by simp), T.run_ret]
def F44_sh : FSh := ⟨[(.one (.si .i64)), (.one (.sl (.pair (.int .i64) (.int .i64)) false false))], []⟩
def F44_fo : List FO := [⟨[(.one (.rw 0 0)), (.one .sb)], [(.row 0 (.pair (.int .i64) (.int .i64)))]⟩]
noncomputable def F44_t : (Int × List ((Int × Int))) → T ((Unit × Bool) × List ((Int × Int))) := fun (n, ds) =>
 (.sub (F94 (n, ds)) fun z0 =>
 (.test (! z0)
 (.test true
 (.ret (((), false), ([] : List (Int × Int))))
 .fail)
 (.sub (F97 (n, ds)) fun z1 =>
 (.test (decide ((0 = 0) ∧ (z1.2.length = z1.2.length)))
 (.ret (((), true), z1.2))
 .fail))))
noncomputable def F44 (v) := (F44_t v).run
noncomputable def F44_E : TEnv := ((E0.add1 n_F94 F94_sh F94_fo F94).add1 n_F97 F97_sh F97_fo F97)
theorem F44_Eok : (F44_E).OK := ((E0ok.add1 F94_ok).add1 F97_ok)
noncomputable def F44_told : Nat → Option SealT := fun id => none
theorem F44_ok : FOK Tryz.prog n_F44 F44_sh F44_fo F44 :=
 fn_ok (E := F44_E) (F44_Eok) (told := F44_told) (fl := []) (c := bodyOf fn_F44) (s := F44_sh) (l := F44_fo) (tree := F44_t) fnat_F44 (by kernel_rfl) (by kernel_rfl) (by kernel_rfl) (loopsOK_of (ls := []) (by kernel_rfl) trivial) (fun v => by kernel_rfl)
theorem F44_eq (n : Int) (ds : List Dg) (hl : ds.length < 4611686018427387904) : F44 (n, ds) = some (frR n ds) := by
 unfold frR
 rw [F44, F44_t, T.run_sub, F94_eq n ds hl, Option.bind_some, T.run_test]
 by_cases c : isCut n ds = true
 ·obtain ⟨N, rfl, h3, h12, _, _⟩ := isCut_cut c
  rw [c, if_neg (by decide), T.run_sub, F97_eq N ⟨h3, h12⟩ ds hl, Option.bind_some, T.run_test, if_pos (by simp), T.run_ret, if_pos rfl, Int.toNat_natCast]
 ·rw [if_pos (by simp at c ⊢; exact c), T.run_test, if_pos rfl, T.run_ret, if_neg c]
def F98_sh : FSh := ⟨[(.one (.si .i64)), (.one (.si .i64))], []⟩
def F98_L5_sh : LSh := ⟨(fun ex => match ex with | .norm => [(0, none), (5, none), (11, none), (12, none)] | .exit i => if i = 0 then [(5, none)] else [] | .ret => [(4, none)]), [(0, (.one (.si .i64))), (5, (.one (.si .i64))), (11, (.one (.si .i64))), (12, (.one (.si .i64)))], [], [⟨(.exit 0), [(5, (.one (.si .i64)))], []⟩], [], []⟩
noncomputable def F98_L5_step : (Int × Int × Int × Int) → T ((Int × Int × Int × Int) ⊕ Int) := fun (n, out, t11, t12) =>
 (.test (decide (t12 < t11))
 (.test (decide ((w64 (t12 + 1)) ≠ 0))
 (.ret (Sum.inl (n, ((w64 (Int.tdiv (w64 (out * (w64 (n - t12)))) (w64 (t12 + 1)))), (t11, (w64 (t12 + 1)))))))
 .fail)
 (.ret (Sum.inr out)))
noncomputable def F98_L5 (v) := loopO (fun v => (F98_L5_step v).run) v
def F98_fo : List FO := [⟨[(.one (.si .i64))], []⟩]
noncomputable def F98_t : (Int × Int) → T Int := fun (n, k) =>
 (.sub (F92 (k, ((0 : Int), n))) fun z0 =>
 (.test (! z0)
 (.ret (0 : Int))
 (.sub (F98_L5 (n, ((1 : Int), (k, (0 : Int))))) fun z1 =>
 (.ret z1))))
noncomputable def F98 (v) := (F98_t v).run
noncomputable def F98_E : TEnv := (E0.add1 n_F92 F92_sh F92_fo F92)
theorem F98_Eok : (F98_E).OK := (E0ok.add1 F92_ok)
noncomputable def F98_told : Nat → Option SealT := fun id => if id = 5 then some (LSh.told F98_L5_sh 0 (F98_L5_step)) else none
theorem F98_L5_ok : ToldOK Tryz.prog 0 (loopAt (bodyOf fn_F98) [0]) (LSh.told F98_L5_sh 0 (F98_L5_step)) :=
 loop_ok (E := F98_E) (F98_Eok) (told := F98_told) (l := F98_L5_sh) (step := F98_L5_step) (loopsOK_of (ls := []) (by kernel_rfl) trivial) (by kernel_rfl) (fun v => by kernel_rfl)
theorem F98_ok : FOK Tryz.prog n_F98 F98_sh F98_fo F98 :=
 fn_ok (E := F98_E) (F98_Eok) (told := F98_told) (fl := []) (c := bodyOf fn_F98) (s := F98_sh) (l := F98_fo) (tree := F98_t) fnat_F98 (by kernel_rfl) (by kernel_rfl) (by kernel_rfl) (loopsOK_of (ls := [loopAt (bodyOf fn_F98) [0]]) (by kernel_rfl) ⟨.inr ⟨_, by kernel_rfl, F98_L5_ok⟩, trivial⟩) (fun v => by kernel_rfl)
theorem F98_L5_eq (n k : Int) (hk : k ≤ 1000) : ∀ (m i : Nat) (out : Int), (i : Int) + (m : Int) = k → F98_L5 (n, (out, (k, (i : Int)))) = some (chA n m i out) := by
 intro m
 induction m with
 | zero =>
  intro i out h
  simp only [F98_L5]
  refine loopO_done ?_
  rw [F98_L5_step, T.run_test, if_neg (by rw [decide_eq_true_eq]; omega), T.run_ret]
  rfl
 | succ m ih =>
  intro i out h
  have w1 : w64 ((i : Int) + 1) = ((i + 1 : Nat) : Int) := by rw [w64_id (by omega) (by omega)]; omega
  have := ih (i + 1) (w64 (Int.tdiv (w64 (out * (w64 (n - (i : Int))))) ((i + 1 : Nat) : Int))) (by omega)
  simp only [F98_L5] at this ⊢
  rw [chA, ← this]
  refine loopO_next ?_
  rw [F98_L5_step, T.run_test, if_pos (decide_eq_true (by omega)), T.run_test, w1, if_pos (by exact decide_eq_true (by omega)), T.run_ret]
def F84_sh : FSh := ⟨[(.one (.si .i64))], []⟩
def F84_fo : List FO := [⟨[(.one (.si .i64))], []⟩]
noncomputable def F84_t : Int → T Int := fun n =>
 (.sub (F98 ((w64 ((w64 (2 * n)) - 4)), (w64 (n - 2)))) fun z0 =>
 (.test (decide ((w64 (n - 1)) ≠ 0))
 (.ret (w64 (Int.tdiv z0 (w64 (n - 1)))))
 .fail))
noncomputable def F84 (v) := (F84_t v).run
noncomputable def F84_E : TEnv := (E0.add1 n_F98 F98_sh F98_fo F98)
theorem F84_Eok : (F84_E).OK := (E0ok.add1 F98_ok)
noncomputable def F84_told : Nat → Option SealT := fun id => none
theorem F84_ok : FOK Tryz.prog n_F84 F84_sh F84_fo F84 :=
 fn_ok (E := F84_E) (F84_Eok) (told := F84_told) (fl := []) (c := bodyOf fn_F84) (s := F84_sh) (l := F84_fo) (tree := F84_t) fnat_F84 (by kernel_rfl) (by kernel_rfl) (by kernel_rfl) (loopsOK_of (ls := []) (by kernel_rfl) trivial) (fun v => by kernel_rfl)
theorem F84_eq (s : Int) (h1 : 3 ≤ s) (h2 : s ≤ 12) : F84 s = some (catV s) := by
 have e1 : w64 (w64 (2 * s) - 4) = 2 * s - 4 := by rw [w64_id (z := 2 * s) (by omega) (by omega), w64_id (by omega) (by omega)]
 have e2 : w64 (s - 2) = s - 2 := w64_id (by omega) (by omega)
 have e3 : w64 (s - 1) = s - 1 := w64_id (by omega) (by omega)
 have hc := F98_L5_eq (2 * s - 4) (s - 2) (by omega) (s - 2).toNat 0 1 (by omega)
 rw [Int.natCast_zero] at hc
 rw [F84, F84_t, T.run_sub, e1, e2, e3, F98, F98_t, T.run_sub, F92_eq, Option.bind_some, T.run_test, if_neg (by rw [inB_iff.2 (by omega)]; simp), T.run_sub, hc, Option.bind_some, T.run_ret, Option.bind_some, T.run_test, if_pos (by exact decide_eq_true (by omega)), T.run_ret]
 rfl
def F63_sh : FSh := ⟨[(.one (.si .i64)), (.one (.sl (.pair (.int .i64) (.int .i64)) false false))], []⟩
def F63_L5_sh : LSh := ⟨(fun ex => match ex with | .norm => [(6, none), (15, none), (16, none), (17, none)] | .exit i => if i = 0 then [(6, none)] else [] | .ret => [(4, none), (5, none)]), [(6, (.one (.si .i64))), (15, (.one (.rw 0 0))), (16, (.one (.si .i64))), (17, (.one (.si .i64)))], [(.row 0 (.int .i64))], [⟨(.exit 0), [(6, (.one (.si .i64)))], []⟩], [], []⟩
noncomputable def F63_L5_step : ((Int × Unit × Int × Int) × List (Int)) → T (((Int × Unit × Int × Int) × List (Int)) ⊕ Int) := fun ((out, (), t16, t17), t15) =>
 (.test (decide (t17 < t16))
 (.test (decide ((0 ≤ t17) ∧ (t17 < (t15.length : Int))))
 (.sub (t15[(0 + (Int.toNat t17))]?) fun z0 =>
 (.sub (F84 z0) fun z1 =>
 (.test (decide ((0 = 0) ∧ (t15.length = t15.length)))
 (.ret (Sum.inl (((w64 (out * z1)), ((), (t16, (w64 (t17 + 1))))), t15)))
 .fail)))
 .fail)
 (.ret (Sum.inr out)))
noncomputable def F63_L5 (v) := loopO (fun v => (F63_L5_step v).run) v
def F63_fo : List FO := [⟨[(.one (.si .i64)), (.one .sb)], []⟩]
noncomputable def F63_t : (Int × List ((Int × Int))) → T (Int × Bool) := fun (n, ds) =>
 (.sub (F106 (n, ds)) fun z0 =>
 (.test (! z0)
 (.ret ((0 : Int), false))
 (.sub (F108 (n, ds)) fun z1 =>
 (.test (decide ((0 = 0) ∧ (z1.2.length = z1.2.length)))
 (.sub (F63_L5 (((1 : Int), ((), ((z1.2.length : Int), (0 : Int)))), z1.2)) fun z2 =>
 (.ret (z2, true)))
 .fail))))
noncomputable def F63 (v) := (F63_t v).run
noncomputable def F63_E : TEnv := (((E0.add1 n_F106 F106_sh F106_fo F106).add1 n_F108 F108_sh F108_fo F108).add1 n_F84 F84_sh F84_fo F84)
theorem F63_Eok : (F63_E).OK := (((E0ok.add1 F106_ok).add1 F108_ok).add1 F84_ok)
noncomputable def F63_told : Nat → Option SealT := fun id => if id = 5 then some (LSh.told F63_L5_sh 0 (F63_L5_step)) else none
theorem F63_L5_ok : ToldOK Tryz.prog 0 (loopAt (bodyOf fn_F63) [0]) (LSh.told F63_L5_sh 0 (F63_L5_step)) :=
 loop_ok (E := F63_E) (F63_Eok) (told := F63_told) (l := F63_L5_sh) (step := F63_L5_step) (loopsOK_of (ls := []) (by kernel_rfl) trivial) (by kernel_rfl) (fun v => by kernel_rfl)
theorem F63_ok : FOK Tryz.prog n_F63 F63_sh F63_fo F63 :=
 fn_ok (E := F63_E) (F63_Eok) (told := F63_told) (fl := []) (c := bodyOf fn_F63) (s := F63_sh) (l := F63_fo) (tree := F63_t) fnat_F63 (by kernel_rfl) (by kernel_rfl) (by kernel_rfl) (loopsOK_of (ls := [loopAt (bodyOf fn_F63) [0]]) (by kernel_rfl) ⟨.inr ⟨_, by kernel_rfl, F63_L5_ok⟩, trivial⟩) (fun v => by kernel_rfl)
theorem F63_L5_eq (l : List Int) (hl : l.length ≤ 100) (hb : ∀ s ∈ l, 3 ≤ s ∧ s ≤ 12) : ∀ (m k : Nat) (out : Int), k + m = l.length →
  F63_L5 ((out, ((), ((l.length : Int), (k : Int)))), l) = some ((l.drop k).foldl (fun o s => w64 (o * catV s)) out) := by
 intro m
 induction m with
 | zero =>
  intro k out hk
  rw [List.drop_eq_nil_of_le (by omega)]
  simp only [F63_L5]
  refine loopO_done ?_
  rw [F63_L5_step, T.run_test, if_neg (by rw [decide_eq_true_eq]; omega), T.run_ret]
  rfl
 | succ m ih =>
  intro k out hk
  have hlt : k < l.length := by omega
  have hs := hb l[k] (List.getElem_mem hlt)
  have w1 : w64 ((k : Int) + 1) = ((k + 1 : Nat) : Int) := by rw [w64_id (by omega) (by omega)]; omega
  have := ih (k + 1) (w64 (out * catV l[k])) (by omega)
  rw [List.drop_eq_getElem_cons hlt, List.foldl_cons]
  simp only [F63_L5] at this ⊢
  rw [← this]
  refine loopO_next ?_
  rw [F63_L5_step, T.run_test, if_pos (decide_eq_true (by omega)), T.run_test, if_pos (decide_eq_true (by omega)), T.run_sub, Nat.zero_add, Int.toNat_natCast, List.getElem?_eq_getElem hlt, Option.bind_some, T.run_sub, F84_eq _ hs.1 hs.2, Option.bind_some, T.run_test, if_pos (by simp), T.run_ret, w1]
def finV (n : Int) (ds : List Dg) : Int × Bool := if isCut n ds then ((szL n.toNat ds).foldl (fun o s => w64 (o * catV s)) 1, true) else (0, false)
theorem F63_eq (n : Int) (ds : List Dg) (hl : ds.length < 4611686018427387904) : F63 (n, ds) = some (finV n ds) := by
 rw [F63, F63_t, T.run_sub, F106_eq n ds hl, Option.bind_some, T.run_test, finV]
 cases h : isCut n ds with
 | false => rfl
 | true =>
  obtain ⟨N, rfl, h3, hN, hlen, hc⟩ := isCut_cut h
  have hsl := (sortI_perm (szL N ds)).length_eq
  have hL := F63_L5_eq (sortI (szL N ds)) (by rw [hsl, szL_len hc h3]; omega) (fun s hs => by have := szL_mem hc h3 ((sortI_perm _).mem_iff.1 hs); omega) (sortI (szL N ds)).length 0 1 (by omega)
  rw [Int.natCast_zero, List.drop_zero, foldl_mul_perm catV (sortI_perm (szL N ds))] at hL
  rw [if_neg (by simp), T.run_sub, F108_eq h3 hN hlen hc, Option.bind_some, T.run_test, if_pos (by simp), T.run_sub, hL, Option.bind_some, T.run_ret, Int.toNat_natCast]
  rfl
def F78_sh : FSh := ⟨[(.one (.si .i64)), (.one (.si .i64))], []⟩
def F78_L5_sh : LSh := ⟨(fun ex => match ex with | .norm => [(0, none), (1, none), (5, none), (6, none)] | .exit i => if i = 0 then [(5, none)] else [] | .ret => [(4, none)]), [(0, (.one (.si .i64))), (1, (.one (.si .i64))), (5, (.one (.si .i64))), (6, (.one (.si .i64)))], [], [⟨(.exit 0), [(5, (.one (.si .i64)))], []⟩], [], []⟩
noncomputable def F78_L5_step : (Int × Int × Int × Int) → T ((Int × Int × Int × Int) ⊕ Int) := fun (n, k, out, i) =>
 (.test (decide (i < k))
 (.test (decide ((w64 (i + 1)) ≠ 0))
 (.ret (Sum.inl (n, (k, ((w64 (Int.tdiv (w64 (out * (w64 (n - i)))) (w64 (i + 1)))), (w64 (i + 1)))))))
 .fail)
 (.ret (Sum.inr out)))
noncomputable def F78_L5 (v) := loopO (fun v => (F78_L5_step v).run) v
def F78_fo : List FO := [⟨[(.one (.si .i64))], []⟩]
noncomputable def F78_t : (Int × Int) → T Int := fun (n, k) =>
 (.test (decide (k < 0))
 (.ret (0 : Int))
 (.test (decide (k > n))
 (.ret (0 : Int))
 (.sub (F78_L5 (n, (k, ((1 : Int), (0 : Int))))) fun z0 =>
 (.ret z0))))
noncomputable def F78 (v) := (F78_t v).run
noncomputable def F78_E : TEnv := E0
theorem F78_Eok : (F78_E).OK := E0ok
noncomputable def F78_told : Nat → Option SealT := fun id => if id = 5 then some (LSh.told F78_L5_sh 0 (F78_L5_step)) else none
theorem F78_L5_ok : ToldOK Tryz.prog 0 (loopAt (bodyOf fn_F78) [0]) (LSh.told F78_L5_sh 0 (F78_L5_step)) :=
 loop_ok (E := F78_E) (F78_Eok) (told := F78_told) (l := F78_L5_sh) (step := F78_L5_step) (loopsOK_of (ls := []) (by kernel_rfl) trivial) (by kernel_rfl) (fun v => by kernel_rfl)
theorem F78_ok : FOK Tryz.prog n_F78 F78_sh F78_fo F78 :=
 fn_ok (E := F78_E) (F78_Eok) (told := F78_told) (fl := []) (c := bodyOf fn_F78) (s := F78_sh) (l := F78_fo) (tree := F78_t) fnat_F78 (by kernel_rfl) (by kernel_rfl) (by kernel_rfl) (loopsOK_of (ls := [loopAt (bodyOf fn_F78) [0]]) (by kernel_rfl) ⟨.inr ⟨_, by kernel_rfl, F78_L5_ok⟩, trivial⟩) (fun v => by kernel_rfl)
theorem F78_L5_eq (n k : Int) (hk : k ≤ 1000) : ∀ (m i : Nat) (out : Int), (i : Int) + (m : Int) = k → F78_L5 (n, (k, (out, (i : Int)))) = some (chA n m i out) := by
 intro m
 induction m with
 | zero =>
  intro i out h
  simp only [F78_L5]
  refine loopO_done ?_
  rw [F78_L5_step, T.run_test, if_neg (by rw [decide_eq_true_eq]; omega), T.run_ret]
  rfl
 | succ m ih =>
  intro i out h
  have w1 : w64 ((i : Int) + 1) = ((i + 1 : Nat) : Int) := by rw [w64_id (by omega) (by omega)]; omega
  have := ih (i + 1) (w64 (Int.tdiv (w64 (out * (w64 (n - (i : Int))))) ((i + 1 : Nat) : Int))) (by omega)
  simp only [F78_L5] at this ⊢
  rw [chA, ← this]
  refine loopO_next ?_
  rw [F78_L5_step, T.run_test, if_pos (decide_eq_true (by omega)), T.run_test, w1, if_pos (by exact decide_eq_true (by omega)), T.run_ret]
theorem F78_eq (s : Int) (h1 : 3 ≤ s) (h2 : s ≤ 12) : F78 (2 * (s - 2), s - 2) = some (chA (2 * s - 4) (s - 2).toNat 0 1) := by
 have hc := F78_L5_eq (2 * s - 4) (s - 2) (by omega) (s - 2).toNat 0 1 (by omega)
 rw [Int.natCast_zero] at hc
 rw [F78, F78_t, T.run_test, if_neg (by rw [decide_eq_true_eq]; omega), T.run_test, if_neg (by rw [decide_eq_true_eq]; omega), T.run_sub, show 2 * (s - 2) = 2 * s - 4 by omega, hc, Option.bind_some, T.run_ret]
def F64_sh : FSh := ⟨[(.one (.si .i64)), (.one (.sl (.pair (.int .i64) (.int .i64)) false false))], []⟩
def F64_L5_sh : LSh := ⟨(fun ex => match ex with | .norm => [(6, none), (16, none), (17, none), (18, none)] | .exit i => if i = 0 then [(6, none)] else [] | .ret => [(4, none), (5, none)]), [(6, (.one (.si .i64))), (16, (.one (.rw 0 0))), (17, (.one (.si .i64))), (18, (.one (.si .i64)))], [(.row 0 (.list true (.int .i64)))], [⟨(.exit 0), [(6, (.one (.si .i64)))], []⟩], [], []⟩
noncomputable def F64_L5_step : ((Int × Unit × Int × Int) × List (List (Int))) → T (((Int × Unit × Int × Int) × List (List (Int))) ⊕ Int) := fun ((out, (), t17, t18), t16) =>
 (.test (decide (t18 < t17))
 (.test (decide ((0 ≤ t18) ∧ (t18 < (t16.length : Int))))
 (.sub (t16[(0 + (Int.toNat t18))]?) fun z0 =>
 (.sub (F78 ((w64 (2 * (w64 ((z0.length : Int) - 2)))), (w64 ((z0.length : Int) - 2)))) fun z1 =>
 (.test (decide ((w64 ((w64 ((z0.length : Int) - 2)) + 1)) ≠ 0))
 (.test (decide ((0 = 0) ∧ (t16.length = t16.length)))
 (.ret (Sum.inl (((w64 (out * (w64 (Int.tdiv z1 (w64 ((w64 ((z0.length : Int) - 2)) + 1)))))), ((), (t17, (w64 (t18 + 1))))), t16)))
 .fail)
 .fail)))
 .fail)
 (.ret (Sum.inr out)))
noncomputable def F64_L5 (v) := loopO (fun v => (F64_L5_step v).run) v
def F64_fo : List FO := [⟨[(.one (.si .i64)), (.one .sb)], []⟩]
noncomputable def F64_t : (Int × List ((Int × Int))) → T (Int × Bool) := fun (n, ds) =>
 (.sub (F94 (n, ds)) fun z0 =>
 (.test (! z0)
 (.ret ((0 : Int), false))
 (.sub (F76 (n, ds)) fun z1 =>
 (.test (decide ((0 = 0) ∧ (z1.2.length = z1.2.length)))
 (.sub (F64_L5 (((1 : Int), ((), ((z1.2.length : Int), (0 : Int)))), z1.2)) fun z2 =>
 (.ret (z2, true)))
 .fail))))
noncomputable def F64 (v) := (F64_t v).run
noncomputable def F64_E : TEnv := (((E0.add1 n_F94 F94_sh F94_fo F94).add1 n_F76 F76_sh F76_fo F76).add1 n_F78 F78_sh F78_fo F78)
theorem F64_Eok : (F64_E).OK := (((E0ok.add1 F94_ok).add1 F76_ok).add1 F78_ok)
noncomputable def F64_told : Nat → Option SealT := fun id => if id = 5 then some (LSh.told F64_L5_sh 0 (F64_L5_step)) else none
theorem F64_L5_ok : ToldOK Tryz.prog 0 (loopAt (bodyOf fn_F64) [0]) (LSh.told F64_L5_sh 0 (F64_L5_step)) :=
 loop_ok (E := F64_E) (F64_Eok) (told := F64_told) (l := F64_L5_sh) (step := F64_L5_step) (loopsOK_of (ls := []) (by kernel_rfl) trivial) (by kernel_rfl) (fun v => by kernel_rfl)
theorem F64_ok : FOK Tryz.prog n_F64 F64_sh F64_fo F64 :=
 fn_ok (E := F64_E) (F64_Eok) (told := F64_told) (fl := []) (c := bodyOf fn_F64) (s := F64_sh) (l := F64_fo) (tree := F64_t) fnat_F64 (by kernel_rfl) (by kernel_rfl) (by kernel_rfl) (loopsOK_of (ls := [loopAt (bodyOf fn_F64) [0]]) (by kernel_rfl) ⟨.inr ⟨_, by kernel_rfl, F64_L5_ok⟩, trivial⟩) (fun v => by kernel_rfl)
theorem F64_L5_eq (t16 : List (List Int)) (hl : t16.length ≤ 100) (hb : ∀ p ∈ t16, 3 ≤ (p.length : Int) ∧ (p.length : Int) ≤ 12) : ∀ (m k : Nat) (out : Int), k + m = t16.length →
  F64_L5 ((out, ((), ((t16.length : Int), (k : Int)))), t16) = some (((t16.drop k).map fun p => (p.length : Int)).foldl (fun o s => w64 (o * catV s)) out) := by
 intro m
 induction m with
 | zero =>
  intro k out hk
  rw [List.drop_eq_nil_of_le (by omega)]
  simp only [F64_L5]
  refine loopO_done ?_
  rw [F64_L5_step, T.run_test, if_neg (by rw [decide_eq_true_eq]; omega), T.run_ret]
  rfl
 | succ m ih =>
  intro k out hk
  have hlt : k < t16.length := by omega
  have hs := hb t16[k] (List.getElem_mem hlt)
  have w1 : w64 ((k : Int) + 1) = ((k + 1 : Nat) : Int) := by rw [w64_id (by omega) (by omega)]; omega
  have e2 : w64 ((t16[k].length : Int) - 2) = (t16[k].length : Int) - 2 := w64_id (by omega) (by omega)
  have e3 : w64 (2 * ((t16[k].length : Int) - 2)) = 2 * ((t16[k].length : Int) - 2) := w64_id (by omega) (by omega)
  have e4 : w64 ((t16[k].length : Int) - 2 + 1) = (t16[k].length : Int) - 1 := by rw [w64_id (by omega) (by omega)]; omega
  have hch := F78_eq (t16[k].length : Int) hs.1 hs.2
  have := ih (k + 1) (w64 (out * catV (t16[k].length : Int))) (by omega)
  rw [List.drop_eq_getElem_cons hlt, List.map_cons, List.foldl_cons]
  simp only [F64_L5] at this ⊢
  rw [← this]
  refine loopO_next ?_
  rw [F64_L5_step, T.run_test, if_pos (decide_eq_true (by omega)), T.run_test, if_pos (decide_eq_true (by omega)), T.run_sub, Nat.zero_add, Int.toNat_natCast, List.getElem?_eq_getElem hlt, Option.bind_some, T.run_sub, e2, e3, hch, Option.bind_some, T.run_test, e4, if_pos (by exact decide_eq_true (by omega)), T.run_test, if_pos (by simp), T.run_ret, w1]
  rfl
theorem F64_eq (n : Int) (ds : List Dg) (hl : ds.length < 4611686018427387904) : F64 (n, ds) = some (finV n ds) := by
 rw [F64, F64_t, T.run_sub, F94_eq n ds hl, Option.bind_some, T.run_test, finV]
 cases h : isCut n ds with
 | false => rfl
 | true =>
  obtain ⟨N, rfl, h3, hN, hlen, hc⟩ := isCut_cut h
  have hsl := sortP_len hc h3
  have hL := F64_L5_eq (sortL (specP N ds)) (by omega) (fun p hp => by have := szL_mem hc h3 (s := (p.length : Int)) (List.mem_map_of_mem hp); omega) (sortL (specP N ds)).length 0 1 (by omega)
  rw [Int.natCast_zero, List.drop_zero] at hL
  change _ = some ((szL N ds).foldl _ _) at hL
  rw [if_neg (by simp), T.run_sub, F76_eq h3 hN (by omega) hc, Option.bind_some, T.run_test, if_pos (by simp), T.run_sub, hL, Option.bind_some, T.run_ret, Int.toNat_natCast]
  rfl
def F20_sh : FSh := ⟨[.one (.sl (.pair (.int .i64) (.int .i64)) false false)], []⟩
def F20_fo : List FO := [⟨[.one (.rw 0 0)], [.row 0 (.pair (.int .i64) (.int .i64))]⟩]
def F20 (v : List (Int × Int)) : Option (Unit × List (Int × Int)) := if v.length ≤ maxLen ∧ v.length * 16 ≤ 140737488355328 then some ((), v) else none
def F20_ren : Shelf.Ren := ⟨fun _ => n_F20, fun t => if t = 4 then 4 else if t = 22 then 32 else 52, fun x => x⟩
theorem F20_lay : SlLaysE0.n41 Tryz.prog F20_ren :=
 { mixed := by kernel_rfl, f41 := ⟨"slices.Clone[[]loop.example/g01236/impl.Diagonal,loop.example/g01236/impl.Diagonal]", by kernel_rfl, by kernel_rfl⟩, t4 := by kernel_rfl, a4 := fun w => by kernel_rfl, z4 := fun w => by kernel_rfl, v4 := fun w => by kernel_rfl, t22 := by kernel_rfl, a22 := fun w => by kernel_rfl, z22 := fun w => by kernel_rfl, v22 := fun w => by kernel_rfl }
noncomputable def F20_info : TypeInfo := (Tryz.prog.info? 52).get (by kernel_rfl)
theorem F20_ok : FOK Tryz.prog n_F20 F20_sh F20_fo F20 :=
 clone_ok (e := (.pair (.int .i64) (.int .i64))) ⟨_, fnat_F20, by kernel_rfl, by kernel_rfl⟩ (ρr := F20_ren) rfl F20_lay rfl F20_info (.agg #[.int .i64 0, .int .i64 0]) 16 (by kernel_rfl) (by kernel_rfl) (by kernel_rfl) (by kernel_rfl) (by decide) (by decide) (fun w => by kernel_rfl)
end Go.Proofs.W
