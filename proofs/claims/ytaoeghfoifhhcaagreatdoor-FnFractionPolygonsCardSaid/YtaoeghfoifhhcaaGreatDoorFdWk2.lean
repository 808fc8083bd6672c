/- Functions of the program, walked, and what they compute. -/
import Derived.Test.YtaoeghfoifhhcaaGreatDoorFdWk1
set_option linter.unusedVariables false
set_option linter.unusedSimpArgs false
set_option maxRecDepth 100000
set_option maxHeartbeats 4000000
namespace Go.Proofs.W
open Go Go.Gm Go.Proofs
open Go.RowKit Go.Shelf
def F27_sh : FSh := ⟨[(.one (.si .i64)), (.one (.sl (.pair (.int .i64) (.int .i64)) false false))], []⟩

def F27_L4_sh : LSh := ⟨(fun ex => match ex with | .norm => [(0, none), (1, none), (17, none), (18, none), (19, none)] | .exit i => if i = 0 then [] else [] | .ret => [(4, none)]), [(0, (.one (.si .i64))), (1, (.one (.sl (.pair (.int .i64) (.int .i64)) false false))), (17, (.one (.sl (.pair (.int .i64) (.int .i64)) false false))), (18, (.one (.si .i64))), (19, (.one (.si .i64)))], [], [⟨.ret, [(4, (.one .sb))], []⟩, ⟨(.exit 0), [], []⟩], [], []⟩
noncomputable def F27_L4_step : (Int × List ((Int × Int)) × List ((Int × Int)) × Int × Int) → T ((Int × List ((Int × Int)) × List ((Int × Int)) × Int × Int) ⊕ (Bool ⊕ Unit)) := fun (n, ds, t17, t18, t19) =>
 (.test (decide (t19 < t18))
 (.test (decide ((0 ≤ t19) ∧ (t19 < ((List.length t17) : Int))))
 (.sub (t17[(Int.toNat t19)]?) fun z0 =>
 (.sub (F51 (n, (z0.1, z0.2))) fun z1 =>
 (.test (! z1)
 (.ret (Sum.inr (Sum.inl false)))
 (.test (decide (t19 > 0))
 (.test (decide ((0 ≤ (w64 (t19 - 1))) ∧ ((w64 (t19 - 1)) < ((List.length ds) : Int))))
 (.sub (ds[(Int.toNat (w64 (t19 - 1)))]?) fun z2 =>
 (.sub (F22 ((z2.1, z2.2), (z0.1, z0.2))) fun z3 =>
 (.test (decide (z3 ≥ 0))
 (.ret (Sum.inr (Sum.inl false)))
 (.test (decide (0 ≤ t19))
 (.test (decide ((0 ≤ (Int.toNat t19)) ∧ ((Int.toNat t19) ≤ (List.length ds))))
 (.sub (F2 (((win ds 0 ((Int.toNat t19) - 0)), ()), (z0.1, z0.2))) fun z4 =>
 (.test z4.1
 (.ret (Sum.inr (Sum.inl false)))
 (.ret (Sum.inl (n, (ds, (t17, (t18, (w64 (t19 + 1))))))))))
 .fail)
 .fail))))
 .fail)
 (.test (decide (0 ≤ t19))
 (.test (decide ((0 ≤ (Int.toNat t19)) ∧ ((Int.toNat t19) ≤ (List.length ds))))
 (.sub (F2 (((win ds 0 ((Int.toNat t19) - 0)), ()), (z0.1, z0.2))) fun z5 =>
 (.test z5.1
 (.ret (Sum.inr (Sum.inl false)))
 (.ret (Sum.inl (n, (ds, (t17, (t18, (w64 (t19 + 1))))))))))
 .fail)
 .fail)))))
 .fail)
 (.ret (Sum.inr (Sum.inr ()))))
noncomputable def F27_L4 (v : (Int × List ((Int × Int)) × List ((Int × Int)) × Int × Int)) : Option (Bool ⊕ Unit) := loopO (fun v => (F27_L4_step v).run) v

def F27_fo : List FO := [⟨[(.one .sb)], []⟩]
noncomputable def F27_t : (Int × List ((Int × Int))) → T Bool := fun (n, ds) =>
 (.sub (F59 n) fun z0 =>
 (.test (! z0)
 (.ret false)
 (.test (((List.length ds) : Int) != (w64 (n - 3)))
 (.ret false)
 (.sub (F27_L4 (n, (ds, (ds, (((List.length ds) : Int), (0 : Int)))))) fun z1 =>
 (.test (Sum.isLeft z1)
 (.sub (Sum.getLeft? z1) fun z2 =>
 (.ret z2))
 (.sub (Sum.getRight? z1) fun z3 =>
 (.ret true)))))))
noncomputable def F27 (v : (Int × List ((Int × Int)))) : Option Bool := (F27_t v).run
noncomputable def F27_E : TEnv := ((((E0.add1 n_F59 F59_sh F59_fo F59).add1 n_F51 F51_sh F51_fo F51).add1 n_F22 F22_sh F22_fo F22).add1 n_F10 F2_sh F2_fo F2)
theorem F27_Eok : (F27_E).OK := ((((E0ok.add1 F59_ok).add1 F51_ok).add1 F22_ok).add1 F2_ok)
noncomputable def F27_told : Nat → Option SealT := fun id => if id = 4 then some (LSh.told F27_L4_sh 0 (F27_L4_step)) else none
theorem F27_L4_ok : ToldOK Tryz.prog 0 (loopAt (bodyOf fn_F27) [0]) (LSh.told F27_L4_sh 0 (F27_L4_step)) :=
  loop_ok (E := F27_E) (F27_Eok) (told := F27_told) (l := F27_L4_sh) (step := F27_L4_step) (loopsOK_of (ls := []) (by kernel_rfl) trivial) (by kernel_rfl) (fun v => by kernel_rfl)
theorem F27_ok : FOK Tryz.prog n_F27 F27_sh F27_fo F27 :=
  fn_ok (E := F27_E) (F27_Eok) (told := F27_told) (fl := []) (c := bodyOf fn_F27) (s := F27_sh) (l := F27_fo) (tree := F27_t) fnat_F27 (by kernel_rfl) (by kernel_rfl) (by kernel_rfl) (loopsOK_of (ls := [loopAt (bodyOf fn_F27) [0]]) (by kernel_rfl) ⟨.inr ⟨_, by kernel_rfl, F27_L4_ok⟩, trivial⟩) (fun v => by kernel_rfl)

theorem F27_eq (n : Int) (ds : List Dg) (hl : ds.length < 4611686018427387904) : F27 (n, ds) = some (isTri n ds) := by
  simp only [F27, F27_t, T.run, F59, F59_t, F80_eq, Option.bind_some, isTri]
  cases hn : inB 3 12 n with
  | false => simp
  | true =>
    rw [inB_iff] at hn
    rw [w64_id (z := n - 3) (by omega) (by omega)]
    by_cases he : (ds.length : Int) = n - 3
    · have h := loop_any (step := fun v => (F27_L4_step v).run) (xs := List.range ds.length) (badT n ds) (fun k => (n, (ds, (ds, ((ds.length : Int), (k : Int)))))) (.inl false) (.inr ())
        (fun k x hx => by
          obtain ⟨hk, e⟩ := List.getElem?_eq_some_iff.1 hx
          simp only [List.getElem_range] at e
          subst e
          rw [List.length_range] at hk
          have g0 := gD_some hk
          have c0 : (k : Int) < (ds.length : Int) := by omega
          have c1 : (0 : Int) ≤ (k : Int) ∧ (k : Int) < (ds.length : Int) := by omega
          have w1 : w64 ((k : Int) + 1) = ((k + 1 : Nat) : Int) := by rw [w64_id (by omega) (by omega)]; omega
          have c2 : 0 ≤ k ∧ k ≤ ds.length := by omega
          have c3 : (0 : Int) ≤ (k : Int) := by omega
          have tw : win ds 0 (k - 0) = ds.take k := win_take _ _
          have hlt : (ds.take k).length < 4611686018427387904 := by simp; omega
          simp only [F27_L4_step, T.run, c0, c1, c2, c3, decide_true, if_true, and_self, Int.toNat_natCast, g0, Option.bind_some, F51_eq n (gD ds k) (by omega) (by omega), tw, F2_eq _ (gD ds k) hlt, w1, badT]
          rcases Bool.eq_false_or_eq_true (inDg n (gD ds k)) with hd | hd
          rotate_left
          · simp [hd]
          · simp only [hd]
            by_cases hk0 : 0 < k
            · have w2 : w64 ((k : Int) - 1) = ((k - 1 : Nat) : Int) := by rw [w64_id (by omega) (by omega)]; omega
              have c4 : (0 : Int) ≤ ((k - 1 : Nat) : Int) ∧ ((k - 1 : Nat) : Int) < (ds.length : Int) := by omega
              have g1 := gD_some (show k - 1 < ds.length by omega)
              have c5 : (k : Int) > 0 := by omega
              simp only [w2, c4, c5, decide_true, if_true, and_self, Int.toNat_natCast, g1, Option.bind_some, F22_eq, cmpD_ge, hk0]
              cases ltD (gD ds (k - 1)) (gD ds k) <;> simp
              cases (ds.take k).any (crossD (gD ds k)) <;> simp
            · have c5 : ¬ (k : Int) > 0 := by omega
              simp only [c5, decide_false, hk0, if_false]
              cases (ds.take k).any (crossD (gD ds k)) <;> simp)
        (by simp [F27_L4_step, T.run])
      rw [show ((0 : Nat) : Int) = 0 from rfl] at h
      have he' : ((ds.length : Int) != n - 3) = false := by simp [he]
      simp only [F27_L4, h, he', decide_eq_true he]
      cases (List.range ds.length).any (badT n ds) <;> simp
    · simp [he]


def F46_sh : FSh := ⟨[.one (.si .u64), .one (.si .u64)], []⟩
def F46_fo : List FO := [⟨[.one (.si .u64), .one (.si .u64)], []⟩]
def F46 (v : Int × Int) : Option (Int × Int) := if 0 ≤ v.1 ∧ v.1 < 18446744073709551616 ∧ 0 ≤ v.2 ∧ v.2 < 18446744073709551616 then some (((v.1.toNat * v.2.toNat / 18446744073709551616 : Nat) : Int), ((v.1.toNat * v.2.toNat % 18446744073709551616 : Nat) : Int)) else none
def F46_ren : Shelf.Ren := ⟨fun k => if k = 212 then n_F46 else if k = 263 then 182 else 183, fun t => if t = 46 then 129 else if t = 51 then 153 else if t = 146 then 154 else if t = 148 then 156 else 89, fun x => x⟩
theorem F46_lay : Lays.n212 Tryz.prog F46_ren :=
  { mixed := by kernel_rfl, f212 := by kernel_rfl, f263 := by kernel_rfl, f264 := by kernel_rfl, t46 := by kernel_rfl, a46 := fun w => by kernel_rfl, z46 := fun w => by kernel_rfl, v46 := fun w => by kernel_rfl, t51 := by kernel_rfl, a51 := fun w => by kernel_rfl, z51 := fun w => by kernel_rfl, v51 := fun w => by kernel_rfl, t53 := by kernel_rfl, a53 := fun w => by kernel_rfl, z53 := fun w => by kernel_rfl, v53 := fun w => by kernel_rfl, t146 := by kernel_rfl, a146 := fun w => by kernel_rfl, z146 := fun w => by kernel_rfl, v146 := fun w => by kernel_rfl, t148 := by kernel_rfl, a148 := fun w => by kernel_rfl, z148 := fun w => by kernel_rfl, v148 := fun w => by kernel_rfl }
theorem F46_ok : FOK Tryz.prog n_F46 F46_sh F46_fo F46 :=
  bitsMul_ok ⟨_, fnat_F46, by kernel_rfl, by kernel_rfl⟩ (ρr := F46_ren) rfl F46_lay

def F28_sh : FSh := ⟨[(.one (.sl (.int .i64) false false)), (.one (.si .i64))], []⟩

def F28_L8_sh : LSh := ⟨(fun ex => match ex with | .norm => [(7, none), (8, none)] | .exit i => if i = 0 then [(7, none)] else [] | .ret => [(4, none)]), [(7, (.one (.rw 0 0))), (8, (.one (.si .i64)))], [(.row 0 (.int .i64))], [⟨(.exit 0), [(7, (.one (.rw 0 0)))], [(.row 0 (.int .i64))]⟩], [], []⟩
noncomputable def F28_L8_step : ((Unit × Int) × List (Int)) → T (((Unit × Int) × List (Int)) ⊕ (Unit × List (Int))) := fun (((), n), newslice) =>
 (.test (decide (n < ((List.length newslice) : Int)))
 (.test (decide (0 ≤ n))
 (.test (decide (((Int.toNat n) ≤ (List.length newslice)) ∧ ((List.length newslice) ≤ (List.length newslice))))
 (.test (decide (0 ≤ n))
 (.test (decide ((0 ≤ (Int.toNat n)) ∧ ((Int.toNat n) ≤ (List.length newslice))))
 (.test (decide ((0 + ((Int.toNat n) - 0)) ≤ (List.length newslice)))
 (.test (decide ((0 < (min (List.length (win newslice 0 ((Int.toNat n) - 0))) ((List.length newslice) - (Int.toNat n)))) ∧ (((0 + (Int.toNat n)) + ((List.length newslice) - (Int.toNat n))) ≤ (List.length newslice))))
 (.test (decide ((0 = 0) ∧ ((List.length newslice) = (List.length (spliceT newslice (0 + (Int.toNat n)) (List.take (min (List.length (win newslice 0 ((Int.toNat n) - 0))) ((List.length newslice) - (Int.toNat n))) (win newslice 0 ((Int.toNat n) - 0))))))))
 (.ret (Sum.inl (((), (w64 (n + (((min (List.length (win newslice 0 ((Int.toNat n) - 0))) ((List.length newslice) - (Int.toNat n))) : Nat) : Int)))), (spliceT newslice (0 + (Int.toNat n)) (List.take (min (List.length (win newslice 0 ((Int.toNat n) - 0))) ((List.length newslice) - (Int.toNat n))) (win newslice 0 ((Int.toNat n) - 0)))))))
 .fail)
 .fail)
 .fail)
 .fail)
 .fail)
 .fail)
 .fail)
 (.test (decide ((0 = 0) ∧ ((List.length newslice) = (List.length newslice))))
 (.ret (Sum.inr ((), newslice)))
 .fail))
noncomputable def F28_L8 (v : ((Unit × Int) × List (Int))) : Option (Unit × List (Int)) := loopO (fun v => (F28_L8_step v).run) v

def F28_fo : List FO := [⟨[(.one (.rw 0 0))], [(.row 0 (.int .i64))]⟩]
noncomputable def F28_t : (List (Int) × Int) → T (Unit × List (Int)) := fun (x, count) =>
 (.test (decide (count < 0))
 .fail
 (.sub (F46 ((wu64 ((List.length x) : Int)), (wu64 count))) fun z0 =>
 (.test (decide (z0.1 > 0))
 .fail
 (.test (decide (z0.2 > 9223372036854775807))
 .fail
 (.test (decide ((0 ≤ (w64 z0.2)) ∧ (((w64 z0.2) ≤ (w64 z0.2)) ∧ (((Int.toNat (w64 z0.2)) * 9) ≤ 140737488355328))))
 (.test (decide ((0 < (min (List.length x) (Int.toNat (w64 z0.2)))) ∧ ((0 + (Int.toNat (w64 z0.2))) ≤ (List.length (List.replicate (Int.toNat (w64 z0.2)) (0 : Int))))))
 (.test (decide ((0 = 0) ∧ ((Int.toNat (w64 z0.2)) = (List.length (spliceT (List.replicate (Int.toNat (w64 z0.2)) (0 : Int)) 0 (List.take (min (List.length x) (Int.toNat (w64 z0.2))) x))))))
 (.sub (F28_L8 (((), (((min (List.length x) (Int.toNat (w64 z0.2))) : Nat) : Int)), (spliceT (List.replicate (Int.toNat (w64 z0.2)) (0 : Int)) 0 (List.take (min (List.length x) (Int.toNat (w64 z0.2))) x)))) fun z1 =>
 (.test (decide ((0 = 0) ∧ ((List.length z1.2) = (List.length z1.2))))
 (.ret ((), z1.2))
 .fail))
 .fail)
 .fail)
 .fail)))))
noncomputable def F28 (v : (List (Int) × Int)) : Option (Unit × List (Int)) := (F28_t v).run
noncomputable def F28_E : TEnv := (E0.add1 n_F46 F46_sh F46_fo F46)
theorem F28_Eok : (F28_E).OK := (E0ok.add1 F46_ok)
noncomputable def F28_told : Nat → Option SealT := fun id => if id = 8 then some (LSh.told F28_L8_sh 0 (F28_L8_step)) else none
theorem F28_L8_ok : ToldOK Tryz.prog 0 (loopAt (bodyOf fn_F28) [0]) (LSh.told F28_L8_sh 0 (F28_L8_step)) :=
  loop_ok (E := F28_E) (F28_Eok) (told := F28_told) (l := F28_L8_sh) (step := F28_L8_step) (loopsOK_of (ls := []) (by kernel_rfl) trivial) (by kernel_rfl) (fun v => by kernel_rfl)
theorem F28_ok : FOK Tryz.prog n_F28 F28_sh F28_fo F28 :=
  fn_ok (E := F28_E) (F28_Eok) (told := F28_told) (fl := []) (c := bodyOf fn_F28) (s := F28_sh) (l := F28_fo) (tree := F28_t) fnat_F28 (by kernel_rfl) (by kernel_rfl) (by kernel_rfl) (loopsOK_of (ls := [loopAt (bodyOf fn_F28) [0]]) (by kernel_rfl) ⟨.inr ⟨_, by kernel_rfl, F28_L8_ok⟩, trivial⟩) (fun v => by kernel_rfl)

theorem F28_one (n : Nat) (h1 : 1 ≤ n) (h2 : n ≤ 1000000) : F28 ([1], (n : Int)) = some ((), List.replicate n 1) := by
  have hm : F46 (wu64 (([1] : List Int).length : Int), wu64 (n : Int)) = some (0, (n : Int)) := by
    have e1 : wu64 (([1] : List Int).length : Int) = 1 := IntWalk.u64_in _ ⟨by simp, by simp⟩
    have e2 : wu64 (n : Int) = (n : Int) := IntWalk.u64_in _ ⟨by omega, by omega⟩
    rw [e1, e2]
    unfold F46
    simp only []
    rw [if_pos ⟨by omega, by omega, by omega, by omega⟩]
    have t1 : (1 : Int).toNat = 1 := rfl
    rw [t1, Int.toNat_natCast, Nat.one_mul, Nat.div_eq_of_lt (by omega), Nat.mod_eq_of_lt (by omega)]
    rfl
  have hl : ∀ m k, k + m = n → 1 ≤ k → F28_L8 (((), (k : Int)), List.replicate k 1 ++ List.replicate (n - k) 0) = some ((), List.replicate n 1) := by
    intro m
    induction m using Nat.strongRecOn with
    | ind m ih =>
      intro k hk hk1
      have hlen : (List.replicate k (1 : Int) ++ List.replicate (n - k) 0).length = n := by simp; omega
      by_cases hm : m = 0
      · have : k = n := by omega
        subst this
        rw [Nat.sub_self, List.replicate_zero, List.append_nil]
        simp only [F28_L8]
        exact loopO_done (by simp [F28_L8_step, T.run])
      · have ih := ih (m - min k (n - k)) (by omega) (k + min k (n - k)) (by omega) (by omega)
        simp only [F28_L8] at ih ⊢
        rw [← ih]
        refine loopO_next ?_
        have c0 : (k : Int) < (n : Int) := by omega
        have c1 : (0 : Int) ≤ (k : Int) := by omega
        have c2 : k ≤ n ∧ n ≤ n := by omega
        have c3 : 0 ≤ k ∧ k ≤ n := by omega
        have tw : win (List.replicate k (1 : Int) ++ List.replicate (n - k) 0) 0 (k - 0) = List.replicate k 1 := by
          rw [win_take, Nat.sub_zero, List.take_left' (by simp)]
        have c4 : 0 + (k - 0) ≤ n := by omega
        have c5 : 0 < min k (n - k) ∧ 0 + k + (n - k) ≤ n := by omega
        have w1 : w64 ((k : Int) + ((min k (n - k) : Nat) : Int)) = ((k + min k (n - k) : Nat) : Int) := by rw [w64_id (by omega) (by omega)]; omega
        have sp : spliceT (List.replicate k (1 : Int) ++ List.replicate (n - k) 0) (0 + k) (List.take (min k (n - k)) (List.replicate k 1)) = List.replicate (k + min k (n - k)) 1 ++ List.replicate (n - (k + min k (n - k))) 0 := by
          unfold spliceT
          rw [Nat.zero_add, List.take_left' (by simp), List.take_replicate, List.length_replicate, List.drop_append, List.drop_replicate, List.drop_replicate, List.length_replicate]
          rw [show k - (k + min (min k (n - k)) k) = 0 by omega, show min (min k (n - k)) k = min k (n - k) by omega, show n - k - (k + min k (n - k) - k) = n - (k + min k (n - k)) by omega, List.replicate_zero, List.nil_append, ← List.append_assoc, List.replicate_append_replicate]
        have lsp : n = (List.replicate (k + min k (n - k)) (1 : Int) ++ List.replicate (n - (k + min k (n - k))) 0).length := by simp; omega
        simp only [F28_L8_step, T.run, hlen, c0, c1, c2, c3, c4, c5, decide_true, if_true, and_self, Int.toNat_natCast, tw, List.length_replicate, sp, w1]
        rw [← lsp]
        simp
  simp only [F28, F28_t, T.run, hm, Option.bind_some]
  have w1 : w64 (n : Int) = (n : Int) := w64_id (by omega) (by omega)
  have c0 : ¬ ((n : Int) < 0) := by omega
  have c1 : ¬ ((n : Int) > 9223372036854775807) := by omega
  have c2 : 0 ≤ (n : Int) ∧ (n : Int) ≤ (n : Int) ∧ n * 9 ≤ 140737488355328 := by omega
  have m1 : min ([1] : List Int).length n = 1 := by simp; omega
  have sp : spliceT (List.replicate n (0 : Int)) 0 (List.take 1 [1]) = List.replicate 1 1 ++ List.replicate (n - 1) 0 := by
    unfold spliceT
    simp
  have lsp : n = (List.replicate 1 (1 : Int) ++ List.replicate (n - 1) 0).length := by simp; omega
  simp only [c0, c1, w1, decide_false, Bool.false_eq_true, if_false, Int.toNat_natCast, c2, and_self, decide_true, if_true, m1, sp, hl (n - 1) 1 (by omega) (Nat.le_refl 1), Option.bind_some]
  simp only [List.length_replicate, Nat.zero_add]
  rw [← lsp]
  simp


def F67_sh : FSh := ⟨[(.one (.si .i64)), (.one (.sl (.pair (.int .i64) (.int .i64)) false false))], []⟩

def F67_L3_sh : LSh := ⟨(fun ex => match ex with | .norm => [(5, none), (11, none), (12, none), (13, none)] | .exit i => if i = 0 then [(5, none)] else [] | .ret => [(4, none)]), [(5, (.one (.rw 0 0))), (11, (.one (.sl (.pair (.int .i64) (.int .i64)) false false))), (12, (.one (.si .i64))), (13, (.one (.si .i64)))], [(.row 0 (.int .i64))], [⟨(.exit 0), [(5, (.one (.rw 0 0)))], [(.row 0 (.int .i64))]⟩], [], []⟩
noncomputable def F67_L3_step : ((Unit × List ((Int × Int)) × Int × Int) × List (Int)) → T (((Unit × List ((Int × Int)) × Int × Int) × List (Int)) ⊕ (Unit × List (Int))) := fun (((), t11, t12, t13), out) =>
 (.test (decide (t13 < t12))
 (.test (decide ((0 ≤ t13) ∧ (t13 < ((List.length t11) : Int))))
 (.sub (t11[(Int.toNat t13)]?) fun z0 =>
 (.test (decide ((0 ≤ z0.1) ∧ (z0.1 < ((List.length out) : Int))))
 (.sub (out[(0 + (Int.toNat z0.1))]?) fun z1 =>
 (.test (decide ((0 ≤ z0.1) ∧ (z0.1 < ((List.length out) : Int))))
 (.sub (out[(0 + (Int.toNat z0.1))]?) fun z2 =>
 (.test (decide ((0 ≤ z0.2) ∧ (z0.2 < ((List.length out) : Int))))
 (.sub ((List.set out (0 + (Int.toNat z0.1)) (w64 (z1 + 1)))[(0 + (Int.toNat z0.2))]?) fun z3 =>
 (.test (decide ((0 ≤ z0.2) ∧ (z0.2 < ((List.length out) : Int))))
 (.sub ((List.set out (0 + (Int.toNat z0.1)) (w64 (z1 + 1)))[(0 + (Int.toNat z0.2))]?) fun z4 =>
 (.test (decide ((0 = 0) ∧ ((List.length out) = (List.length (List.set (List.set out (0 + (Int.toNat z0.1)) (w64 (z1 + 1))) (0 + (Int.toNat z0.2)) (w64 (z3 + 1)))))))
 (.ret (Sum.inl (((), (t11, (t12, (w64 (t13 + 1))))), (List.set (List.set out (0 + (Int.toNat z0.1)) (w64 (z1 + 1))) (0 + (Int.toNat z0.2)) (w64 (z3 + 1))))))
 .fail))
 .fail))
 .fail))
 .fail))
 .fail))
 .fail)
 (.test (decide ((0 = 0) ∧ ((List.length out) = (List.length out))))
 (.ret (Sum.inr ((), out)))
 .fail))
noncomputable def F67_L3 (v : ((Unit × List ((Int × Int)) × Int × Int) × List (Int))) : Option (Unit × List (Int)) := loopO (fun v => (F67_L3_step v).run) v

def F67_fo : List FO := [⟨[(.one (.rw 0 0))], [(.row 0 (.int .i64))]⟩]
noncomputable def F67_t : (Int × List ((Int × Int))) → T (Unit × List (Int)) := fun (n, ds) =>
 (.test true
 (.sub (F28 ((win (List.set (List.replicate 1 (0 : Int)) 0 (1 : Int)) 0 1), n)) fun z0 =>
 (.test (decide ((0 = 0) ∧ ((List.length z0.2) = (List.length z0.2))))
 (.sub (F67_L3 (((), (ds, (((List.length ds) : Int), (0 : Int)))), z0.2)) fun z1 =>
 (.test (decide ((0 = 0) ∧ ((List.length z1.2) = (List.length z1.2))))
 (.ret ((), z1.2))
 .fail))
 .fail))
 .fail)
noncomputable def F67 (v : (Int × List ((Int × Int)))) : Option (Unit × List (Int)) := (F67_t v).run
noncomputable def F67_E : TEnv := (E0.add1 n_F28 F28_sh F28_fo F28)
theorem F67_Eok : (F67_E).OK := (E0ok.add1 F28_ok)
noncomputable def F67_told : Nat → Option SealT := fun id => if id = 3 then some (LSh.told F67_L3_sh 0 (F67_L3_step)) else none
theorem F67_L3_ok : ToldOK Tryz.prog 0 (loopAt (bodyOf fn_F67) [0]) (LSh.told F67_L3_sh 0 (F67_L3_step)) :=
  loop_ok (E := F67_E) (F67_Eok) (told := F67_told) (l := F67_L3_sh) (step := F67_L3_step) (loopsOK_of (ls := []) (by kernel_rfl) trivial) (by kernel_rfl) (fun v => by kernel_rfl)
theorem F67_ok : FOK Tryz.prog n_F67 F67_sh F67_fo F67 :=
  fn_ok (E := F67_E) (F67_Eok) (told := F67_told) (fl := []) (c := bodyOf fn_F67) (s := F67_sh) (l := F67_fo) (tree := F67_t) fnat_F67 (by kernel_rfl) (by kernel_rfl) (by kernel_rfl) (loopsOK_of (ls := [loopAt (bodyOf fn_F67) [0]]) (by kernel_rfl) ⟨.inr ⟨_, by kernel_rfl, F67_L3_ok⟩, trivial⟩) (fun v => by kernel_rfl)

theorem F67_eq (n : Nat) (ds : List Dg) (hn : 1 ≤ n ∧ n ≤ 1000000) (hl : ds.length < 1000000) (h : ∀ d ∈ ds, 0 ≤ d.1 ∧ d.1 < d.2 ∧ d.2 < (n : Int)) : F67 ((n : Int), ds) = some ((), quid n ds) := by
  have hl' := loop_fold (step := fun v => (F67_L3_step v).run) (xs := ds) (fun k (s : List Int) => s.length = n ∧ ∀ p, p < n → 0 ≤ s.getD p 0 ∧ s.getD p 0 ≤ k + 1) (fun k s => (((), (ds, ((ds.length : Int), (k : Int)))), s)) bumpD (fun s => ((), s))
    (fun k s d hP hd => by
      obtain ⟨hs, hb⟩ := hP
      have hlt := getElem?_lt hd
      obtain ⟨q1, q2, q3⟩ := h d (List.mem_of_getElem? hd)
      refine ⟨?_, by rw [bumpD_length, hs], fun p hp => ?_⟩
      · have c0 : (k : Int) < (ds.length : Int) := by omega
        have c1 : (0 : Int) ≤ (k : Int) ∧ (k : Int) < (ds.length : Int) := by omega
        have w1 : w64 ((k : Int) + 1) = ((k + 1 : Nat) : Int) := by rw [w64_id (by omega) (by omega)]; omega
        have c2 : 0 ≤ d.1 ∧ d.1 < (s.length : Int) := by omega
        have c3 : 0 ≤ d.2 ∧ d.2 < (s.length : Int) := by omega
        have b1 := hb d.1.toNat (by omega)
        have b2 := hb d.2.toNat (by omega)
        have g1 : s[d.1.toNat]? = some (s.getD d.1.toNat 0) := by rw [List.getD_eq_getElem?_getD, List.getElem?_eq_getElem (by omega)]; rfl
        have g2 : s[d.2.toNat]? = some (s.getD d.2.toNat 0) := by rw [List.getD_eq_getElem?_getD, List.getElem?_eq_getElem (by omega)]; rfl
        have w2 : w64 (s.getD d.1.toNat 0 + 1) = s.getD d.1.toNat 0 + 1 := w64_id (by omega) (by omega)
        have w3 : w64 (s.getD d.2.toNat 0 + 1) = s.getD d.2.toNat 0 + 1 := w64_id (by omega) (by omega)
        have g3 : (s.set d.1.toNat (s.getD d.1.toNat 0 + 1))[d.2.toNat]? = some (s.getD d.2.toNat 0) := by rw [List.getElem?_set_ne (by omega)]; exact g2
        simp only [F67_L3_step, T.run, c0, c1, c2, c3, decide_true, if_true, and_self, Int.toNat_natCast, hd, Option.bind_some, Nat.zero_add, g1, w2, g3, w3, w1]
        simp [bumpD]
      · rw [bumpD_get q1 q2 (by omega) (by omega)]
        have := hb p hp
        have : 0 ≤ cntD d p ∧ cntD d p ≤ 1 := by unfold cntD; split <;> split <;> omega
        omega)
    (fun s hs => by simp [F67_L3_step, T.run])
    (List.replicate n 1) ⟨by simp, fun p hp => by rw [List.getD_eq_getElem?_getD, List.getElem?_replicate, if_pos hp]; simp⟩
  have hq : ds.foldl bumpD (List.replicate n 1) = quid n ds := by
    obtain ⟨f1, f2⟩ := bump_fold n ds (List.replicate n 1) (by simp) h
    refine List.ext_getElem (by rw [f1]; simp [quid]) fun p hp _ => ?_
    have := f2 p (by omega)
    rw [List.getD_eq_getElem?_getD, List.getElem?_eq_getElem hp, List.getD_eq_getElem?_getD, List.getElem?_replicate, if_pos (by omega)] at this
    simp only [Option.getD_some] at this
    rw [this]
    simp [quid]
  simp only [Int.natCast_zero] at hl'
  have hw : win (List.set (List.replicate 1 (0 : Int)) 0 (1 : Int)) 0 1 = [1] := rfl
  simp only [F67, F67_t, T.run, hw, F28_one n hn.1 hn.2, Option.bind_some, F67_L3]
  rw [hl'.1, hq]
  simp


def F39_sh : FSh := ⟨[(.one (.sl (.int .i64) false false))], []⟩

def F39_L5_sh : LSh := ⟨(fun ex => match ex with | .norm => [(0, none), (4, none), (5, none), (6, none), (24, none), (25, none)] | .exit i => if i = 0 then [(0, none), (4, none), (5, none), (6, none)] else [] | .ret => [(2, none), (3, none)]), [(0, (.one (.sl (.int .i64) false false))), (4, (.one (.rw 0 0))), (5, (.one (.rw 1 0))), (6, (.one (.rw 2 0))), (24, (.one (.si .i64))), (25, (.one (.si .i64)))], [(.row 0 (.int .i64)), (.row 0 (.int .i64)), (.row 0 (.pair (.int .i64) (.int .i64)))], [⟨(.exit 0), [(0, (.one (.sl (.int .i64) false false))), (4, (.one (.rw 0 0))), (5, (.one (.rw 1 0))), (6, (.one (.rw 2 0)))], [(.row 0 (.int .i64)), (.row 0 (.int .i64)), (.row 0 (.pair (.int .i64) (.int .i64)))]⟩], [], []⟩
noncomputable def F39_L5_step : ((List (Int) × Unit × Unit × Unit × Int × Int) × (List (Int) × List (Int) × List ((Int × Int)))) → T (((List (Int) × Unit × Unit × Unit × Int × Int) × (List (Int) × List (Int) × List ((Int × Int)))) ⊕ ((List (Int) × Unit × Unit × Unit) × (List (Int) × List (Int) × List ((Int × Int))))) := fun ((list, (), (), (), t24, t25), (left, names, out)) =>
 (.test (decide (t25 < t24))
 (.test (decide (1 ≤ (List.length (List.set (List.replicate 1 (0 : Int)) 0 t25))))
 (.test (decide ((0 + (List.length names)) ≤ (List.length names)))
 (.test (decide ((2 * (((List.length names) + (List.length (win (List.set (List.replicate 1 (0 : Int)) 0 t25) 0 1))) * 9)) ≤ 140737488355328))
 (.test (decide ((0 = 0) ∧ ((List.length left) = (List.length left))))
 (.test (decide ((0 = 0) ∧ (((List.length names) + (List.length (win (List.set (List.replicate 1 (0 : Int)) 0 t25) 0 1))) = (List.length ((win names 0 (List.length names)) ++ (win (List.set (List.replicate 1 (0 : Int)) 0 t25) 0 1))))))
 (.test (decide ((0 = 0) ∧ ((List.length out) = (List.length out))))
 (.ret (Sum.inl ((list, ((), ((), ((), (t24, (w64 (t25 + 1))))))), (left, (((win names 0 (List.length names)) ++ (win (List.set (List.replicate 1 (0 : Int)) 0 t25) 0 1)), out)))))
 .fail)
 .fail)
 .fail)
 .fail)
 .fail)
 .fail)
 (.test (decide ((0 = 0) ∧ ((List.length left) = (List.length left))))
 (.test (decide ((0 = 0) ∧ ((List.length names) = (List.length names))))
 (.test (decide ((0 = 0) ∧ ((List.length out) = (List.length out))))
 (.ret (Sum.inr ((list, ((), ((), ()))), (left, (names, out)))))
 .fail)
 .fail)
 .fail))
noncomputable def F39_L5 (v : ((List (Int) × Unit × Unit × Unit × Int × Int) × (List (Int) × List (Int) × List ((Int × Int))))) : Option ((List (Int) × Unit × Unit × Unit) × (List (Int) × List (Int) × List ((Int × Int)))) := loopO (fun v => (F39_L5_step v).run) v

def F39_L10_sh : LSh := ⟨(fun ex => match ex with | .norm => [(0, none), (4, none), (5, none), (6, none), (8, none)] | .exit i => if i = 2 then [(0, none), (4, none), (6, none)] else [] | .ret => [(2, none), (3, none)]), [(0, (.one (.sl (.int .i64) false false))), (4, (.one (.rw 0 0))), (5, (.one (.rw 1 0))), (6, (.one (.rw 2 0))), (8, (.one (.si .i64)))], [(.row 0 (.int .i64)), (.row 0 (.int .i64)), (.row 0 (.pair (.int .i64) (.int .i64)))], [⟨.ret, [(2, (.one (.rw 0 0))), (3, (.one .sb))], [(.row 0 (.pair (.int .i64) (.int .i64)))]⟩, ⟨(.exit 2), [(0, (.one (.sl (.int .i64) false false))), (4, (.one (.rw 0 0))), (6, (.one (.rw 1 0)))], [(.row 0 (.int .i64)), (.row 0 (.pair (.int .i64) (.int .i64)))]⟩], [], []⟩
noncomputable def F39_L10_step : ((List (Int) × Unit × Unit × Unit × Int) × (List (Int) × List (Int) × List ((Int × Int)))) → T (((List (Int) × Unit × Unit × Unit × Int) × (List (Int) × List (Int) × List ((Int × Int)))) ⊕ (((Unit × Bool) × List ((Int × Int))) ⊕ ((List (Int) × Unit × Unit) × (List (Int) × List ((Int × Int)))))) := fun ((list, (), (), (), n), (left, names, out)) =>
 (.test (decide (n > 3))
 (.test (decide ((0 + (List.length left)) ≤ (List.length left)))
 (.sub (F33 ((win left 0 (List.length left)), (1 : Int))) fun z0 =>
 (.test (decide (z0 < 0))
 (.test true
 (.ret (Sum.inr (Sum.inl (((), false), ([] : List (Int × Int))))))
 .fail)
 (.test (decide (n ≠ 0))
 (.test (decide (n ≠ 0))
 (.test (decide ((0 ≤ (Int.tmod (w64 ((w64 (z0 + n)) - 1)) n)) ∧ ((Int.tmod (w64 ((w64 (z0 + n)) - 1)) n) < ((List.length left) : Int))))
 (.sub (left[(0 + (Int.toNat (Int.tmod (w64 ((w64 (z0 + n)) - 1)) n)))]?) fun z1 =>
 (.test (decide ((0 ≤ (Int.tmod (w64 ((w64 (z0 + n)) - 1)) n)) ∧ ((Int.tmod (w64 ((w64 (z0 + n)) - 1)) n) < ((List.length left) : Int))))
 (.sub (left[(0 + (Int.toNat (Int.tmod (w64 ((w64 (z0 + n)) - 1)) n)))]?) fun z2 =>
 (.test (decide ((0 ≤ (Int.tmod (w64 (z0 + 1)) n)) ∧ ((Int.tmod (w64 (z0 + 1)) n) < ((List.length left) : Int))))
 (.sub ((List.set left (0 + (Int.toNat (Int.tmod (w64 ((w64 (z0 + n)) - 1)) n))) (w64 (z1 - 1)))[(0 + (Int.toNat (Int.tmod (w64 (z0 + 1)) n)))]?) fun z3 =>
 (.test (decide ((0 ≤ (Int.tmod (w64 (z0 + 1)) n)) ∧ ((Int.tmod (w64 (z0 + 1)) n) < ((List.length left) : Int))))
 (.sub ((List.set left (0 + (Int.toNat (Int.tmod (w64 ((w64 (z0 + n)) - 1)) n))) (w64 (z1 - 1)))[(0 + (Int.toNat (Int.tmod (w64 (z0 + 1)) n)))]?) fun z4 =>
 (.test (decide ((0 ≤ (Int.tmod (w64 ((w64 (z0 + n)) - 1)) n)) ∧ ((Int.tmod (w64 ((w64 (z0 + n)) - 1)) n) < ((List.length names) : Int))))
 (.sub (names[(0 + (Int.toNat (Int.tmod (w64 ((w64 (z0 + n)) - 1)) n)))]?) fun z5 =>
 (.test (decide ((0 ≤ (Int.tmod (w64 (z0 + 1)) n)) ∧ ((Int.tmod (w64 (z0 + 1)) n) < ((List.length names) : Int))))
 (.sub (names[(0 + (Int.toNat (Int.tmod (w64 (z0 + 1)) n)))]?) fun z6 =>
 (.test (decide (1 ≤ (List.length (List.set (List.replicate 1 ((0 : Int), (0 : Int))) 0 ((if (z6 < z5) then z6 else z5), (if (z6 > z5) then z6 else z5))))))
 (.test (decide ((0 + (List.length out)) ≤ (List.length out)))
 (.test (decide ((2 * (((List.length out) + (List.length (win (List.set (List.replicate 1 ((0 : Int), (0 : Int))) 0 ((if (z6 < z5) then z6 else z5), (if (z6 > z5) then z6 else z5))) 0 1))) * 17)) ≤ 140737488355328))
 (.test (decide ((0 = 0) ∧ ((List.length left) = (List.length (List.set (List.set left (0 + (Int.toNat (Int.tmod (w64 ((w64 (z0 + n)) - 1)) n))) (w64 (z1 - 1))) (0 + (Int.toNat (Int.tmod (w64 (z0 + 1)) n))) (w64 (z3 - 1)))))))
 (.sub (F26 (((), (z0, (w64 (z0 + 1)))), (List.set (List.set left (0 + (Int.toNat (Int.tmod (w64 ((w64 (z0 + n)) - 1)) n))) (w64 (z1 - 1))) (0 + (Int.toNat (Int.tmod (w64 (z0 + 1)) n))) (w64 (z3 - 1))))) fun z7 =>
 (.test (decide ((0 = 0) ∧ ((List.length names) = (List.length names))))
 (.sub (F26 (((), (z0, (w64 (z0 + 1)))), names)) fun z8 =>
 (.test (decide ((0 = 0) ∧ ((List.length z7.2) = (List.length z7.2))))
 (.test (decide ((0 = 0) ∧ ((List.length z8.2) = (List.length z8.2))))
 (.test (decide ((0 = 0) ∧ (((List.length out) + (List.length (win (List.set (List.replicate 1 ((0 : Int), (0 : Int))) 0 ((if (z6 < z5) then z6 else z5), (if (z6 > z5) then z6 else z5))) 0 1))) = (List.length ((win out 0 (List.length out)) ++ (win (List.set (List.replicate 1 ((0 : Int), (0 : Int))) 0 ((if (z6 < z5) then z6 else z5), (if (z6 > z5) then z6 else z5))) 0 1))))))
 (.ret (Sum.inl ((list, ((), ((), ((), (w64 (n - 1)))))), (z7.2, (z8.2, ((win out 0 (List.length out)) ++ (win (List.set (List.replicate 1 ((0 : Int), (0 : Int))) 0 ((if (z6 < z5) then z6 else z5), (if (z6 > z5) then z6 else z5))) 0 1)))))))
 .fail)
 .fail)
 .fail))
 .fail))
 .fail)
 .fail)
 .fail)
 .fail))
 .fail))
 .fail))
 .fail))
 .fail))
 .fail))
 .fail)
 .fail)
 .fail)))
 .fail)
 (.test (decide ((0 = 0) ∧ ((List.length left) = (List.length left))))
 (.test (decide ((0 = 0) ∧ ((List.length out) = (List.length out))))
 (.ret (Sum.inr (Sum.inr ((list, ((), ())), (left, out)))))
 .fail)
 .fail))
noncomputable def F39_L10 (v : ((List (Int) × Unit × Unit × Unit × Int) × (List (Int) × List (Int) × List ((Int × Int))))) : Option (((Unit × Bool) × List ((Int × Int))) ⊕ ((List (Int) × Unit × Unit) × (List (Int) × List ((Int × Int))))) := loopO (fun v => (F39_L10_step v).run) v

def F39_fo : List FO := [⟨[(.one (.rw 0 0)), (.one .sb)], [(.row 0 (.pair (.int .i64) (.int .i64)))]⟩]
noncomputable def F39_t : List (Int) → T ((Unit × Bool) × List ((Int × Int))) := fun list =>
 (.sub (F59 ((List.length list) : Int)) fun z0 =>
 (.test (! z0)
 (.test true
 (.ret (((), false), ([] : List (Int × Int))))
 .fail)
 (.sub (F32 list) fun z1 =>
 (.test (decide ((0 = 0) ∧ ((List.length z1.2) = (List.length z1.2))))
 (.test (decide ((0 = 0) ∧ (0 = (List.length (List.replicate 0 (0 : Int))))))
 (.test (decide ((0 = 0) ∧ (0 = (List.length (List.replicate 0 ((0 : Int), (0 : Int)))))))
 (.sub (F39_L5 ((list, ((), ((), ((), (((List.length list) : Int), (0 : Int)))))), (z1.2, ((List.replicate 0 (0 : Int)), (List.replicate 0 ((0 : Int), (0 : Int))))))) fun z2 =>
 (.test (decide ((0 = 0) ∧ ((List.length z2.2.1) = (List.length z2.2.1))))
 (.test (decide ((0 = 0) ∧ ((List.length z2.2.2.1) = (List.length z2.2.2.1))))
 (.test (decide ((0 = 0) ∧ ((List.length z2.2.2.2) = (List.length z2.2.2.2))))
 (.sub (F39_L10 ((z2.1.1, ((), ((), ((), ((List.length z2.2.1) : Int))))), (z2.2.1, (z2.2.2.1, z2.2.2.2)))) fun z3 =>
 (.test (Sum.isLeft z3)
 (.sub (Sum.getLeft? z3) fun z4 =>
 (.test (decide ((0 = 0) ∧ ((List.length z4.2) = (List.length z4.2))))
 (.ret (((), z4.1.2), z4.2))
 .fail))
 (.sub (Sum.getRight? z3) fun z5 =>
 (.test (decide ((0 = 0) ∧ ((List.length z5.2.2) = (List.length z5.2.2))))
 (.sub (F5 (((), ()), z5.2.2)) fun z6 =>
 (.test (decide ((0 + (List.length z5.2.1)) ≤ (List.length z5.2.1)))
 (.test true
 (.sub (F34 ((win z5.2.1 0 (List.length z5.2.1)), (win (List.set (List.set (List.set (List.replicate 3 (0 : Int)) 0 (1 : Int)) 1 (1 : Int)) 2 (1 : Int)) 0 3))) fun z7 =>
 (.test (! z7)
 (.test true
 (.ret (((), false), ([] : List (Int × Int))))
 .fail)
 (.test (decide ((0 + (List.length z5.2.2)) ≤ (List.length z6.2)))
 (.sub (F27 (((List.length z5.1.1) : Int), (win z6.2 0 (List.length z5.2.2)))) fun z8 =>
 (.test (! z8)
 (.test true
 (.ret (((), false), ([] : List (Int × Int))))
 .fail)
 (.test (decide ((0 + (List.length z5.2.2)) ≤ (List.length z6.2)))
 (.sub (F67 (((List.length z5.1.1) : Int), (win z6.2 0 (List.length z5.2.2)))) fun z9 =>
 (.test (decide ((0 + (List.length z9.2)) ≤ (List.length z9.2)))
 (.sub (F34 ((win z9.2 0 (List.length z9.2)), z5.1.1)) fun z10 =>
 (.test (! z10)
 (.test true
 (.ret (((), false), ([] : List (Int × Int))))
 .fail)
 (.test (decide ((0 = 0) ∧ ((List.length z5.2.2) = (List.length z6.2))))
 (.ret (((), true), z6.2))
 .fail)))
 .fail))
 .fail)))
 .fail)))
 .fail)
 .fail))
 .fail))))
 .fail)
 .fail)
 .fail))
 .fail)
 .fail)
 .fail))))
noncomputable def F39 (v : List (Int)) : Option ((Unit × Bool) × List ((Int × Int))) := (F39_t v).run
noncomputable def F39_E : TEnv := ((((((((E0.add1 n_F59 F59_sh F59_fo F59).add1 n_F32 F32_sh F32_fo F32).add1 n_F33 F33_sh F33_fo F33).add1 n_F26 F26_sh F26_fo F26).add1 n_F13 F5_sh F5_fo F5).add1 n_F34 F34_sh F34_fo F34).add1 n_F27 F27_sh F27_fo F27).add1 n_F67 F67_sh F67_fo F67)
theorem F39_Eok : (F39_E).OK := ((((((((E0ok.add1 F59_ok).add1 F32_ok).add1 F33_ok).add1 F26_ok).add1 F5_ok).add1 F34_ok).add1 F27_ok).add1 F67_ok)
noncomputable def F39_told : Nat → Option SealT := fun id => if id = 5 then some (LSh.told F39_L5_sh 0 (F39_L5_step)) else if id = 10 then some (LSh.told F39_L10_sh 0 (F39_L10_step)) else none
theorem F39_L5_ok : ToldOK Tryz.prog 0 (loopAt (bodyOf fn_F39) [0]) (LSh.told F39_L5_sh 0 (F39_L5_step)) :=
  loop_ok (E := F39_E) (F39_Eok) (told := F39_told) (l := F39_L5_sh) (step := F39_L5_step) (loopsOK_of (ls := []) (by kernel_rfl) trivial) (by kernel_rfl) (fun v => by kernel_rfl)
theorem F39_L10_ok : ToldOK Tryz.prog 0 (loopAt (bodyOf fn_F39) [1]) (LSh.told F39_L10_sh 0 (F39_L10_step)) :=
  loop_ok (E := F39_E) (F39_Eok) (told := F39_told) (l := F39_L10_sh) (step := F39_L10_step) (loopsOK_of (ls := []) (by kernel_rfl) trivial) (by kernel_rfl) (fun v => by kernel_rfl)
theorem F39_ok : FOK Tryz.prog n_F39 F39_sh F39_fo F39 :=
  fn_ok (E := F39_E) (F39_Eok) (told := F39_told) (fl := []) (c := bodyOf fn_F39) (s := F39_sh) (l := F39_fo) (tree := F39_t) fnat_F39 (by kernel_rfl) (by kernel_rfl) (by kernel_rfl) (loopsOK_of (ls := [loopAt (bodyOf fn_F39) [0], loopAt (bodyOf fn_F39) [1]]) (by kernel_rfl) ⟨.inr ⟨_, by kernel_rfl, F39_L5_ok⟩, ⟨.inr ⟨_, by kernel_rfl, F39_L10_ok⟩, trivial⟩⟩) (fun v => by kernel_rfl)

theorem F39_names (l left : List Int) (out : List Dg) (hl : l.length < 1000000) : F39_L5 ((l, ((), ((), ((), ((l.length : Int), (0 : Int)))))), (left, ([], out))) = some ((l, ((), ((), ()))), (left, (nameL l.length, out))) := by
  have key : ∀ m k, k + m = l.length → F39_L5 ((l, ((), ((), ((), ((l.length : Int), (k : Int)))))), (left, (nameL k, out))) = some ((l, ((), ((), ()))), (left, (nameL l.length, out))) := by
    intro m
    induction m with
    | zero =>
      intro k hk
      have : k = l.length := by omega
      subst this
      simp only [F39_L5]
      exact loopO_done (by simp [F39_L5_step, T.run])
    | succ m ih =>
      intro k hk
      have ih := ih (k + 1) (by omega)
      simp only [F39_L5] at ih ⊢
      rw [← ih]
      refine loopO_next ?_
      have c0 : (k : Int) < (l.length : Int) := by omega
      have w1 : w64 ((k : Int) + 1) = ((k + 1 : Nat) : Int) := by rw [w64_id (by omega) (by omega)]; omega
      have hw : win (nameL k) 0 k = nameL k := by have := win_all (nameL k); rwa [nameL_length] at this
      have c1 : 2 * ((k + 1) * 9) ≤ 140737488355328 := by omega
      have hs : nameL k ++ [(k : Int)] = nameL (k + 1) := (nameL_succ k).symm
      simp only [F39_L5_step, T.run, c0, decide_true, if_true, win_one, nameL_length, hw, w1, List.length_cons, List.length_nil, c1, hs, Nat.zero_add]
      simp [c1]
  simpa [nameL] using key l.length 0 (by omega)
theorem F39_cut (list left names : List Int) (out : List Dg) (k i : Nat) (hk : k < 100000) (hl : left.length = k + 4) (hn : names.length = k + 4) (ho : out.length < 100000) (he : ear left = some i) :
    (F39_L10_step ((list, ((), ((), ((), (left.length : Int))))), (left, (names, out)))).run = some (.inl ((list, ((), ((), ((), ((k + 3 : Nat) : Int))))), (cutL left i, (names.eraseIdx i, out ++ [cutD names i])))) := by
  obtain ⟨hi, _⟩ := ear_lt he
  obtain ⟨n1, n2, n3, n4, n5, n6⟩ := nb_facts (by omega : 3 ≤ left.length) hi
  obtain ⟨t1, t2⟩ := nb_tmod (by omega : 3 ≤ left.length) (by omega) hi
  have hidx := F33_eq left 1 (by omega)
  have hii : idxI (fun x => (1 : Int) == x) left = (i : Int) := by unfold idxI; unfold ear at he; rw [he]
  have c0 : (left.length : Int) > 3 := by omega
  have c1 : ¬ ((i : Int) < 0) := by omega
  have c2 : (left.length : Int) ≠ 0 := by omega
  have c3 : (0 : Int) ≤ (nbB left.length i : Int) ∧ (nbB left.length i : Int) < (left.length : Int) := by omega
  have c4 : (0 : Int) ≤ (nbC left.length i : Int) ∧ (nbC left.length i : Int) < (left.length : Int) := by omega
  have c5 : (0 : Int) ≤ (nbB left.length i : Int) ∧ (nbB left.length i : Int) < (names.length : Int) := by omega
  have c6 : (0 : Int) ≤ (nbC left.length i : Int) ∧ (nbC left.length i : Int) < (names.length : Int) := by omega
  have g1 := set_getD n1
  have g2 : (left.set (nbB left.length i) (w64 (left.getD (nbB left.length i) 0 - 1)))[nbC left.length i]? = some ((decAt left (nbB left.length i)).getD (nbC left.length i) 0) := set_getD (by simpa using n2)
  have g3 := set_getD (l := names) (p := nbB left.length i) (by omega)
  have g4 := set_getD (l := names) (p := nbC left.length i) (by omega)
  have w1 : w64 ((i : Int) + 1) = ((i + 1 : Nat) : Int) := by rw [w64_id (by omega) (by omega)]; omega
  rw [w1] at t2
  have w2 : w64 ((left.length : Int) - 1) = ((k + 3 : Nat) : Int) := by rw [w64_id (by omega) (by omega)]; omega
  have hD : ∀ a b : Int, ((if b < a then b else a), (if b > a then b else a)) = (min a b, max a b) := by
    intro a b
    rw [Prod.mk.injEq]
    constructor <;> split <;> omega
  have hD' : (min (names.getD (nbB left.length i) 0) (names.getD (nbC left.length i) 0), max (names.getD (nbB left.length i) 0) (names.getD (nbC left.length i) 0)) = cutD names i := by unfold cutD; rw [hl, hn]
  have hd1 : F26 (((), ((i : Int), ((i + 1 : Nat) : Int))), decAt (decAt left (nbB left.length i)) (nbC left.length i)) = some ((), cutL left i) := by
    unfold F26
    rw [if_pos ⟨by simp only []; omega, by simp only []; omega, by simp only [decAt_length]; omega, by simp only [decAt_length]; omega⟩]
    simp only [Int.toNat_natCast, take_drop_erase]
    rfl
  have hd2 : F26 (((), ((i : Int), ((i + 1 : Nat) : Int))), names) = some ((), names.eraseIdx i) := by
    unfold F26
    rw [if_pos ⟨by simp only []; omega, by simp only []; omega, by simp only []; omega, by simp only []; omega⟩]
    simp only [Int.toNat_natCast, take_drop_erase]
  have c7 : 2 * ((out.length + 1) * 17) ≤ 140737488355328 := by omega
  have l1 : left.length = (decAt (decAt left (nbB left.length i)) (nbC left.length i)).length := by rw [decAt_length, decAt_length]
  have e1 : left.set (nbB left.length i) (w64 (left.getD (nbB left.length i) 0 - 1)) = decAt left (nbB left.length i) := rfl
  have e2 : (decAt left (nbB left.length i)).set (nbC left.length i) (w64 ((decAt left (nbB left.length i)).getD (nbC left.length i) 0 - 1)) = decAt (decAt left (nbB left.length i)) (nbC left.length i) := rfl
  rw [e1] at g2
  simp only [F39_L10_step, T.run, c0, decide_true, if_true, Nat.zero_add, Nat.le_refl, win_all, hidx, hii, Option.bind_some, c1, decide_false, Bool.false_eq_true, if_false, c2, ne_eq, not_false_eq_true, t1, t2, c3, c4, c5, c6, and_self, Int.toNat_natCast, g1, e1, g2, g3, g4, e2, hD, hD', win_one, w1, w2, hd1, hd2, ← l1]
  simp [c7]
theorem F39_cuts (list : List Int) : ∀ (k : Nat) (left names : List Int) (out : List Dg), k < 1000 → left.length = k + 3 → names.length = k + 3 → out.length + k < 10000 →
    F39_L10 ((list, ((), ((), ((), (left.length : Int))))), (left, (names, out))) = some (match triW k left names with
      | none => .inl (((), false), [])
      | some r => .inr ((list, ((), ())), (r.1, out ++ r.2)))
  | 0, left, names, out, hk, hl, hn, ho => by
    simp only [F39_L10, triW]
    refine loopO_done ?_
    have c0 : ¬ ((left.length : Int) > 3) := by omega
    simp [F39_L10_step, T.run, c0]
  | k + 1, left, names, out, hk, hl, hn, ho => by
    cases he : ear left with
    | none =>
      have hidx := F33_eq left 1 (by omega)
      have hii : idxI (fun x => (1 : Int) == x) left = -1 := by unfold idxI; unfold ear at he; rw [he]
      have c0 : (left.length : Int) > 3 := by omega
      simp only [F39_L10, triW, he]
      refine loopO_done ?_
      simp only [F39_L10_step, T.run, c0, decide_true, if_true, Nat.zero_add, Nat.le_refl, win_all, hidx, hii, Option.bind_some]
      simp
    | some i =>
      have st := F39_cut list left names out k i (by omega) (by omega) (by omega) (by omega) he
      have hlc := cutL_length (ear_lt he).1
      have ih := F39_cuts list k (cutL left i) (names.eraseIdx i) (out ++ [cutD names i]) (by omega) (by omega) (by rw [List.length_eraseIdx, if_pos (by have := (ear_lt he).1; omega)]; omega) (by simp; omega)
      rw [show (cutL left i).length = k + 3 by omega] at ih
      simp only [F39_L10, triW, he] at ih ⊢
      rw [loopO_next st, ih]
      cases triW k (cutL left i) (names.eraseIdx i) with
      | none => rfl
      | some r => simp
theorem F39_eq (l : List Int) (hl : l.length < 4611686018427387904) : F39 l = some (match trOf l with | some ds => (((), true), ds) | none => (((), false), [])) := by
  simp only [F39, F39_t, T.run, F59, F59_t, F80_eq, Option.bind_some]
  cases hn : inB 3 12 (l.length : Int) with
  | false => simp [trOf, hn]
  | true =>
    have hn' := inB_iff.1 hn
    have hc : F32 l = some ((), l) := by
      unfold F32
      rw [if_pos]
      exact ⟨by unfold maxLen; omega, by omega⟩
    have h5 := F39_names l l [] (by omega)
    have h10 := F39_cuts l (l.length - 3) l (nameL l.length) [] (by omega) (by omega) (by rw [nameL_length]; omega) (by simp; omega)
    have htri := tri_W (l.length - 3) l (nameL l.length)
    simp only [Bool.not_true, Bool.false_eq_true, if_false, hc, Option.bind_some, List.replicate_zero, List.length_nil, true_and, decide_true, if_true, h5, h10]
    unfold trOf
    rw [hn, htri]
    cases hW : triW (l.length - 3) l (nameL l.length) with
    | none => simp
    | some r =>
      obtain ⟨l3, ds⟩ := r
      obtain ⟨g1, g2⟩ := triW_len _ _ _ _ (by omega) hW
      simp only at g1 g2
      have hs := F5_eq ds (by omega)
      have hls := sortD_length ds
      have hw3 : win (List.set (List.set (List.set (List.replicate 3 (0 : Int)) 0 (1 : Int)) 1 (1 : Int)) 2 (1 : Int)) 0 3 = [1, 1, 1] := rfl
      have heq := F34_eq l3 [1, 1, 1] (by omega)
      have hws : win (sortD ds) 0 ds.length = sortD ds := by rw [← hls]; exact win_all _
      simp only [if_true, Sum.isLeft, Sum.getRight?, Option.bind_some, Bool.false_eq_true, if_false, List.nil_append, hs, Nat.zero_add, Nat.le_refl, decide_true, win_all, hw3, heq, hls, hws, true_and]
      by_cases h3 : l3 = [1, 1, 1]
      · have hT : tri (l.length - 3) l (nameL l.length) = some ds := by rw [htri, hW]; simp [h3]
        obtain ⟨q1, q2⟩ := tri_good _ _ _ _ (nameL_sorted _) (by omega) (by rw [nameL_length]; omega) hT
        have hti := good_isTri (n := l.length) ⟨by omega, by omega⟩ (fun m hm => nameL_mem hm) q2 (by omega)
        have hit := F27_eq (l.length : Int) (sortD ds) (by omega)
        rw [hti] at hit
        have hqd := F67_eq l.length (sortD ds) ⟨by omega, by omega⟩ (by omega) (fun d hd => by
          obtain ⟨a1, a2, a3, _⟩ := q2.1 d ((sortD_perm ds).mem_iff.1 hd)
          have := nameL_mem a1
          have := nameL_mem a2
          omega)
        have hqs : quid l.length (sortD ds) = quid l.length ds := by
          unfold quid
          exact List.map_congr_left fun p _ => by rw [cnt_perm (sortD_perm ds)]
        have hqe := F34_eq (quid l.length ds) l (by simp [quid]; omega)
        simp only [h3, decide_true, Bool.not_true, Bool.false_eq_true, if_false, hit, Option.bind_some, hqd, hqs, win_all, hqe, Nat.le_refl, if_true]
        by_cases hq : quid l.length ds = l <;> simp [hq]
      · simp [h3]


def F52_sh : FSh := ⟨[(.one (.sl (.int .i64) false false))], []⟩

def F52_fo : List FO := [⟨[(.one .sb)], []⟩]
noncomputable def F52_t : List (Int) → T Bool := fun quiddity =>
 (.sub (F39 quiddity) fun z0 =>
 (.ret z0.1.2))
noncomputable def F52 (v : List (Int)) : Option Bool := (F52_t v).run
noncomputable def F52_E : TEnv := (E0.add1 n_F39 F39_sh F39_fo F39)
theorem F52_Eok : (F52_E).OK := (E0ok.add1 F39_ok)
noncomputable def F52_told : Nat → Option SealT := fun id => none
theorem F52_ok : FOK Tryz.prog n_F52 F52_sh F52_fo F52 :=
  fn_ok (E := F52_E) (F52_Eok) (told := F52_told) (fl := []) (c := bodyOf fn_F52) (s := F52_sh) (l := F52_fo) (tree := F52_t) fnat_F52 (by kernel_rfl) (by kernel_rfl) (by kernel_rfl) (loopsOK_of (ls := []) (by kernel_rfl) trivial) (fun v => by kernel_rfl)

theorem F52_eq (l : List Int) (hl : l.length < 4611686018427387904) : F52 l = some (trOf l).isSome := by
  simp only [F52, F52_t, T.run, F39_eq l hl, Option.bind_some]
  cases trOf l <;> rfl



theorem tmod_emod (k n : Int) (hn : 0 < n) : Int.tmod (Int.tmod k n + n) n = k % n := by
  have h1 := Int.tmod_lt_of_pos k hn
  have h2 : -n < Int.tmod k n := by
    have := Int.lt_tmod_of_pos k hn
    omega
  rw [Int.tmod_eq_emod_of_nonneg (by omega), Int.add_emod_right]
  have := Int.mul_tdiv_add_tmod k n
  conv => rhs; rw [← this]
  rw [Int.mul_add_emod_self_left]
theorem tmod_w (k n : Int) (hn : 0 < n) (hb : n ≤ 1000000) : w64 (Int.tmod k n + n) = Int.tmod k n + n := by
  have h1 := Int.tmod_lt_of_pos k hn
  have h2 : -n < Int.tmod k n := by
    have := Int.lt_tmod_of_pos k hn
    omega
  exact w64_id (by omega) (by omega)
theorem snocL {α : Type} (xs : List α) (x : α) : win xs 0 xs.length ++ [x] = xs ++ [x] := by rw [win_all]


def F81_sh : FSh := ⟨[(.one (.si .i64)), (.one (.si .i64))], []⟩

def F81_fo : List FO := [⟨[(.one (.si .i64))], []⟩]
noncomputable def F81_t : (Int × Int) → T Int := fun (i, n) =>
 (.test (decide (n ≠ 0))
 (.test (decide (n ≠ 0))
 (.ret (Int.tmod (w64 ((Int.tmod i n) + n)) n))
 .fail)
 .fail)
noncomputable def F81 (v : (Int × Int)) : Option Int := (F81_t v).run
noncomputable def F81_E : TEnv := E0
theorem F81_Eok : (F81_E).OK := E0ok
noncomputable def F81_told : Nat → Option SealT := fun id => none
theorem F81_ok : FOK Tryz.prog n_F81 F81_sh F81_fo F81 :=
  fn_ok (E := F81_E) (F81_Eok) (told := F81_told) (fl := []) (c := bodyOf fn_F81) (s := F81_sh) (l := F81_fo) (tree := F81_t) fnat_F81 (by kernel_rfl) (by kernel_rfl) (by kernel_rfl) (loopsOK_of (ls := []) (by kernel_rfl) trivial) (fun v => by kernel_rfl)

theorem F81_eq (i n : Int) (hn : 0 < n) (hb : n ≤ 1000000) : F81 (i, n) = some (i % n) := by
  rw [F81, F81_t, T.run_test, if_pos (decide_eq_true (by omega)), T.run_test, if_pos (decide_eq_true (by omega)), T.run_ret, tmod_w i n hn hb, tmod_emod i n hn]



def kr (s : Int) : List Int → Int
  | [] => 1
  | [a] => a
  | a :: b :: l => a * kr s (b :: l) + s * kr s l
def kt (s : Int) : List Int → Int
  | [] => 0
  | _ :: l => kr s l
theorem kr_cons (s a : Int) (l : List Int) : kr s (a :: l) = a * kr s l + s * kt s l := by
  cases l with
  | nil => simp [kr, kt]
  | cons b l => rfl
theorem kt_cons (s a : Int) (l : List Int) : kt s (a :: l) = kr s l := rfl
theorem kr_fold (s : Int) : ∀ (l : List Int) (b o : Int), (l.foldl (cf s) (b, o)).2 = o * kr s l + s * b * kt s l
  | [], b, o => by simp [kr, kt]
  | a :: l, b, o => by
    rw [List.foldl_cons]
    show (l.foldl (cf s) (o, a * o + s * b)).2 = _
    rw [kr_fold s l, kr_cons, kt_cons]
    grind
theorem cont_kr (s : Int) (l : List Int) : cont s l = kr s l := by
  unfold cont cont2
  rw [kr_fold]
  simp
theorem kr_two : ∀ l : List Int, (∀ x ∈ l, 2 ≤ x) → kt (-1) l < kr (-1) l ∧ 0 ≤ kt (-1) l
  | [], _ => by simp [kr, kt]
  | a :: l, h => by
    obtain ⟨h1, h2⟩ := kr_two l fun x hx => h x (List.mem_cons_of_mem _ hx)
    have ha := h a (by simp)
    have hm : 2 * kr (-1) l ≤ a * kr (-1) l := Int.mul_le_mul_of_nonneg_right ha (by omega)
    rw [kr_cons, kt_cons]
    omega
structure MinusOf (num den : Int) (l : List Int) : Prop where
  ne : l ≠ []
  k : kr (-1) l = num
  t : kt (-1) l = den
  two : ∀ x ∈ l.tail, 2 ≤ x
  one : ∀ x ∈ l.head?, 1 ≤ x
  far : den < num → ∀ x ∈ l.head?, 2 ≤ x
theorem upQ_two {num den : Int} (h1 : 1 ≤ den) (h : den < num) : 2 ≤ upQ num den := by
  unfold upQ
  exact Int.le_ediv_of_mul_le (by omega) (by omega)
theorem upQ_one {num den : Int} (h1 : 1 ≤ den) (h : 1 ≤ num) : 1 ≤ upQ num den := by
  unfold upQ
  exact Int.le_ediv_of_mul_le (by omega) (by omega)
theorem MinusOf.cons {num den : Int} {l : List Int} (h1 : 1 ≤ num) (h2 : 1 ≤ den) (hr : upQ num den * den - num < den) (h : MinusOf den (upQ num den * den - num) l) : MinusOf num den (upQ num den :: l) := by
  refine ⟨by simp, by rw [kr_cons, h.k, h.t]; omega, by rw [kt_cons, h.k], fun x hx => ?_, fun x hx => ?_, fun hl x hx => ?_⟩
  · cases l with
    | nil => exact absurd rfl h.ne
    | cons b l =>
      simp only [List.tail_cons, List.mem_cons] at hx
      rcases hx with rfl | hx
      · exact h.far hr x rfl
      · exact h.two x hx
  · simp at hx; subst hx; exact upQ_one h2 h1
  · simp at hx; subst hx; exact upQ_two h2 hl
structure PlusOf (num den : Int) (l : List Int) : Prop where
  ne : l ≠ []
  k : kr 1 l = num
  t : kt 1 l = den
  pos : den ≤ num → ∀ x ∈ l, 1 ≤ x
  far : den < num → ∀ x ∈ l.getLast?, 2 ≤ x
theorem PlusOf.cons {num den q r : Int} {l : List Int} (h2 : 1 ≤ den) (hr0 : 0 < r) (hr : r < den) (e : q * den + r = num) (h : PlusOf den r l) : PlusOf num den (q :: l) := by
  refine ⟨by simp, by rw [kr_cons, h.k, h.t]; omega, by rw [kt_cons, h.k], fun hl x hx => ?_, fun hl x hx => ?_⟩
  · simp only [List.mem_cons] at hx
    rcases hx with rfl | hx
    · refine Int.not_lt.1 fun hq => ?_
      have : x * den ≤ 0 * den := Int.mul_le_mul_of_nonneg_right (by omega) (by omega)
      omega
    · exact h.pos (by omega) x hx
  · cases l with
    | nil => exact absurd rfl h.ne
    | cons b l =>
      rw [List.getLast?_cons_cons] at hx
      exact h.far hr x hx



def A4 (a : Int) : M4 := (a, -1, 1, 0)
def MM : List Int → M4
  | [] => one4
  | a :: l => mul4 (A4 a) (MM l)
theorem mul4_assoc (a b c : M4) : mul4 (mul4 a b) c = mul4 a (mul4 b c) := by
  obtain ⟨a1, a2, a3, a4⟩ := a
  obtain ⟨b1, b2, b3, b4⟩ := b
  obtain ⟨c1, c2, c3, c4⟩ := c
  simp only [mul4, Prod.mk.injEq]
  refine ⟨?_, ?_, ?_, ?_⟩ <;> grind
theorem mul4_one (a : M4) : mul4 one4 a = a := by
  obtain ⟨a1, a2, a3, a4⟩ := a
  simp [mul4, one4]
theorem mul4_one' (a : M4) : mul4 a one4 = a := by
  obtain ⟨a1, a2, a3, a4⟩ := a
  simp [mul4, one4]
theorem MM_append : ∀ l m : List Int, MM (l ++ m) = mul4 (MM l) (MM m)
  | [], m => by rw [List.nil_append]; exact (mul4_one _).symm
  | a :: l, m => by rw [List.cons_append, MM, MM, MM_append l m, mul4_assoc]
theorem MM_mOf (l : List Int) : MM l = mOf l := by
  have key : ∀ n (l : List Int), l.length = n → MM l = mOf l := by
    intro n
    induction n with
    | zero => intro l hl; obtain rfl := List.eq_nil_of_length_eq_zero hl; rfl
    | succ n ih =>
      intro l hl
      rcases List.eq_nil_or_concat l with rfl | ⟨t, a, rfl⟩
      · rfl
      · rw [List.concat_eq_append] at hl ⊢
        rw [MM_append, ih t (by simpa using hl), mOf_snoc]
        show mul4 (mOf t) (mul4 (A4 a) one4) = _
        rw [mul4_one']
        rfl
  exact key _ l rfl
def clo (e : Int) (l : List Int) : Prop := MM l = (e, 0, 0, e)
theorem clo_rot1 {e a : Int} {t : List Int} : clo e (a :: t) ↔ clo e (t ++ [a]) := by
  unfold clo
  rw [MM_append, MM]
  show _ ↔ mul4 (MM t) (mul4 (A4 a) one4) = _
  rw [mul4_one']
  obtain ⟨p, q, r, s⟩ := MM t
  simp only [mul4, A4, Prod.mk.injEq]
  constructor
  · rintro ⟨h1, h2, h3, h4⟩
    refine ⟨?_, ?_, ?_, ?_⟩ <;> grind
  · rintro ⟨h1, h2, h3, h4⟩
    refine ⟨?_, ?_, ?_, ?_⟩ <;> grind
theorem clo_rot {e : Int} : ∀ p q : List Int, clo e (p ++ q) ↔ clo e (q ++ p)
  | [], q => by simp
  | a :: p, q => by
    rw [List.cons_append, clo_rot1, List.append_assoc, clo_rot p (q ++ [a]), List.append_assoc]
    rfl
theorem MM_take (x y : Int) (l : List Int) : MM (x :: 1 :: y :: l) = MM ((x - 1) :: (y - 1) :: l) := by
  show mul4 (A4 x) (mul4 (A4 1) (mul4 (A4 y) (MM l))) = mul4 (A4 (x - 1)) (mul4 (A4 (y - 1)) (MM l))
  rw [← mul4_assoc, ← mul4_assoc, ← mul4_assoc]
  congr 1
  simp only [mul4, A4, Prod.mk.injEq]
  refine ⟨?_, ?_, ?_, ?_⟩ <;> grind
theorem clo_take {e x y : Int} {l : List Int} : clo e (x :: 1 :: y :: l) ↔ clo e ((x - 1) :: (y - 1) :: l) := by unfold clo; rw [MM_take]
theorem clo_zero {e a b : Int} {l : List Int} (h : clo e (a :: 0 :: b :: l)) : clo (-e) ((a + b) :: l) := by
  unfold clo at h ⊢
  change mul4 (A4 a) (mul4 (A4 0) (mul4 (A4 b) (MM l))) = _ at h
  change mul4 (A4 (a + b)) (MM l) = _
  generalize MM l = m at h ⊢
  obtain ⟨p, q, r, s⟩ := m
  simp only [mul4, A4, Prod.mk.injEq] at h ⊢
  obtain ⟨h1, h2, h3, h4⟩ := h
  refine ⟨?_, ?_, ?_, ?_⟩ <;> grind
theorem clo_kt {e : Int} {l : List Int} (h : clo e l) (hne : l ≠ []) : kt (-1) l = 0 := by
  unfold clo at h
  rw [MM_mOf] at h
  cases l with
  | nil => exact absurd rfl hne
  | cons a t =>
    simp only [mOf, Prod.mk.injEq] at h
    rw [kt_cons, ← cont_kr]
    exact h.2.2.1
theorem clo_two {e : Int} {l : List Int} (h : clo e l) (hne : l ≠ []) (h2 : ∀ x ∈ l, 2 ≤ x) : False := by
  have h0 := clo_kt h hne
  cases l with
  | nil => exact hne rfl
  | cons a t =>
    have := kr_two t fun x hx => h2 x (List.mem_cons_of_mem _ hx)
    rw [kt_cons] at h0
    omega
theorem clo_adj {e : Int} {x y : Int} {v : List Int} (he : e = 1 ∨ e = -1) (hp : ∀ z ∈ x :: 1 :: y :: v, 1 ≤ z) (hv : v ≠ []) (h1 : x = 1 ∨ y = 1)
    (H : ∀ (l : List Int) (e : Int), l.length < (x :: 1 :: y :: v).length → l ≠ [] → (e = 1 ∨ e = -1) → (∀ z ∈ l, 1 ≤ z) → clo e l → l.sum < 3 * (l.length : Int)) (h : clo e (x :: 1 :: y :: v)) :
    (x :: 1 :: y :: v).sum < 3 * ((x :: 1 :: y :: v).length : Int) - 6 := by
  have he' : -e = 1 ∨ -e = -1 := by omega
  have hx := hp x (by simp)
  have hy := hp y (by simp)
  rw [clo_take] at h
  by_cases hy1 : y = 1
  · subst hy1
    cases v with
    | nil => exact absurd rfl hv
    | cons w v =>
      have hw := hp w (by simp)
      have hz := clo_zero h
      have := H ((x - 1 + w) :: v) (-e) (by simp) (by simp) he' (fun z hz => by
        simp only [List.mem_cons] at hz
        rcases hz with rfl | hz
        · omega
        · exact hp z (by simp [hz])) hz
      simp only [List.sum_cons, List.length_cons] at this ⊢
      omega
  · have hx1 : x = 1 := h1.resolve_right hy1
    subst hx1
    rcases List.eq_nil_or_concat v with rfl | ⟨v, w, rfl⟩
    · exact absurd rfl hv
    · rw [List.concat_eq_append] at *
      have hw := hp w (by simp)
      have h : clo e ((0 :: (y - 1) :: v) ++ [w]) := h
      rw [clo_rot] at h
      have hz := clo_zero (a := w) (b := y - 1) (l := v) h
      have := H ((w + (y - 1)) :: v) (-e) (by simp) (by simp) he' (fun z hz => by
        simp only [List.mem_cons] at hz
        rcases hz with rfl | hz
        · omega
        · exact hp z (by simp [hz])) hz
      simp only [List.sum_cons, List.length_cons, List.sum_append, List.length_append, List.sum_nil, List.length_nil] at this ⊢
      omega
theorem clo_sum : ∀ (n : Nat) (l : List Int) (e : Int), l.length = n → l ≠ [] → (e = 1 ∨ e = -1) → (∀ z ∈ l, 1 ≤ z) → clo e l → l.sum < 3 * (l.length : Int) := by
  intro n
  induction n using Nat.strongRecOn with
  | ind n ih =>
    intro l e hn hne he hp h
    by_cases h2 : ∀ x ∈ l, 2 ≤ x
    · exact (clo_two h hne h2).elim
    · obtain ⟨x, hx, hx2⟩ : ∃ x, x ∈ l ∧ ¬ 2 ≤ x := by
        refine Classical.byContradiction fun hc => h2 fun x hx => Classical.byContradiction fun h3 => hc ⟨x, hx, h3⟩
      have hx1 : x = 1 := by have := hp x hx; omega
      subst hx1
      obtain ⟨A, B, rfl⟩ := List.append_of_mem hx
      have hs : (A ++ 1 :: B).sum = 1 + (B ++ A).sum := by simp only [List.sum_append, List.sum_cons]; omega
      have hl : (A ++ 1 :: B).length = (B ++ A).length + 1 := by simp only [List.length_append, List.length_cons]; omega
      have hp' : ∀ z ∈ B ++ A, 1 ≤ z := fun z hz => hp z (by simp only [List.mem_append, List.mem_cons] at hz ⊢; exact hz.elim (fun h => .inr (.inr h)) .inl)
      rw [clo_rot] at h
      have h : clo e (1 :: (B ++ A)) := h
      rw [hs, hl]
      rw [hl] at hn
      generalize B ++ A = t at *
      have h0 := clo_kt h (by simp)
      rw [kt_cons] at h0
      cases t with
      | nil => simp [kr] at h0
      | cons y t =>
        rcases List.eq_nil_or_concat t with rfl | ⟨v, x, rfl⟩
        · have := hp' y (by simp)
          simp [kr] at h0
          omega
        · rw [List.concat_eq_append] at *
          have hx := hp' x (by simp)
          have hy := hp' y (by simp)
          have h : clo e ((1 :: y :: v) ++ [x]) := h
          rw [clo_rot] at h
          have h : clo e (x :: 1 :: y :: v) := h
          have hlen : (y :: (v ++ [x])).length = v.length + 2 := by simp
          have hsum : (y :: (v ++ [x])).sum = y + (v.sum + x) := by simp
          rw [hlen, hsum]
          rw [hlen] at hn
          by_cases hxy : 2 ≤ x ∧ 2 ≤ y
          · rw [clo_take] at h
            have := ih (n - 1) (by omega) ((x - 1) :: (y - 1) :: v) e (by simp; omega) (by simp) he (fun z hz => by
              simp only [List.mem_cons] at hz
              rcases hz with rfl | rfl | hz
              · omega
              · omega
              · exact hp' z (by simp [hz])) h
            simp only [List.sum_cons, List.length_cons] at this
            omega
          · have h1 : x = 1 ∨ y = 1 := by omega
            cases v with
            | nil =>
              rw [clo_take] at h
              have hk := clo_kt h (by simp)
              simp [kt, kr] at hk
              obtain rfl : y = 1 := by omega
              unfold clo at h
              simp [MM, mul4, A4, one4] at h
              simp
              omega
            | cons w v' =>
              have := clo_adj he (fun z hz => by
                simp only [List.mem_cons] at hz
                rcases hz with rfl | rfl | rfl | hz
                · exact hx
                · omega
                · exact hy
                · exact hp' z (by simp only [List.mem_cons, List.mem_append]; exact .inr (.inl hz))) (by simp) h1 (fun l e hl hne he hp hc => ih l.length (by simp only [List.length_cons] at hl hn; omega) l e rfl hne he hp hc) h
              simp only [List.sum_cons, List.length_cons] at this ⊢
              omega
def Rot (p q : List Int) : Prop := ∃ a b, p = a ++ b ∧ q = b ++ a
theorem Rot.clo {p q : List Int} {e : Int} (h : Rot p q) : clo e p ↔ clo e q := by
  obtain ⟨a, b, rfl, rfl⟩ := h
  exact clo_rot a b
theorem Rot.sum {p q : List Int} (h : Rot p q) : p.sum = q.sum := by
  obtain ⟨a, b, rfl, rfl⟩ := h
  simp only [List.sum_append]; omega
theorem Rot.length {p q : List Int} (h : Rot p q) : p.length = q.length := by
  obtain ⟨a, b, rfl, rfl⟩ := h
  simp only [List.length_append]; omega
theorem Rot.mem {p q : List Int} (h : Rot p q) (x : Int) : x ∈ p ↔ x ∈ q := by
  obtain ⟨a, b, rfl, rfl⟩ := h
  simp only [List.mem_append, or_comm]
theorem decAt_mid (L R : List Int) (x : Int) (hx : -1000000000 ≤ x ∧ x ≤ 1000000000) (p : Nat) (hp : p = L.length) : decAt (L ++ x :: R) p = L ++ (x - 1) :: R := by
  subst hp
  unfold decAt
  have hg : (L ++ x :: R).getD L.length 0 = x := by rw [List.getD_eq_getElem?_getD, List.getElem?_append_right (Nat.le_refl _), Nat.sub_self]; rfl
  rw [hg, w64_id (by omega) (by omega), List.set_append_right _ _ (Nat.le_refl _), Nat.sub_self]
  rfl
theorem getD_mid (L R : List Int) (x : Int) (p : Nat) (hp : p = L.length) : (L ++ x :: R).getD p 0 = x := by
  subst hp
  rw [List.getD_eq_getElem?_getD, List.getElem?_append_right (Nat.le_refl _), Nat.sub_self]; rfl
theorem erase_mid (L R : List Int) (x : Int) (p : Nat) (hp : p = L.length) : (L ++ x :: R).eraseIdx p = L ++ R := by
  subst hp
  rw [List.eraseIdx_append_of_length_le (Nat.le_refl _), Nat.sub_self]
  rfl
theorem cut_rot {l : List Int} {i : Nat} (hn : 4 ≤ l.length) (hb : ∀ z ∈ l, -1000000000 ≤ z ∧ z ≤ 1000000000) (hi : l[i]? = some 1) :
    ∃ x y v, Rot l (x :: 1 :: y :: v) ∧ Rot (cutL l i) ((x - 1) :: (y - 1) :: v) ∧ okC l i = decide (1 ≤ x - 1 ∧ 1 ≤ y - 1) := by
  obtain ⟨hlt, h1⟩ := List.getElem?_eq_some_iff.1 hi
  obtain ⟨A, B, e, hA⟩ : ∃ A B, l = A ++ 1 :: B ∧ A.length = i := ⟨l.take i, l.drop (i + 1), by
    rw [← h1, ← List.drop_eq_getElem_cons hlt, List.take_append_drop], by rw [List.length_take]; omega⟩
  have hlen : l.length = A.length + B.length + 1 := by rw [e]; simp; omega
  obtain ⟨n1, n2, n3, n4, n5, n6⟩ := nb_facts (by omega : 3 ≤ l.length) hlt
  rcases n6 with ⟨q0, q1, q2⟩ | ⟨q0, q1, q2⟩ | ⟨q0, q00, q1, q2⟩
  · -- the first
    obtain rfl : A = [] := List.eq_nil_of_length_eq_zero (by omega)
    cases B with
    | nil => simp at hlen; omega
    | cons y B =>
      rcases List.eq_nil_or_concat B with rfl | ⟨v, x, rfl⟩
      · simp at hlen; omega
      · rw [List.concat_eq_append] at *
        have e : l = (1 :: y :: v) ++ x :: [] := by rw [e]; simp
        have hx := hb x (by rw [e]; simp)
        have hy := hb y (by rw [e]; simp)
        refine ⟨x, y, v, ⟨1 :: y :: v, [x], by rw [e], rfl⟩, ⟨(y - 1) :: v, [x - 1], ?_, rfl⟩, ?_⟩
        · unfold cutL
          rw [q1, q2, q0]
          have d1 : decAt l (l.length - 1) = (1 :: y :: v) ++ (x - 1) :: [] := by
            have := decAt_mid (1 :: y :: v) [] x hx (l.length - 1) (by rw [e]; simp)
            rwa [← e] at this
          rw [d1]
          have d2 := decAt_mid [1] (v ++ [x - 1]) y hy 1 rfl
          have e2 : ((1 :: y :: v) ++ (x - 1) :: []) = [1] ++ y :: (v ++ [x - 1]) := by simp
          rw [e2, d2]
          simp
        · unfold okC
          rw [q1, q2]
          have g1 := getD_mid (1 :: y :: v) [] x (l.length - 1) (by rw [e]; simp)
          have g2 := getD_mid [1] (v ++ [x]) y 1 rfl
          have e2 : l = [1] ++ y :: (v ++ [x]) := by rw [e]; simp
          rw [← e] at g1
          rw [← e2] at g2
          rw [g1, g2, w64_id (by omega) (by omega), w64_id (by omega) (by omega)]
  · -- the last
    obtain rfl : B = [] := List.eq_nil_of_length_eq_zero (by omega)
    cases A with
    | nil => simp at hlen; omega
    | cons y A =>
      rcases List.eq_nil_or_concat A with rfl | ⟨v, x, rfl⟩
      · simp at hlen; omega
      · rw [List.concat_eq_append] at *
        have e : l = (y :: v) ++ x :: [1] := by rw [e]; simp
        have hx := hb x (by rw [e]; simp)
        have hy := hb y (by rw [e]; simp)
        have hlv : l.length = v.length + 3 := by rw [e]; simp
        refine ⟨x, y, v, ⟨y :: v, [x, 1], by rw [e], rfl⟩, ⟨(y - 1) :: v, [x - 1], ?_, rfl⟩, ?_⟩
        · unfold cutL
          rw [q1, q2, q0]
          have d1 : decAt l (l.length - 2) = (y :: v) ++ (x - 1) :: [1] := by
            have := decAt_mid (y :: v) [1] x hx (l.length - 2) (by rw [hlv]; simp)
            rwa [← e] at this
          rw [d1]
          have d2 := decAt_mid [] (v ++ [x - 1, 1]) y hy 0 rfl
          have e2 : ((y :: v) ++ (x - 1) :: [1]) = [] ++ y :: (v ++ [x - 1, 1]) := by simp
          rw [e2, d2]
          have e3 : ([] ++ (y - 1) :: (v ++ [x - 1, 1])) = ((y - 1) :: (v ++ [x - 1])) ++ 1 :: [] := by simp
          rw [e3, erase_mid _ _ _ _ (by rw [hlv]; simp)]
          simp
        · unfold okC
          rw [q1, q2]
          have g1 := getD_mid (y :: v) [1] x (l.length - 2) (by rw [hlv]; simp)
          have g2 := getD_mid [] (v ++ [x, 1]) y 0 rfl
          have e2 : l = [] ++ y :: (v ++ [x, 1]) := by rw [e]; simp
          rw [← e] at g1
          rw [← e2] at g2
          rw [g1, g2, w64_id (by omega) (by omega), w64_id (by omega) (by omega)]
  · -- within
    rcases List.eq_nil_or_concat A with rfl | ⟨L, x, rfl⟩
    · simp at hA; omega
    · cases B with
      | nil => simp at hlen hA; omega
      | cons y R =>
        rw [List.concat_eq_append] at *
        have hL : L.length + 1 = i := by rw [← hA]; simp
        have e : l = L ++ x :: 1 :: y :: R := by rw [e]; simp
        have hx := hb x (by rw [e]; simp)
        have hy := hb y (by rw [e]; simp)
        refine ⟨x, y, R ++ L, ⟨L, x :: 1 :: y :: R, e, by simp⟩, ⟨L, (x - 1) :: (y - 1) :: R, ?_, by simp⟩, ?_⟩
        · unfold cutL
          rw [q1, q2]
          have d1 := decAt_mid L (1 :: y :: R) x hx (i - 1) (by omega)
          rw [← e] at d1
          rw [d1]
          have e2 : L ++ (x - 1) :: 1 :: y :: R = (L ++ [x - 1, 1]) ++ y :: R := by simp
          rw [e2, decAt_mid (L ++ [x - 1, 1]) R y hy (i + 1) (by simp; omega)]
          have e3 : (L ++ [x - 1, 1]) ++ (y - 1) :: R = (L ++ [x - 1]) ++ 1 :: (y - 1) :: R := by simp
          rw [e3, erase_mid _ _ _ _ (by simp; omega)]
          simp
        · unfold okC
          rw [q1, q2]
          have g1 := getD_mid L (1 :: y :: R) x (i - 1) (by omega)
          have g2 := getD_mid (L ++ [x, 1]) R y (i + 1) (by simp; omega)
          have e2 : l = (L ++ [x, 1]) ++ y :: R := by rw [e]; simp
          rw [← e] at g1
          rw [← e2] at g2
          rw [g1, g2, w64_id (by omega) (by omega), w64_id (by omega) (by omega)]
theorem tri_clo : ∀ (k : Nat) (l names : List Int) (ds : List Dg), l.length = k + 3 → (∀ z ∈ l, 1 ≤ z ∧ z ≤ 1000000) → triS k l names = some ds → clo (-1) l
  | 0, l, names, ds, hl, hb, h => by
    unfold triS at h
    split at h
    · rename_i e
      subst e
      unfold clo
      decide
    · cases h
  | k + 1, l, names, ds, hl, hb, h => by
    unfold triS at h
    split at h
    · cases h
    · rename_i i he
      split at h
      · rename_i ho
        obtain ⟨d, hd, _⟩ := Option.map_eq_some_iff.1 h
        obtain ⟨x, y, v, r1, r2, r3⟩ := cut_rot (i := i) (by omega) (fun z hz => by have := hb z hz; omega) (ear_lt he).2
        rw [r3, decide_eq_true_eq] at ho
        have hx := hb x ((r1.mem x).2 (by simp))
        have hy := hb y ((r1.mem y).2 (by simp))
        have hc := tri_clo k (cutL l i) _ d (by rw [cutL_length (ear_lt he).1]; omega) (fun z hz => by
          rw [r2.mem] at hz
          simp only [List.mem_cons] at hz
          rcases hz with rfl | rfl | hz
          · omega
          · omega
          · exact hb z ((r1.mem z).2 (by simp [hz]))) hd
        rw [r2.clo, ← clo_take, ← r1.clo] at hc
        exact hc
      · cases h
theorem clo_tri : ∀ (k : Nat) (l names : List Int), l.length = k + 3 → (∀ z ∈ l, 1 ≤ z ∧ z ≤ 1000000) → l.sum = 3 * (l.length : Int) - 6 → clo (-1) l → ∃ ds, triS k l names = some ds
  | 0, l, names, hl, hb, hs, h => by
    match l, hl with
    | [a, b, c], _ =>
      have ha := hb a (by simp)
      have hb' := hb b (by simp)
      have hc := hb c (by simp)
      simp at hs
      obtain rfl : a = 1 := by omega
      obtain rfl : b = 1 := by omega
      obtain rfl : c = 1 := by omega
      exact ⟨[], by simp [triS]⟩
  | k + 1, l, names, hl, hb, hs, h => by
    have hne : l ≠ [] := by intro e; rw [e] at hl; simp at hl
    cases he : ear l with
    | none =>
      exact (clo_two h hne fun z hz => by
        unfold ear at he
        rw [List.findIdx?_eq_none_iff] at he
        have h1 := he z hz
        have h2 := hb z hz
        have h3 : ¬ (1 = z) := by simpa using h1
        omega).elim
    | some i =>
      obtain ⟨x, y, v, r1, r2, r3⟩ := cut_rot (i := i) (by omega) (fun z hz => by have := hb z hz; omega) (ear_lt he).2
      have hx := hb x ((r1.mem x).2 (by simp))
      have hy := hb y ((r1.mem y).2 (by simp))
      have hr : clo (-1) (x :: 1 :: y :: v) := r1.clo.1 h
      have hlr : l.length = v.length + 3 := by rw [r1.length]; simp
      have hsr : l.sum = x + (1 + (y + v.sum)) := by rw [r1.sum]; simp
      have hxy : 2 ≤ x ∧ 2 ≤ y := by
        refine Classical.byContradiction fun hc => ?_
        have := clo_adj (e := -1) (.inr rfl) (fun z hz => (hb z ((r1.mem z).2 hz)).1) (by intro e; rw [e] at hlr; simp at hlr; omega) (by omega) (fun l e _ hne he hp hc => clo_sum l.length l e rfl hne he hp hc) hr
        simp only [List.sum_cons, List.length_cons] at this
        omega
      have hok : okC l i = true := by rw [r3, decide_eq_true_eq]; omega
      have hcl := cutL_length (ear_lt he).1
      obtain ⟨ds, hd⟩ := clo_tri k (cutL l i) (names.eraseIdx i) (by omega) (fun z hz => by
        rw [r2.mem] at hz
        simp only [List.mem_cons] at hz
        rcases hz with rfl | rfl | hz
        · omega
        · omega
        · exact hb z ((r1.mem z).2 (by simp [hz]))) (by
          rw [r2.sum, hcl]
          simp only [List.sum_cons]
          omega) (by rw [r2.clo, ← clo_take]; exact hr)
      refine ⟨cutD names i :: ds, ?_⟩
      unfold triS
      rw [he]
      simp only [hok, if_true, hd, Option.map_some]
theorem quid_clo {l : List Int} (h : (trOf l).isSome = true) : clo (-1) l := by
  have hn : inB 3 12 (l.length : Int) = true := by
    unfold trOf at h
    split at h
    · assumption
    · simp at h
  have hb : l.all (inB 1 12) = true := by
    cases hb : l.all (inB 1 12) with
    | true => rfl
    | false => rw [trOf_bad l hb] at h; simp at h
  have hs := trOf_spec l hb hn
  rw [inB_iff] at hn
  cases ht : triS (l.length - 3) l (nameL l.length) with
  | none => rw [ht] at hs; rw [← hs] at h; simp at h
  | some ds =>
    have hb' : ∀ z ∈ l, 1 ≤ z ∧ z ≤ 1000000 := fun z hz => by
      have := List.all_eq_true.1 hb z hz
      rw [inB_iff] at this
      omega
    exact tri_clo (l.length - 3) l _ ds (by omega) hb' ht
theorem clo_quid {l : List Int} (hn : 3 ≤ l.length ∧ l.length ≤ 12) (hb : ∀ z ∈ l, 1 ≤ z ∧ z ≤ 1000000) (hs : l.sum = 3 * (l.length : Int) - 6) (h : clo (-1) l) : (trOf l).isSome = true := by
  obtain ⟨ds, hd⟩ := clo_tri (l.length - 3) l (nameL l.length) (by omega) hb hs h
  obtain ⟨h1, h2⟩ := triS_tri (l.length - 3) l (nameL l.length) ds (nameL_sorted _) (by omega) (by rw [nameL_length]; omega) (fun v hv => by have := hb v hv; omega) hd
  unfold trOf
  rw [if_pos (by rw [inB_iff]; omega), h1]
  simp only
  rw [if_pos (cnts_quid.1 h2)]
  rfl
def glueL (q : List Int) (at' : Nat) : List Int :=
  let m := q.take at' ++ 1 :: q.drop at'
  let m1 := m.set (at' - 1) (m.getD (at' - 1) 0 + 1)
  m1.set ((at' + 1) % (q.length + 1)) (m1.getD ((at' + 1) % (q.length + 1)) 0 + 1)
def dgL (n : Nat) : List Dg := (List.range n).flatMap fun (a : Nat) => (((List.range n).map fun (b : Nat) => ((a : Int), (b : Int))).filter fun d => inDg n d)
theorem inDg_iff {n : Int} {d : Dg} : inDg n d = true ↔ (0 ≤ d.1 ∧ d.1 ≤ n - 1) ∧ (0 ≤ d.2 ∧ d.2 ≤ n - 1) ∧ d.2 - d.1 > 1 ∧ ¬ (d.1 = 0 ∧ d.2 = n - 1) := by
  unfold inDg
  simp [inB_iff, and_assoc]
  intros
  omega
theorem mem_dgL {n : Nat} {d : Dg} (h : inDg n d = true) : d ∈ dgL n := by
  have h' := inDg_iff.1 h
  unfold dgL
  rw [List.mem_flatMap]
  refine ⟨d.1.toNat, List.mem_range.2 (by omega), List.mem_filter.2 ⟨List.mem_map.2 ⟨d.2.toNat, List.mem_range.2 (by omega), ?_⟩, h⟩⟩
  obtain ⟨a, b⟩ := d
  simp only [Prod.mk.injEq]
  simp only at h'
  omega
theorem trOf_tri {l : List Int} {ds : List Dg} (h : trOf l = some ds) : isTri (l.length : Nat) ds = true ∧ quid l.length ds = l := by
  unfold trOf at h
  split at h
  · rename_i hn
    rw [inB_iff] at hn
    split at h
    · rename_i es hT
      split at h
      · rename_i hq
        obtain rfl := Option.some.inj h
        obtain ⟨g1, g2⟩ := tri_good _ _ _ _ (nameL_sorted _) (by omega) (by rw [nameL_length]; omega) hT
        refine ⟨good_isTri (by omega) (fun m hm => nameL_mem hm) g2 (by omega), ?_⟩
        rw [← hq]
        unfold quid
        simp only [List.length_map, List.length_range]
        refine List.map_congr_left fun p _ => ?_
        rw [cnt_perm (sortD_perm es)]
      · cases h
    · cases h
  · cases h
theorem trOf_bounds {l : List Int} (h : (trOf l).isSome = true) : (3 ≤ l.length ∧ l.length ≤ 12) ∧ ∀ v ∈ l, 1 ≤ v ∧ v ≤ (l.length : Int) - 2 := by
  obtain ⟨ds, e⟩ := Option.isSome_iff_exists.1 h
  obtain ⟨h1, h2⟩ := trOf_tri e
  obtain ⟨g1, g2, g3, g4⟩ := (isTri_iff _ _).1 h1
  refine ⟨by omega, fun v hv => ?_⟩
  rw [← h2] at hv
  obtain ⟨p, hp, e⟩ := List.mem_map.1 hv
  have c1 := cnt_nn ds p
  have c2 : cnt ds p ≤ ds.length := cnt_le fun d hd => by have := inDg_iff.1 (g3 d hd); omega
  omega
theorem sum_range_add (f g : Nat → Int) : ∀ n : Nat, ((List.range n).map fun p => f p + g p).sum = ((List.range n).map f).sum + ((List.range n).map g).sum
  | 0 => by simp
  | n + 1 => by
    have := sum_range_add f g n
    simp only [List.range_succ, List.map_append, List.sum_append, List.map_cons, List.map_nil, List.sum_cons, List.sum_nil]
    omega
theorem sum_range_one (a : Int) : ∀ n : Nat, ((List.range n).map fun p => if a = ((p : Nat) : Int) then (1 : Int) else 0).sum = if 0 ≤ a ∧ a < (n : Int) then 1 else 0
  | 0 => by
    rw [if_neg (by omega)]; rfl
  | n + 1 => by
    have := sum_range_one a n
    simp only [List.range_succ, List.map_append, List.sum_append, List.map_cons, List.map_nil, List.sum_cons, List.sum_nil]
    rw [this]
    split <;> split <;> split <;> omega
theorem sum_cnt (n : Nat) : ∀ ds : List Dg, (∀ d ∈ ds, 0 ≤ d.1 ∧ d.1 < (n : Int) ∧ 0 ≤ d.2 ∧ d.2 < (n : Int)) → ((List.range n).map fun (p : Nat) => cnt ds (p : Int)).sum = 2 * (ds.length : Int)
  | [], _ => by
    have : ∀ n : Nat, ((List.range n).map fun (p : Nat) => cnt [] (p : Int)).sum = 0 := by
      intro n
      induction n with
      | zero => rfl
      | succ n ih => rw [List.range_succ, List.map_append, List.sum_append, ih]; rfl
    rw [this]; rfl
  | d :: t, h => by
    have ih := sum_cnt n t fun e he => h e (by simp [he])
    have hd := h d (by simp)
    have : ((List.range n).map fun (p : Nat) => cnt (d :: t) (p : Int)) = (List.range n).map fun p => ((if d.1 = ((p : Nat) : Int) then (1 : Int) else 0) + (if d.2 = ((p : Nat) : Int) then (1 : Int) else 0)) + cnt t (p : Int) := List.map_congr_left fun p _ => rfl
    rw [this, sum_range_add (fun p => ((if d.1 = ((p : Nat) : Int) then (1 : Int) else 0) + (if d.2 = ((p : Nat) : Int) then (1 : Int) else 0))) (fun p => cnt t (p : Int)), sum_range_add (fun p => if d.1 = ((p : Nat) : Int) then (1 : Int) else 0) (fun p => if d.2 = ((p : Nat) : Int) then (1 : Int) else 0), sum_range_one, sum_range_one, ih, if_pos (by omega), if_pos (by omega), List.length_cons]
    omega
theorem quid_sum {l : List Int} (h : (trOf l).isSome = true) : l.sum = 3 * (l.length : Int) - 6 := by
  obtain ⟨ds, e⟩ := Option.isSome_iff_exists.1 h
  obtain ⟨h1, h2⟩ := trOf_tri e
  obtain ⟨g1, g2, g3, g4⟩ := (isTri_iff _ _).1 h1
  have hs := sum_cnt l.length ds fun d hd => by have := inDg_iff.1 (g3 d hd); omega
  have h3 : l.sum = (quid l.length ds).sum := by rw [h2]
  have h4 : ∀ n : Nat, ((List.range n).map fun (_ : Nat) => (1 : Int)).sum = (n : Int) := by
    intro n
    induction n with
    | zero => rfl
    | succ n ih => simp only [List.range_succ, List.map_append, List.sum_append, ih, List.map_cons, List.map_nil, List.sum_cons, List.sum_nil]; omega
  rw [h3]
  unfold quid
  rw [sum_range_add (fun _ => 1) (fun p => cnt ds (p : Int)), h4, hs]
  omega
theorem set_mid (L R : List Int) (x v : Int) (p : Nat) (hp : p = L.length) : (L ++ x :: R).set p v = L ++ v :: R := by subst hp; simp
theorem glueL_mid (L R : List Int) (x y : Int) : glueL (L ++ x :: y :: R) (L.length + 1) = L ++ (x + 1) :: 1 :: (y + 1) :: R := by
  unfold glueL
  have h1 : (L ++ x :: y :: R).take (L.length + 1) = L ++ [x] := by
    rw [show L ++ x :: y :: R = (L ++ [x]) ++ y :: R by simp, List.take_left' (by simp)]
  have h2 : (L ++ x :: y :: R).drop (L.length + 1) = y :: R := by
    rw [show L ++ x :: y :: R = (L ++ [x]) ++ y :: R by simp, List.drop_left' (by simp)]
  have h3 : (L.length + 1 + 1) % ((L ++ x :: y :: R).length + 1) = L.length + 2 := Nat.mod_eq_of_lt (by simp only [List.length_append, List.length_cons]; omega)
  simp only [h1, h2, h3]
  rw [show L ++ [x] ++ 1 :: y :: R = L ++ x :: 1 :: y :: R by simp, getD_mid L _ x _ (by omega), set_mid L _ x _ _ (by omega)]
  rw [show L ++ (x + 1) :: 1 :: y :: R = (L ++ [x + 1, 1]) ++ y :: R by simp, getD_mid _ _ y _ (by simp), set_mid _ _ y _ _ (by simp)]
  simp
theorem glueL_end (M : List Int) (x z : Int) : glueL (x :: (M ++ [z])) (M.length + 2) = (x + 1) :: (M ++ [z + 1, 1]) := by
  unfold glueL
  have h0 : (x :: (M ++ [z])).length = M.length + 2 := by simp
  have h1 : (x :: (M ++ [z])).take (M.length + 2) = x :: (M ++ [z]) := List.take_of_length_le (by simp)
  have h2 : (x :: (M ++ [z])).drop (M.length + 2) = [] := List.drop_of_length_le (by simp)
  have h3 : (M.length + 2 + 1) % ((x :: (M ++ [z])).length + 1) = 0 := by rw [h0]; exact Nat.mod_self _
  simp only [h1, h2, h3]
  rw [show x :: (M ++ [z]) ++ [1] = (x :: M) ++ z :: [1] by simp, getD_mid _ _ z _ (by simp), set_mid _ _ z _ _ (by simp)]
  simp
theorem glue_quid {q : List Int} {j : Nat} (h : (trOf q).isSome = true) (hn : q.length ≤ 11) (hj : j < q.length) : (trOf (glueL q (j + 1))).isSome = true := by
  obtain ⟨⟨b1, b2⟩, b3⟩ := trOf_bounds h
  have hc := quid_clo h
  have hs := quid_sum h
  by_cases e : j + 1 < q.length
  · obtain ⟨L, x, y, R, rfl, hL⟩ : ∃ L x y R, q = L ++ x :: y :: R ∧ L.length = j := by
      refine ⟨q.take j, q[j], q[j + 1], q.drop (j + 2), ?_, by rw [List.length_take]; omega⟩
      rw [← List.drop_eq_getElem_cons (by omega), ← List.drop_eq_getElem_cons (by omega), List.take_append_drop]
    subst hL
    rw [glueL_mid]
    refine clo_quid ?_ ?_ ?_ ?_
    · simp only [List.length_append, List.length_cons] at b1 b2 hn ⊢; omega
    · intro v hv
      have hx := b3 x (by simp)
      have hy := b3 y (by simp)
      simp only [List.mem_append, List.mem_cons] at hv
      rcases hv with hv | rfl | rfl | rfl | hv
      · have := b3 v (by simp [hv]); omega
      · omega
      · omega
      · omega
      · have := b3 v (by simp [hv]); omega
    · simp only [List.sum_append, List.sum_cons, List.length_append, List.length_cons] at hs ⊢; omega
    · rw [clo_rot, List.cons_append, List.cons_append, List.cons_append, clo_take, Int.add_sub_cancel, Int.add_sub_cancel, ← List.cons_append, ← List.cons_append, ← clo_rot]
      exact hc
  · obtain ⟨x, M, z, rfl⟩ : ∃ x M z, q = x :: (M ++ [z]) := by
      cases q with
      | nil => simp at b1
      | cons x t =>
        rcases List.eq_nil_or_concat t with rfl | ⟨M, z, rfl⟩
        · simp at b1
        · exact ⟨x, M, z, by simp⟩
    have hj' : j + 1 = M.length + 2 := by simp only [List.length_append, List.length_cons, List.length_nil] at hj e; omega
    rw [hj', glueL_end]
    refine clo_quid ?_ ?_ ?_ ?_
    · simp only [List.length_append, List.length_cons, List.length_nil] at b1 b2 hn ⊢; omega
    · intro v hv
      have hx := b3 x (by simp)
      have hz := b3 z (by simp)
      simp only [List.mem_append, List.mem_cons, List.not_mem_nil, or_false] at hv
      rcases hv with rfl | hv | rfl | rfl
      · omega
      · have := b3 v (by simp [hv]); omega
      · omega
      · omega
    · simp only [List.sum_append, List.sum_cons, List.sum_nil, List.length_append, List.length_cons, List.length_nil] at hs ⊢; omega
    · rw [show (x + 1) :: (M ++ [z + 1, 1]) = ((x + 1) :: M) ++ [z + 1, 1] by simp, clo_rot, List.cons_append, List.cons_append, List.nil_append, clo_take, Int.add_sub_cancel, Int.add_sub_cancel,
        show z :: x :: M = [z] ++ (x :: M) by simp, clo_rot]
      simpa using hc
def Gp (o p : List Int) : Prop := o.length = p.length ∧ ∀ i, o.getD i 0 = 0 ∨ o.getD i 0 = p.getD i 0
theorem Gp.refl (p : List Int) : Gp p p := ⟨rfl, fun i => .inr rfl⟩
theorem Gp.trans {o p q : List Int} (h1 : Gp o p) (h2 : Gp p q) : Gp o q := ⟨h1.1.trans h2.1, fun i => by
  rcases h1.2 i with h | h
  · exact .inl h
  · rw [h]; exact h2.2 i⟩
theorem getD_set (l : List Int) (k i : Nat) (v : Int) : (l.set k v).getD i 0 = if k = i ∧ k < l.length then v else l.getD i 0 := by
  rw [List.getD_eq_getElem?_getD, List.getElem?_set]
  by_cases h : k = i
  · subst h
    by_cases h' : k < l.length
    · rw [if_pos rfl, if_pos h', if_pos ⟨rfl, h'⟩]; rfl
    · rw [if_pos rfl, if_neg h', if_neg (by omega), List.getD_eq_getElem?_getD, List.getElem?_eq_none (by omega)]
  · rw [if_neg h, if_neg (by omega), List.getD_eq_getElem?_getD]
theorem Gp.set {o p : List Int} (h : Gp o p) (k : Nat) : Gp (o.set k 0) p := ⟨by rw [List.length_set]; exact h.1, fun i => by
  rw [getD_set]
  split
  · exact .inl rfl
  · exact h.2 i⟩
end Go.Proofs.W
