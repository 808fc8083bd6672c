/- Functions of the program, walked, and what they compute. -/
import Derived.Test.YtigenooglogcfaaIsWk2
set_option linter.unusedVariables false
set_option linter.unusedSimpArgs false
set_option maxRecDepth 100000
set_option maxHeartbeats 4000000
namespace Go.Proofs.W
open Go Go.Gm Go.Proofs
open Go.RowKit Go.Shelf
def i_IsTriangulation_sh : FSh := ⟨[(.one (.si .i64)), (.one (.sl (.pair (.int .i64) (.int .i64)) false false))], []⟩

def i_IsTriangulation_L4_sh : LSh := ⟨(fun ex => match ex with | .norm => [(0, none), (1, none), (17, none), (18, none), (19, none)] | .exit i => if i = 0 then [] else [] | .ret => [(4, none)]), [(0, (.one (.si .i64))), (1, (.one (.sl (.pair (.int .i64) (.int .i64)) false false))), (17, (.one (.sl (.pair (.int .i64) (.int .i64)) false false))), (18, (.one (.si .i64))), (19, (.one (.si .i64)))], [], [⟨.ret, [(4, (.one .sb))], []⟩, ⟨(.exit 0), [], []⟩], [], []⟩
noncomputable def i_IsTriangulation_L4_step : (Int × List ((Int × Int)) × List ((Int × Int)) × Int × Int) → T ((Int × List ((Int × Int)) × List ((Int × Int)) × Int × Int) ⊕ (Bool ⊕ Unit)) := fun (n, ds, t17, t18, t19) =>
  (.test (decide (t19 < t18))
  (.test (decide ((0 ≤ t19) ∧ (t19 < ((List.length t17) : Int))))
   (.sub (t17[(Int.toNat t19)]?) fun z0 =>
    (.sub (i_isDiagonal (n, (z0.1, z0.2))) fun z1 =>
    (.test (! z1)
    (.ret (Sum.inr (Sum.inl false)))
    (.test (decide (t19 > 0))
     (.test (decide ((0 ≤ (w64 (t19 - 1))) ∧ ((w64 (t19 - 1)) < ((List.length ds) : Int))))
      (.sub (ds[(Int.toNat (w64 (t19 - 1)))]?) fun z2 =>
       (.sub (i_compareDiagonals ((z2.1, z2.2), (z0.1, z0.2))) fun z3 =>
       (.test (decide (z3 ≥ 0))
       (.ret (Sum.inr (Sum.inl false)))
       (.test (decide (0 ≤ t19))
        (.test (decide ((0 ≤ (Int.toNat t19)) ∧ ((Int.toNat t19) ≤ (List.length ds))))
         (.sub (slices_ContainsFunc_Diagonal__i_IsTriangulation_1 (((win ds 0 ((Int.toNat t19) - 0)), ()), (z0.1, z0.2))) fun z4 =>
          (.test z4.1
          (.ret (Sum.inr (Sum.inl false)))
          (.ret (Sum.inl (n, (ds, (t17, (t18, (w64 (t19 + 1))))))))))
         .fail)
        .fail))))
      .fail)
     (.test (decide (0 ≤ t19))
      (.test (decide ((0 ≤ (Int.toNat t19)) ∧ ((Int.toNat t19) ≤ (List.length ds))))
       (.sub (slices_ContainsFunc_Diagonal__i_IsTriangulation_1 (((win ds 0 ((Int.toNat t19) - 0)), ()), (z0.1, z0.2))) fun z5 =>
        (.test z5.1
        (.ret (Sum.inr (Sum.inl false)))
        (.ret (Sum.inl (n, (ds, (t17, (t18, (w64 (t19 + 1))))))))))
       .fail)
      .fail)))))
   .fail)
  (.ret (Sum.inr (Sum.inr ()))))
noncomputable def i_IsTriangulation_L4 (v : (Int × List ((Int × Int)) × List ((Int × Int)) × Int × Int)) : Option (Bool ⊕ Unit) := loopO (fun v => (i_IsTriangulation_L4_step v).run) v

def i_IsTriangulation_fo : List FO := [⟨[(.one .sb)], []⟩]
noncomputable def i_IsTriangulation_t : (Int × List ((Int × Int))) → T Bool := fun (n, ds) =>
  (.sub (i_isPolygon n) fun z0 =>
  (.test (! z0)
  (.ret false)
  (.test (((List.length ds) : Int) != (w64 (n - 3)))
   (.ret false)
   (.sub (i_IsTriangulation_L4 (n, (ds, (ds, (((List.length ds) : Int), (0 : Int)))))) fun z1 =>
    (.test (Sum.isLeft z1)
    (.sub (Sum.getLeft? z1) fun z2 =>
     (.ret z2))
    (.sub (Sum.getRight? z1) fun z3 =>
     (.ret true)))))))
noncomputable def i_IsTriangulation (v : (Int × List ((Int × Int)))) : Option Bool := (i_IsTriangulation_t v).run
noncomputable def i_IsTriangulation_E : TEnv := ((((E0.add1 n_i_isPolygon i_isPolygon_sh i_isPolygon_fo i_isPolygon).add1 n_i_isDiagonal i_isDiagonal_sh i_isDiagonal_fo i_isDiagonal).add1 n_i_compareDiagonals i_compareDiagonals_sh i_compareDiagonals_fo i_compareDiagonals).add1 n_slices_ContainsFunc_Diagonal slices_ContainsFunc_Diagonal__i_IsTriangulation_1_sh slices_ContainsFunc_Diagonal__i_IsTriangulation_1_fo slices_ContainsFunc_Diagonal__i_IsTriangulation_1)
theorem i_IsTriangulation_Eok : (i_IsTriangulation_E).OK := ((((E0ok.add1 i_isPolygon_ok).add1 i_isDiagonal_ok).add1 i_compareDiagonals_ok).add1 slices_ContainsFunc_Diagonal__i_IsTriangulation_1_ok)
noncomputable def i_IsTriangulation_told : Nat → Option SealT := fun id => if id = 4 then some (LSh.told i_IsTriangulation_L4_sh 0 (i_IsTriangulation_L4_step)) else none
theorem i_IsTriangulation_L4_ok : ToldOK Try.prog 0 (loopAt (bodyOf fn_i_IsTriangulation) [0]) (LSh.told i_IsTriangulation_L4_sh 0 (i_IsTriangulation_L4_step)) :=
  loop_ok (E := i_IsTriangulation_E) (i_IsTriangulation_Eok) (told := i_IsTriangulation_told) (l := i_IsTriangulation_L4_sh) (step := i_IsTriangulation_L4_step) (loopsOK_of (ls := []) (by kernel_rfl) trivial) (by kernel_rfl) (fun v => by kernel_rfl)
theorem i_IsTriangulation_ok : FOK Try.prog n_i_IsTriangulation i_IsTriangulation_sh i_IsTriangulation_fo i_IsTriangulation :=
  fn_ok (E := i_IsTriangulation_E) (i_IsTriangulation_Eok) (told := i_IsTriangulation_told) (fl := []) (c := bodyOf fn_i_IsTriangulation) (s := i_IsTriangulation_sh) (l := i_IsTriangulation_fo) (tree := i_IsTriangulation_t) fnat_i_IsTriangulation (by kernel_rfl) (by kernel_rfl) (by kernel_rfl) (loopsOK_of (ls := [loopAt (bodyOf fn_i_IsTriangulation) [0]]) (by kernel_rfl) ⟨.inr ⟨_, by kernel_rfl, i_IsTriangulation_L4_ok⟩, trivial⟩) (fun v => by kernel_rfl)

theorem i_IsTriangulation_eq (n : Int) (ds : List Dg) (hl : ds.length < 4611686018427387904) : i_IsTriangulation (n, ds) = some (isTri n ds) := by
  simp only [i_IsTriangulation, i_IsTriangulation_t, T.run, i_isPolygon, i_isPolygon_t, i_within_eq, Option.bind_some, isTri]
  cases hn : inB 3 12 n with
  | false => simp
  | true =>
    rw [inB_iff] at hn
    rw [w64_id (z := n - 3) (by omega) (by omega)]
    by_cases he : (ds.length : Int) = n - 3
    · have h := loop_any (step := fun v => (i_IsTriangulation_L4_step v).run) (xs := List.range ds.length) (badT n ds) (fun k => (n, (ds, (ds, ((ds.length : Int), (k : Int)))))) (.inl false) (.inr ())
        (fun k x hx => by
          obtain ⟨hk, e⟩ := List.getElem?_eq_some_iff.1 hx
          simp only [List.getElem_range] at e
          subst e
          rw [List.length_range] at hk
          have g0 := gD_some hk
          have c0 : (k : Int) < (ds.length : Int) := by omega
          have c1 : (0 : Int) ≤ (k : Int) ∧ (k : Int) < (ds.length : Int) := by omega
          have w1 : w64 ((k : Int) + 1) = ((k + 1 : Nat) : Int) := by rw [w64_id (by omega) (by omega)]; omega
          have c2 : 0 ≤ k ∧ k ≤ ds.length := by omega
          have c3 : (0 : Int) ≤ (k : Int) := by omega
          have tw : win ds 0 (k - 0) = ds.take k := win_take _ _
          have hlt : (ds.take k).length < 4611686018427387904 := by simp; omega
          simp only [i_IsTriangulation_L4_step, T.run, c0, c1, c2, c3, decide_true, if_true, and_self, Int.toNat_natCast, g0, Option.bind_some, i_isDiagonal_eq n (gD ds k) (by omega) (by omega), tw, slices_ContainsFunc_Diagonal__i_IsTriangulation_1_eq _ (gD ds k) hlt, w1, badT]
          rcases Bool.eq_false_or_eq_true (inDg n (gD ds k)) with hd | hd
          rotate_left
          · simp [hd]
          · simp only [hd]
            by_cases hk0 : 0 < k
            · have w2 : w64 ((k : Int) - 1) = ((k - 1 : Nat) : Int) := by rw [w64_id (by omega) (by omega)]; omega
              have c4 : (0 : Int) ≤ ((k - 1 : Nat) : Int) ∧ ((k - 1 : Nat) : Int) < (ds.length : Int) := by omega
              have g1 := gD_some (show k - 1 < ds.length by omega)
              have c5 : (k : Int) > 0 := by omega
              simp only [w2, c4, c5, decide_true, if_true, and_self, Int.toNat_natCast, g1, Option.bind_some, i_compareDiagonals_eq, cmpD_ge, hk0]
              cases ltD (gD ds (k - 1)) (gD ds k) <;> simp
              cases (ds.take k).any (crossD (gD ds k)) <;> simp
            · have c5 : ¬ (k : Int) > 0 := by omega
              simp only [c5, decide_false, hk0, if_false]
              cases (ds.take k).any (crossD (gD ds k)) <;> simp)
        (by simp [i_IsTriangulation_L4_step, T.run])
      rw [show ((0 : Nat) : Int) = 0 from rfl] at h
      have he' : ((ds.length : Int) != n - 3) = false := by simp [he]
      simp only [i_IsTriangulation_L4, h, he', decide_eq_true he]
      cases (List.range ds.length).any (badT n ds) <;> simp
    · simp [he]


def math_bits_Mul_sh : FSh := ⟨[.one (.si .u64), .one (.si .u64)], []⟩
def math_bits_Mul_fo : List FO := [⟨[.one (.si .u64), .one (.si .u64)], []⟩]
def math_bits_Mul (v : Int × Int) : Option (Int × Int) := if 0 ≤ v.1 ∧ v.1 < 18446744073709551616 ∧ 0 ≤ v.2 ∧ v.2 < 18446744073709551616 then some (((v.1.toNat * v.2.toNat / 18446744073709551616 : Nat) : Int), ((v.1.toNat * v.2.toNat % 18446744073709551616 : Nat) : Int)) else none
def math_bits_Mul_ren : Shelf.Ren := ⟨fun k => if k = 212 then n_math_bits_Mul else if k = 263 then 147 else 148, fun t => if t = 46 then 98 else if t = 51 then 118 else if t = 146 then 136 else if t = 148 then 138 else 120, fun x => x⟩
theorem math_bits_Mul_lay : Lays.n212 Try.prog math_bits_Mul_ren :=
  { mixed := by kernel_rfl, f212 := by kernel_rfl, f263 := by kernel_rfl, f264 := by kernel_rfl, t46 := by kernel_rfl, a46 := fun w => by kernel_rfl, z46 := fun w => by kernel_rfl, v46 := fun w => by kernel_rfl, t51 := by kernel_rfl, a51 := fun w => by kernel_rfl, z51 := fun w => by kernel_rfl, v51 := fun w => by kernel_rfl, t53 := by kernel_rfl, a53 := fun w => by kernel_rfl, z53 := fun w => by kernel_rfl, v53 := fun w => by kernel_rfl, t146 := by kernel_rfl, a146 := fun w => by kernel_rfl, z146 := fun w => by kernel_rfl, v146 := fun w => by kernel_rfl, t148 := by kernel_rfl, a148 := fun w => by kernel_rfl, z148 := fun w => by kernel_rfl, v148 := fun w => by kernel_rfl }
theorem math_bits_Mul_ok : FOK Try.prog n_math_bits_Mul math_bits_Mul_sh math_bits_Mul_fo math_bits_Mul :=
  bitsMul_ok ⟨_, fnat_math_bits_Mul, by kernel_rfl, by kernel_rfl⟩ (ρr := math_bits_Mul_ren) rfl math_bits_Mul_lay

def slices_Repeat_int_sh : FSh := ⟨[(.one (.sl (.int .i64) false false)), (.one (.si .i64))], []⟩

def slices_Repeat_int_L8_sh : LSh := ⟨(fun ex => match ex with | .norm => [(7, none), (8, none)] | .exit i => if i = 0 then [(7, none)] else [] | .ret => [(4, none)]), [(7, (.one (.rw 0 0))), (8, (.one (.si .i64)))], [(.row 0 (.int .i64))], [⟨(.exit 0), [(7, (.one (.rw 0 0)))], [(.row 0 (.int .i64))]⟩], [], []⟩
noncomputable def slices_Repeat_int_L8_step : ((Unit × Int) × List (Int)) → T (((Unit × Int) × List (Int)) ⊕ (Unit × List (Int))) := fun (((), n), newslice) =>
  (.test (decide (n < ((List.length newslice) : Int)))
  (.test (decide (0 ≤ n))
   (.test (decide (((Int.toNat n) ≤ (List.length newslice)) ∧ ((List.length newslice) ≤ (List.length newslice))))
    (.test (decide (0 ≤ n))
     (.test (decide ((0 ≤ (Int.toNat n)) ∧ ((Int.toNat n) ≤ (List.length newslice))))
      (.test (decide ((0 + ((Int.toNat n) - 0)) ≤ (List.length newslice)))
       (.test (decide ((0 < (min (List.length (win newslice 0 ((Int.toNat n) - 0))) ((List.length newslice) - (Int.toNat n)))) ∧ (((0 + (Int.toNat n)) + ((List.length newslice) - (Int.toNat n))) ≤ (List.length newslice))))
        (.test (decide ((0 = 0) ∧ ((List.length newslice) = (List.length (spliceT newslice (0 + (Int.toNat n)) (List.take (min (List.length (win newslice 0 ((Int.toNat n) - 0))) ((List.length newslice) - (Int.toNat n))) (win newslice 0 ((Int.toNat n) - 0))))))))
         (.ret (Sum.inl (((), (w64 (n + (((min (List.length (win newslice 0 ((Int.toNat n) - 0))) ((List.length newslice) - (Int.toNat n))) : Nat) : Int)))), (spliceT newslice (0 + (Int.toNat n)) (List.take (min (List.length (win newslice 0 ((Int.toNat n) - 0))) ((List.length newslice) - (Int.toNat n))) (win newslice 0 ((Int.toNat n) - 0)))))))
         .fail)
        .fail)
       .fail)
      .fail)
     .fail)
    .fail)
   .fail)
  (.test (decide ((0 = 0) ∧ ((List.length newslice) = (List.length newslice))))
   (.ret (Sum.inr ((), newslice)))
   .fail))
noncomputable def slices_Repeat_int_L8 (v : ((Unit × Int) × List (Int))) : Option (Unit × List (Int)) := loopO (fun v => (slices_Repeat_int_L8_step v).run) v

def slices_Repeat_int_fo : List FO := [⟨[(.one (.rw 0 0))], [(.row 0 (.int .i64))]⟩]
noncomputable def slices_Repeat_int_t : (List (Int) × Int) → T (Unit × List (Int)) := fun (x, count) =>
  (.test (decide (count < 0))
  .fail
  (.sub (math_bits_Mul ((wu64 ((List.length x) : Int)), (wu64 count))) fun z0 =>
   (.test (decide (z0.1 > 0))
   .fail
   (.test (decide (z0.2 > 9223372036854775807))
    .fail
    (.test (decide ((0 ≤ (w64 z0.2)) ∧ (((w64 z0.2) ≤ (w64 z0.2)) ∧ (((Int.toNat (w64 z0.2)) * 9) ≤ 140737488355328))))
     (.test (decide ((0 < (min (List.length x) (Int.toNat (w64 z0.2)))) ∧ ((0 + (Int.toNat (w64 z0.2))) ≤ (List.length (List.replicate (Int.toNat (w64 z0.2)) (0 : Int))))))
      (.test (decide ((0 = 0) ∧ ((Int.toNat (w64 z0.2)) = (List.length (spliceT (List.replicate (Int.toNat (w64 z0.2)) (0 : Int)) 0 (List.take (min (List.length x) (Int.toNat (w64 z0.2))) x))))))
       (.sub (slices_Repeat_int_L8 (((), (((min (List.length x) (Int.toNat (w64 z0.2))) : Nat) : Int)), (spliceT (List.replicate (Int.toNat (w64 z0.2)) (0 : Int)) 0 (List.take (min (List.length x) (Int.toNat (w64 z0.2))) x)))) fun z1 =>
        (.test (decide ((0 = 0) ∧ ((List.length z1.2) = (List.length z1.2))))
        (.ret ((), z1.2))
        .fail))
       .fail)
      .fail)
     .fail)))))
noncomputable def slices_Repeat_int (v : (List (Int) × Int)) : Option (Unit × List (Int)) := (slices_Repeat_int_t v).run
noncomputable def slices_Repeat_int_E : TEnv := (E0.add1 n_math_bits_Mul math_bits_Mul_sh math_bits_Mul_fo math_bits_Mul)
theorem slices_Repeat_int_Eok : (slices_Repeat_int_E).OK := (E0ok.add1 math_bits_Mul_ok)
noncomputable def slices_Repeat_int_told : Nat → Option SealT := fun id => if id = 8 then some (LSh.told slices_Repeat_int_L8_sh 0 (slices_Repeat_int_L8_step)) else none
theorem slices_Repeat_int_L8_ok : ToldOK Try.prog 0 (loopAt (bodyOf fn_slices_Repeat_int) [0]) (LSh.told slices_Repeat_int_L8_sh 0 (slices_Repeat_int_L8_step)) :=
  loop_ok (E := slices_Repeat_int_E) (slices_Repeat_int_Eok) (told := slices_Repeat_int_told) (l := slices_Repeat_int_L8_sh) (step := slices_Repeat_int_L8_step) (loopsOK_of (ls := []) (by kernel_rfl) trivial) (by kernel_rfl) (fun v => by kernel_rfl)
theorem slices_Repeat_int_ok : FOK Try.prog n_slices_Repeat_int slices_Repeat_int_sh slices_Repeat_int_fo slices_Repeat_int :=
  fn_ok (E := slices_Repeat_int_E) (slices_Repeat_int_Eok) (told := slices_Repeat_int_told) (fl := []) (c := bodyOf fn_slices_Repeat_int) (s := slices_Repeat_int_sh) (l := slices_Repeat_int_fo) (tree := slices_Repeat_int_t) fnat_slices_Repeat_int (by kernel_rfl) (by kernel_rfl) (by kernel_rfl) (loopsOK_of (ls := [loopAt (bodyOf fn_slices_Repeat_int) [0]]) (by kernel_rfl) ⟨.inr ⟨_, by kernel_rfl, slices_Repeat_int_L8_ok⟩, trivial⟩) (fun v => by kernel_rfl)

theorem slices_Repeat_int_one (n : Nat) (h1 : 1 ≤ n) (h2 : n ≤ 1000000) : slices_Repeat_int ([1], (n : Int)) = some ((), List.replicate n 1) := by
  have hm : math_bits_Mul (wu64 (([1] : List Int).length : Int), wu64 (n : Int)) = some (0, (n : Int)) := by
    have e1 : wu64 (([1] : List Int).length : Int) = 1 := IntWalk.u64_in _ ⟨by simp, by simp⟩
    have e2 : wu64 (n : Int) = (n : Int) := IntWalk.u64_in _ ⟨by omega, by omega⟩
    rw [e1, e2]
    unfold math_bits_Mul
    simp only []
    rw [if_pos ⟨by omega, by omega, by omega, by omega⟩]
    have t1 : (1 : Int).toNat = 1 := rfl
    rw [t1, Int.toNat_natCast, Nat.one_mul, Nat.div_eq_of_lt (by omega), Nat.mod_eq_of_lt (by omega)]
    rfl
  have hl : ∀ m k, k + m = n → 1 ≤ k → slices_Repeat_int_L8 (((), (k : Int)), List.replicate k 1 ++ List.replicate (n - k) 0) = some ((), List.replicate n 1) := by
    intro m
    induction m using Nat.strongRecOn with
    | ind m ih =>
      intro k hk hk1
      have hlen : (List.replicate k (1 : Int) ++ List.replicate (n - k) 0).length = n := by simp; omega
      by_cases hm : m = 0
      · have : k = n := by omega
        subst this
        rw [Nat.sub_self, List.replicate_zero, List.append_nil]
        simp only [slices_Repeat_int_L8]
        exact loopO_done (by simp [slices_Repeat_int_L8_step, T.run])
      · have ih := ih (m - min k (n - k)) (by omega) (k + min k (n - k)) (by omega) (by omega)
        simp only [slices_Repeat_int_L8] at ih ⊢
        rw [← ih]
        refine loopO_next ?_
        have c0 : (k : Int) < (n : Int) := by omega
        have c1 : (0 : Int) ≤ (k : Int) := by omega
        have c2 : k ≤ n ∧ n ≤ n := by omega
        have c3 : 0 ≤ k ∧ k ≤ n := by omega
        have tw : win (List.replicate k (1 : Int) ++ List.replicate (n - k) 0) 0 (k - 0) = List.replicate k 1 := by
          rw [win_take, Nat.sub_zero, List.take_left' (by simp)]
        have c4 : 0 + (k - 0) ≤ n := by omega
        have c5 : 0 < min k (n - k) ∧ 0 + k + (n - k) ≤ n := by omega
        have w1 : w64 ((k : Int) + ((min k (n - k) : Nat) : Int)) = ((k + min k (n - k) : Nat) : Int) := by rw [w64_id (by omega) (by omega)]; omega
        have sp : spliceT (List.replicate k (1 : Int) ++ List.replicate (n - k) 0) (0 + k) (List.take (min k (n - k)) (List.replicate k 1)) = List.replicate (k + min k (n - k)) 1 ++ List.replicate (n - (k + min k (n - k))) 0 := by
          unfold spliceT
          rw [Nat.zero_add, List.take_left' (by simp), List.take_replicate, List.length_replicate, List.drop_append, List.drop_replicate, List.drop_replicate, List.length_replicate]
          rw [show k - (k + min (min k (n - k)) k) = 0 by omega, show min (min k (n - k)) k = min k (n - k) by omega, show n - k - (k + min k (n - k) - k) = n - (k + min k (n - k)) by omega, List.replicate_zero, List.nil_append, ← List.append_assoc, List.replicate_append_replicate]
        have lsp : n = (List.replicate (k + min k (n - k)) (1 : Int) ++ List.replicate (n - (k + min k (n - k))) 0).length := by simp; omega
        simp only [slices_Repeat_int_L8_step, T.run, hlen, c0, c1, c2, c3, c4, c5, decide_true, if_true, and_self, Int.toNat_natCast, tw, List.length_replicate, sp, w1]
        rw [← lsp]
        simp
  simp only [slices_Repeat_int, slices_Repeat_int_t, T.run, hm, Option.bind_some]
  have w1 : w64 (n : Int) = (n : Int) := w64_id (by omega) (by omega)
  have c0 : ¬ ((n : Int) < 0) := by omega
  have c1 : ¬ ((n : Int) > 9223372036854775807) := by omega
  have c2 : 0 ≤ (n : Int) ∧ (n : Int) ≤ (n : Int) ∧ n * 9 ≤ 140737488355328 := by omega
  have m1 : min ([1] : List Int).length n = 1 := by simp; omega
  have sp : spliceT (List.replicate n (0 : Int)) 0 (List.take 1 [1]) = List.replicate 1 1 ++ List.replicate (n - 1) 0 := by
    unfold spliceT
    simp
  have lsp : n = (List.replicate 1 (1 : Int) ++ List.replicate (n - 1) 0).length := by simp; omega
  simp only [c0, c1, w1, decide_false, Bool.false_eq_true, if_false, Int.toNat_natCast, c2, and_self, decide_true, if_true, m1, sp, hl (n - 1) 1 (by omega) (Nat.le_refl 1), Option.bind_some]
  simp only [List.length_replicate, Nat.zero_add]
  rw [← lsp]
  simp


def i_quiddity_sh : FSh := ⟨[(.one (.si .i64)), (.one (.sl (.pair (.int .i64) (.int .i64)) false false))], []⟩

def i_quiddity_L3_sh : LSh := ⟨(fun ex => match ex with | .norm => [(5, none), (11, none), (12, none), (13, none)] | .exit i => if i = 0 then [(5, none)] else [] | .ret => [(4, none)]), [(5, (.one (.rw 0 0))), (11, (.one (.sl (.pair (.int .i64) (.int .i64)) false false))), (12, (.one (.si .i64))), (13, (.one (.si .i64)))], [(.row 0 (.int .i64))], [⟨(.exit 0), [(5, (.one (.rw 0 0)))], [(.row 0 (.int .i64))]⟩], [], []⟩
noncomputable def i_quiddity_L3_step : ((Unit × List ((Int × Int)) × Int × Int) × List (Int)) → T (((Unit × List ((Int × Int)) × Int × Int) × List (Int)) ⊕ (Unit × List (Int))) := fun (((), t11, t12, t13), out) =>
  (.test (decide (t13 < t12))
  (.test (decide ((0 ≤ t13) ∧ (t13 < ((List.length t11) : Int))))
   (.sub (t11[(Int.toNat t13)]?) fun z0 =>
    (.test (decide ((0 ≤ z0.1) ∧ (z0.1 < ((List.length out) : Int))))
    (.sub (out[(0 + (Int.toNat z0.1))]?) fun z1 =>
     (.test (decide ((0 ≤ z0.1) ∧ (z0.1 < ((List.length out) : Int))))
     (.sub (out[(0 + (Int.toNat z0.1))]?) fun z2 =>
      (.test (decide ((0 ≤ z0.2) ∧ (z0.2 < ((List.length out) : Int))))
      (.sub ((List.set out (0 + (Int.toNat z0.1)) (w64 (z1 + 1)))[(0 + (Int.toNat z0.2))]?) fun z3 =>
       (.test (decide ((0 ≤ z0.2) ∧ (z0.2 < ((List.length out) : Int))))
       (.sub ((List.set out (0 + (Int.toNat z0.1)) (w64 (z1 + 1)))[(0 + (Int.toNat z0.2))]?) fun z4 =>
        (.test (decide ((0 = 0) ∧ ((List.length out) = (List.length (List.set (List.set out (0 + (Int.toNat z0.1)) (w64 (z1 + 1))) (0 + (Int.toNat z0.2)) (w64 (z3 + 1)))))))
        (.ret (Sum.inl (((), (t11, (t12, (w64 (t13 + 1))))), (List.set (List.set out (0 + (Int.toNat z0.1)) (w64 (z1 + 1))) (0 + (Int.toNat z0.2)) (w64 (z3 + 1))))))
        .fail))
       .fail))
      .fail))
     .fail))
    .fail))
   .fail)
  (.test (decide ((0 = 0) ∧ ((List.length out) = (List.length out))))
   (.ret (Sum.inr ((), out)))
   .fail))
noncomputable def i_quiddity_L3 (v : ((Unit × List ((Int × Int)) × Int × Int) × List (Int))) : Option (Unit × List (Int)) := loopO (fun v => (i_quiddity_L3_step v).run) v

def i_quiddity_fo : List FO := [⟨[(.one (.rw 0 0))], [(.row 0 (.int .i64))]⟩]
noncomputable def i_quiddity_t : (Int × List ((Int × Int))) → T (Unit × List (Int)) := fun (n, ds) =>
  (.test true
  (.sub (slices_Repeat_int ((win (List.set (List.replicate 1 (0 : Int)) 0 (1 : Int)) 0 1), n)) fun z0 =>
   (.test (decide ((0 = 0) ∧ ((List.length z0.2) = (List.length z0.2))))
   (.sub (i_quiddity_L3 (((), (ds, (((List.length ds) : Int), (0 : Int)))), z0.2)) fun z1 =>
    (.test (decide ((0 = 0) ∧ ((List.length z1.2) = (List.length z1.2))))
    (.ret ((), z1.2))
    .fail))
   .fail))
  .fail)
noncomputable def i_quiddity (v : (Int × List ((Int × Int)))) : Option (Unit × List (Int)) := (i_quiddity_t v).run
noncomputable def i_quiddity_E : TEnv := (E0.add1 n_slices_Repeat_int slices_Repeat_int_sh slices_Repeat_int_fo slices_Repeat_int)
theorem i_quiddity_Eok : (i_quiddity_E).OK := (E0ok.add1 slices_Repeat_int_ok)
noncomputable def i_quiddity_told : Nat → Option SealT := fun id => if id = 3 then some (LSh.told i_quiddity_L3_sh 0 (i_quiddity_L3_step)) else none
theorem i_quiddity_L3_ok : ToldOK Try.prog 0 (loopAt (bodyOf fn_i_quiddity) [0]) (LSh.told i_quiddity_L3_sh 0 (i_quiddity_L3_step)) :=
  loop_ok (E := i_quiddity_E) (i_quiddity_Eok) (told := i_quiddity_told) (l := i_quiddity_L3_sh) (step := i_quiddity_L3_step) (loopsOK_of (ls := []) (by kernel_rfl) trivial) (by kernel_rfl) (fun v => by kernel_rfl)
theorem i_quiddity_ok : FOK Try.prog n_i_quiddity i_quiddity_sh i_quiddity_fo i_quiddity :=
  fn_ok (E := i_quiddity_E) (i_quiddity_Eok) (told := i_quiddity_told) (fl := []) (c := bodyOf fn_i_quiddity) (s := i_quiddity_sh) (l := i_quiddity_fo) (tree := i_quiddity_t) fnat_i_quiddity (by kernel_rfl) (by kernel_rfl) (by kernel_rfl) (loopsOK_of (ls := [loopAt (bodyOf fn_i_quiddity) [0]]) (by kernel_rfl) ⟨.inr ⟨_, by kernel_rfl, i_quiddity_L3_ok⟩, trivial⟩) (fun v => by kernel_rfl)

theorem i_quiddity_eq (n : Nat) (ds : List Dg) (hn : 1 ≤ n ∧ n ≤ 1000000) (hl : ds.length < 1000000) (h : ∀ d ∈ ds, 0 ≤ d.1 ∧ d.1 < d.2 ∧ d.2 < (n : Int)) : i_quiddity ((n : Int), ds) = some ((), quid n ds) := by
  have hl' := loop_fold (step := fun v => (i_quiddity_L3_step v).run) (xs := ds) (fun k (s : List Int) => s.length = n ∧ ∀ p, p < n → 0 ≤ s.getD p 0 ∧ s.getD p 0 ≤ k + 1) (fun k s => (((), (ds, ((ds.length : Int), (k : Int)))), s)) bumpD (fun s => ((), s))
    (fun k s d hP hd => by
      obtain ⟨hs, hb⟩ := hP
      have hlt := getElem?_lt hd
      obtain ⟨q1, q2, q3⟩ := h d (List.mem_of_getElem? hd)
      refine ⟨?_, by rw [bumpD_length, hs], fun p hp => ?_⟩
      · have c0 : (k : Int) < (ds.length : Int) := by omega
        have c1 : (0 : Int) ≤ (k : Int) ∧ (k : Int) < (ds.length : Int) := by omega
        have w1 : w64 ((k : Int) + 1) = ((k + 1 : Nat) : Int) := by rw [w64_id (by omega) (by omega)]; omega
        have c2 : 0 ≤ d.1 ∧ d.1 < (s.length : Int) := by omega
        have c3 : 0 ≤ d.2 ∧ d.2 < (s.length : Int) := by omega
        have b1 := hb d.1.toNat (by omega)
        have b2 := hb d.2.toNat (by omega)
        have g1 : s[d.1.toNat]? = some (s.getD d.1.toNat 0) := by rw [List.getD_eq_getElem?_getD, List.getElem?_eq_getElem (by omega)]; rfl
        have g2 : s[d.2.toNat]? = some (s.getD d.2.toNat 0) := by rw [List.getD_eq_getElem?_getD, List.getElem?_eq_getElem (by omega)]; rfl
        have w2 : w64 (s.getD d.1.toNat 0 + 1) = s.getD d.1.toNat 0 + 1 := w64_id (by omega) (by omega)
        have w3 : w64 (s.getD d.2.toNat 0 + 1) = s.getD d.2.toNat 0 + 1 := w64_id (by omega) (by omega)
        have g3 : (s.set d.1.toNat (s.getD d.1.toNat 0 + 1))[d.2.toNat]? = some (s.getD d.2.toNat 0) := by rw [List.getElem?_set_ne (by omega)]; exact g2
        simp only [i_quiddity_L3_step, T.run, c0, c1, c2, c3, decide_true, if_true, and_self, Int.toNat_natCast, hd, Option.bind_some, Nat.zero_add, g1, w2, g3, w3, w1]
        simp [bumpD]
      · rw [bumpD_get q1 q2 (by omega) (by omega)]
        have := hb p hp
        have : 0 ≤ cntD d p ∧ cntD d p ≤ 1 := by unfold cntD; split <;> split <;> omega
        omega)
    (fun s hs => by simp [i_quiddity_L3_step, T.run])
    (List.replicate n 1) ⟨by simp, fun p hp => by rw [List.getD_eq_getElem?_getD, List.getElem?_replicate, if_pos hp]; simp⟩
  have hq : ds.foldl bumpD (List.replicate n 1) = quid n ds := by
    obtain ⟨f1, f2⟩ := bump_fold n ds (List.replicate n 1) (by simp) h
    refine List.ext_getElem (by rw [f1]; simp [quid]) fun p hp _ => ?_
    have := f2 p (by omega)
    rw [List.getD_eq_getElem?_getD, List.getElem?_eq_getElem hp, List.getD_eq_getElem?_getD, List.getElem?_replicate, if_pos (by omega)] at this
    simp only [Option.getD_some] at this
    rw [this]
    simp [quid]
  simp only [Int.natCast_zero] at hl'
  have hw : win (List.set (List.replicate 1 (0 : Int)) 0 (1 : Int)) 0 1 = [1] := rfl
  simp only [i_quiddity, i_quiddity_t, T.run, hw, slices_Repeat_int_one n hn.1 hn.2, Option.bind_some, i_quiddity_L3]
  rw [hl'.1, hq]
  simp


def i_triangulation_sh : FSh := ⟨[(.one (.sl (.int .i64) false false))], []⟩

def i_triangulation_L5_sh : LSh := ⟨(fun ex => match ex with | .norm => [(0, none), (4, none), (5, none), (6, none), (24, none), (25, none)] | .exit i => if i = 0 then [(0, none), (4, none), (5, none), (6, none)] else [] | .ret => [(2, none), (3, none)]), [(0, (.one (.sl (.int .i64) false false))), (4, (.one (.rw 0 0))), (5, (.one (.rw 1 0))), (6, (.one (.rw 2 0))), (24, (.one (.si .i64))), (25, (.one (.si .i64)))], [(.row 0 (.int .i64)), (.row 0 (.int .i64)), (.row 0 (.pair (.int .i64) (.int .i64)))], [⟨(.exit 0), [(0, (.one (.sl (.int .i64) false false))), (4, (.one (.rw 0 0))), (5, (.one (.rw 1 0))), (6, (.one (.rw 2 0)))], [(.row 0 (.int .i64)), (.row 0 (.int .i64)), (.row 0 (.pair (.int .i64) (.int .i64)))]⟩], [], []⟩
noncomputable def i_triangulation_L5_step : ((List (Int) × Unit × Unit × Unit × Int × Int) × (List (Int) × List (Int) × List ((Int × Int)))) → T (((List (Int) × Unit × Unit × Unit × Int × Int) × (List (Int) × List (Int) × List ((Int × Int)))) ⊕ ((List (Int) × Unit × Unit × Unit) × (List (Int) × List (Int) × List ((Int × Int))))) := fun ((list, (), (), (), t24, t25), (left, names, out)) =>
  (.test (decide (t25 < t24))
  (.test (decide (1 ≤ (List.length (List.set (List.replicate 1 (0 : Int)) 0 t25))))
   (.test (decide ((0 + (List.length names)) ≤ (List.length names)))
    (.test (decide ((2 * (((List.length names) + (List.length (win (List.set (List.replicate 1 (0 : Int)) 0 t25) 0 1))) * 9)) ≤ 140737488355328))
     (.test (decide ((0 = 0) ∧ ((List.length left) = (List.length left))))
      (.test (decide ((0 = 0) ∧ (((List.length names) + (List.length (win (List.set (List.replicate 1 (0 : Int)) 0 t25) 0 1))) = (List.length ((win names 0 (List.length names)) ++ (win (List.set (List.replicate 1 (0 : Int)) 0 t25) 0 1))))))
       (.test (decide ((0 = 0) ∧ ((List.length out) = (List.length out))))
        (.ret (Sum.inl ((list, ((), ((), ((), (t24, (w64 (t25 + 1))))))), (left, (((win names 0 (List.length names)) ++ (win (List.set (List.replicate 1 (0 : Int)) 0 t25) 0 1)), out)))))
        .fail)
       .fail)
      .fail)
     .fail)
    .fail)
   .fail)
  (.test (decide ((0 = 0) ∧ ((List.length left) = (List.length left))))
   (.test (decide ((0 = 0) ∧ ((List.length names) = (List.length names))))
    (.test (decide ((0 = 0) ∧ ((List.length out) = (List.length out))))
     (.ret (Sum.inr ((list, ((), ((), ()))), (left, (names, out)))))
     .fail)
    .fail)
   .fail))
noncomputable def i_triangulation_L5 (v : ((List (Int) × Unit × Unit × Unit × Int × Int) × (List (Int) × List (Int) × List ((Int × Int))))) : Option ((List (Int) × Unit × Unit × Unit) × (List (Int) × List (Int) × List ((Int × Int)))) := loopO (fun v => (i_triangulation_L5_step v).run) v

def i_triangulation_L10_sh : LSh := ⟨(fun ex => match ex with | .norm => [(0, none), (4, none), (5, none), (6, none), (8, none)] | .exit i => if i = 2 then [(0, none), (4, none), (6, none)] else [] | .ret => [(2, none), (3, none)]), [(0, (.one (.sl (.int .i64) false false))), (4, (.one (.rw 0 0))), (5, (.one (.rw 1 0))), (6, (.one (.rw 2 0))), (8, (.one (.si .i64)))], [(.row 0 (.int .i64)), (.row 0 (.int .i64)), (.row 0 (.pair (.int .i64) (.int .i64)))], [⟨.ret, [(2, (.one (.rw 0 0))), (3, (.one .sb))], [(.row 0 (.pair (.int .i64) (.int .i64)))]⟩, ⟨(.exit 2), [(0, (.one (.sl (.int .i64) false false))), (4, (.one (.rw 0 0))), (6, (.one (.rw 1 0)))], [(.row 0 (.int .i64)), (.row 0 (.pair (.int .i64) (.int .i64)))]⟩], [], []⟩
noncomputable def i_triangulation_L10_step : ((List (Int) × Unit × Unit × Unit × Int) × (List (Int) × List (Int) × List ((Int × Int)))) → T (((List (Int) × Unit × Unit × Unit × Int) × (List (Int) × List (Int) × List ((Int × Int)))) ⊕ (((Unit × Bool) × List ((Int × Int))) ⊕ ((List (Int) × Unit × Unit) × (List (Int) × List ((Int × Int)))))) := fun ((list, (), (), (), n), (left, names, out)) =>
  (.test (decide (n > 3))
  (.test (decide ((0 + (List.length left)) ≤ (List.length left)))
   (.sub (slices_Index_int ((win left 0 (List.length left)), (1 : Int))) fun z0 =>
    (.test (decide (z0 < 0))
    (.test true
     (.ret (Sum.inr (Sum.inl (((), false), ([] : List (Int × Int))))))
     .fail)
    (.test (decide (n ≠ 0))
     (.test (decide (n ≠ 0))
      (.test (decide ((0 ≤ (Int.tmod (w64 ((w64 (z0 + n)) - 1)) n)) ∧ ((Int.tmod (w64 ((w64 (z0 + n)) - 1)) n) < ((List.length left) : Int))))
       (.sub (left[(0 + (Int.toNat (Int.tmod (w64 ((w64 (z0 + n)) - 1)) n)))]?) fun z1 =>
        (.test (decide ((0 ≤ (Int.tmod (w64 ((w64 (z0 + n)) - 1)) n)) ∧ ((Int.tmod (w64 ((w64 (z0 + n)) - 1)) n) < ((List.length left) : Int))))
        (.sub (left[(0 + (Int.toNat (Int.tmod (w64 ((w64 (z0 + n)) - 1)) n)))]?) fun z2 =>
         (.test (decide ((0 ≤ (Int.tmod (w64 (z0 + 1)) n)) ∧ ((Int.tmod (w64 (z0 + 1)) n) < ((List.length left) : Int))))
         (.sub ((List.set left (0 + (Int.toNat (Int.tmod (w64 ((w64 (z0 + n)) - 1)) n))) (w64 (z1 - 1)))[(0 + (Int.toNat (Int.tmod (w64 (z0 + 1)) n)))]?) fun z3 =>
          (.test (decide ((0 ≤ (Int.tmod (w64 (z0 + 1)) n)) ∧ ((Int.tmod (w64 (z0 + 1)) n) < ((List.length left) : Int))))
          (.sub ((List.set left (0 + (Int.toNat (Int.tmod (w64 ((w64 (z0 + n)) - 1)) n))) (w64 (z1 - 1)))[(0 + (Int.toNat (Int.tmod (w64 (z0 + 1)) n)))]?) fun z4 =>
           (.test (decide ((0 ≤ (Int.tmod (w64 ((w64 (z0 + n)) - 1)) n)) ∧ ((Int.tmod (w64 ((w64 (z0 + n)) - 1)) n) < ((List.length names) : Int))))
           (.sub (names[(0 + (Int.toNat (Int.tmod (w64 ((w64 (z0 + n)) - 1)) n)))]?) fun z5 =>
            (.test (decide ((0 ≤ (Int.tmod (w64 (z0 + 1)) n)) ∧ ((Int.tmod (w64 (z0 + 1)) n) < ((List.length names) : Int))))
            (.sub (names[(0 + (Int.toNat (Int.tmod (w64 (z0 + 1)) n)))]?) fun z6 =>
             (.test (decide (1 ≤ (List.length (List.set (List.replicate 1 ((0 : Int), (0 : Int))) 0 ((if (z6 < z5) then z6 else z5), (if (z6 > z5) then z6 else z5))))))
             (.test (decide ((0 + (List.length out)) ≤ (List.length out)))
              (.test (decide ((2 * (((List.length out) + (List.length (win (List.set (List.replicate 1 ((0 : Int), (0 : Int))) 0 ((if (z6 < z5) then z6 else z5), (if (z6 > z5) then z6 else z5))) 0 1))) * 17)) ≤ 140737488355328))
               (.test (decide ((0 = 0) ∧ ((List.length left) = (List.length (List.set (List.set left (0 + (Int.toNat (Int.tmod (w64 ((w64 (z0 + n)) - 1)) n))) (w64 (z1 - 1))) (0 + (Int.toNat (Int.tmod (w64 (z0 + 1)) n))) (w64 (z3 - 1)))))))
                (.sub (slices_Delete_int (((), (z0, (w64 (z0 + 1)))), (List.set (List.set left (0 + (Int.toNat (Int.tmod (w64 ((w64 (z0 + n)) - 1)) n))) (w64 (z1 - 1))) (0 + (Int.toNat (Int.tmod (w64 (z0 + 1)) n))) (w64 (z3 - 1))))) fun z7 =>
                 (.test (decide ((0 = 0) ∧ ((List.length names) = (List.length names))))
                 (.sub (slices_Delete_int (((), (z0, (w64 (z0 + 1)))), names)) fun z8 =>
                  (.test (decide ((0 = 0) ∧ ((List.length z7.2) = (List.length z7.2))))
                  (.test (decide ((0 = 0) ∧ ((List.length z8.2) = (List.length z8.2))))
                   (.test (decide ((0 = 0) ∧ (((List.length out) + (List.length (win (List.set (List.replicate 1 ((0 : Int), (0 : Int))) 0 ((if (z6 < z5) then z6 else z5), (if (z6 > z5) then z6 else z5))) 0 1))) = (List.length ((win out 0 (List.length out)) ++ (win (List.set (List.replicate 1 ((0 : Int), (0 : Int))) 0 ((if (z6 < z5) then z6 else z5), (if (z6 > z5) then z6 else z5))) 0 1))))))
                    (.ret (Sum.inl ((list, ((), ((), ((), (w64 (n - 1)))))), (z7.2, (z8.2, ((win out 0 (List.length out)) ++ (win (List.set (List.replicate 1 ((0 : Int), (0 : Int))) 0 ((if (z6 < z5) then z6 else z5), (if (z6 > z5) then z6 else z5))) 0 1)))))))
                    .fail)
                   .fail)
                  .fail))
                 .fail))
                .fail)
               .fail)
              .fail)
             .fail))
            .fail))
           .fail))
          .fail))
         .fail))
        .fail))
       .fail)
      .fail)
     .fail)))
   .fail)
  (.test (decide ((0 = 0) ∧ ((List.length left) = (List.length left))))
   (.test (decide ((0 = 0) ∧ ((List.length out) = (List.length out))))
    (.ret (Sum.inr (Sum.inr ((list, ((), ())), (left, out)))))
    .fail)
   .fail))
noncomputable def i_triangulation_L10 (v : ((List (Int) × Unit × Unit × Unit × Int) × (List (Int) × List (Int) × List ((Int × Int))))) : Option (((Unit × Bool) × List ((Int × Int))) ⊕ ((List (Int) × Unit × Unit) × (List (Int) × List ((Int × Int))))) := loopO (fun v => (i_triangulation_L10_step v).run) v

def i_triangulation_fo : List FO := [⟨[(.one (.rw 0 0)), (.one .sb)], [(.row 0 (.pair (.int .i64) (.int .i64)))]⟩]
noncomputable def i_triangulation_t : List (Int) → T ((Unit × Bool) × List ((Int × Int))) := fun list =>
  (.sub (i_isPolygon ((List.length list) : Int)) fun z0 =>
  (.test (! z0)
  (.test true
   (.ret (((), false), ([] : List (Int × Int))))
   .fail)
  (.sub (slices_Clone_int list) fun z1 =>
   (.test (decide ((0 = 0) ∧ ((List.length z1.2) = (List.length z1.2))))
   (.test (decide ((0 = 0) ∧ (0 = (List.length (List.replicate 0 (0 : Int))))))
    (.test (decide ((0 = 0) ∧ (0 = (List.length (List.replicate 0 ((0 : Int), (0 : Int)))))))
     (.sub (i_triangulation_L5 ((list, ((), ((), ((), (((List.length list) : Int), (0 : Int)))))), (z1.2, ((List.replicate 0 (0 : Int)), (List.replicate 0 ((0 : Int), (0 : Int))))))) fun z2 =>
      (.test (decide ((0 = 0) ∧ ((List.length z2.2.1) = (List.length z2.2.1))))
      (.test (decide ((0 = 0) ∧ ((List.length z2.2.2.1) = (List.length z2.2.2.1))))
       (.test (decide ((0 = 0) ∧ ((List.length z2.2.2.2) = (List.length z2.2.2.2))))
        (.sub (i_triangulation_L10 ((z2.1.1, ((), ((), ((), ((List.length z2.2.1) : Int))))), (z2.2.1, (z2.2.2.1, z2.2.2.2)))) fun z3 =>
         (.test (Sum.isLeft z3)
         (.sub (Sum.getLeft? z3) fun z4 =>
          (.test (decide ((0 = 0) ∧ ((List.length z4.2) = (List.length z4.2))))
          (.ret (((), z4.1.2), z4.2))
          .fail))
         (.sub (Sum.getRight? z3) fun z5 =>
          (.test (decide ((0 = 0) ∧ ((List.length z5.2.2) = (List.length z5.2.2))))
          (.sub (slices_SortFunc_Diagonal__i_compareDiagonals (((), ()), z5.2.2)) fun z6 =>
           (.test (decide ((0 + (List.length z5.2.1)) ≤ (List.length z5.2.1)))
           (.test true
            (.sub (slices_Equal_int ((win z5.2.1 0 (List.length z5.2.1)), (win (List.set (List.set (List.set (List.replicate 3 (0 : Int)) 0 (1 : Int)) 1 (1 : Int)) 2 (1 : Int)) 0 3))) fun z7 =>
             (.test (! z7)
             (.test true
              (.ret (((), false), ([] : List (Int × Int))))
              .fail)
             (.test (decide ((0 + (List.length z5.2.2)) ≤ (List.length z6.2)))
              (.sub (i_IsTriangulation (((List.length z5.1.1) : Int), (win z6.2 0 (List.length z5.2.2)))) fun z8 =>
               (.test (! z8)
               (.test true
                (.ret (((), false), ([] : List (Int × Int))))
                .fail)
               (.test (decide ((0 + (List.length z5.2.2)) ≤ (List.length z6.2)))
                (.sub (i_quiddity (((List.length z5.1.1) : Int), (win z6.2 0 (List.length z5.2.2)))) fun z9 =>
                 (.test (decide ((0 + (List.length z9.2)) ≤ (List.length z9.2)))
                 (.sub (slices_Equal_int ((win z9.2 0 (List.length z9.2)), z5.1.1)) fun z10 =>
                  (.test (! z10)
                  (.test true
                   (.ret (((), false), ([] : List (Int × Int))))
                   .fail)
                  (.test (decide ((0 = 0) ∧ ((List.length z5.2.2) = (List.length z6.2))))
                   (.ret (((), true), z6.2))
                   .fail)))
                 .fail))
                .fail)))
              .fail)))
            .fail)
           .fail))
          .fail))))
        .fail)
       .fail)
      .fail))
     .fail)
    .fail)
   .fail))))
noncomputable def i_triangulation (v : List (Int)) : Option ((Unit × Bool) × List ((Int × Int))) := (i_triangulation_t v).run
noncomputable def i_triangulation_E : TEnv := ((((((((E0.add1 n_i_isPolygon i_isPolygon_sh i_isPolygon_fo i_isPolygon).add1 n_slices_Clone_int slices_Clone_int_sh slices_Clone_int_fo slices_Clone_int).add1 n_slices_Index_int slices_Index_int_sh slices_Index_int_fo slices_Index_int).add1 n_slices_Delete_int slices_Delete_int_sh slices_Delete_int_fo slices_Delete_int).add1 n_slices_SortFunc_Diagonal slices_SortFunc_Diagonal__i_compareDiagonals_sh slices_SortFunc_Diagonal__i_compareDiagonals_fo slices_SortFunc_Diagonal__i_compareDiagonals).add1 n_slices_Equal_int slices_Equal_int_sh slices_Equal_int_fo slices_Equal_int).add1 n_i_IsTriangulation i_IsTriangulation_sh i_IsTriangulation_fo i_IsTriangulation).add1 n_i_quiddity i_quiddity_sh i_quiddity_fo i_quiddity)
theorem i_triangulation_Eok : (i_triangulation_E).OK := ((((((((E0ok.add1 i_isPolygon_ok).add1 slices_Clone_int_ok).add1 slices_Index_int_ok).add1 slices_Delete_int_ok).add1 slices_SortFunc_Diagonal__i_compareDiagonals_ok).add1 slices_Equal_int_ok).add1 i_IsTriangulation_ok).add1 i_quiddity_ok)
noncomputable def i_triangulation_told : Nat → Option SealT := fun id => if id = 5 then some (LSh.told i_triangulation_L5_sh 0 (i_triangulation_L5_step)) else if id = 10 then some (LSh.told i_triangulation_L10_sh 0 (i_triangulation_L10_step)) else none
theorem i_triangulation_L5_ok : ToldOK Try.prog 0 (loopAt (bodyOf fn_i_triangulation) [0]) (LSh.told i_triangulation_L5_sh 0 (i_triangulation_L5_step)) :=
  loop_ok (E := i_triangulation_E) (i_triangulation_Eok) (told := i_triangulation_told) (l := i_triangulation_L5_sh) (step := i_triangulation_L5_step) (loopsOK_of (ls := []) (by kernel_rfl) trivial) (by kernel_rfl) (fun v => by kernel_rfl)
theorem i_triangulation_L10_ok : ToldOK Try.prog 0 (loopAt (bodyOf fn_i_triangulation) [1]) (LSh.told i_triangulation_L10_sh 0 (i_triangulation_L10_step)) :=
  loop_ok (E := i_triangulation_E) (i_triangulation_Eok) (told := i_triangulation_told) (l := i_triangulation_L10_sh) (step := i_triangulation_L10_step) (loopsOK_of (ls := []) (by kernel_rfl) trivial) (by kernel_rfl) (fun v => by kernel_rfl)
theorem i_triangulation_ok : FOK Try.prog n_i_triangulation i_triangulation_sh i_triangulation_fo i_triangulation :=
  fn_ok (E := i_triangulation_E) (i_triangulation_Eok) (told := i_triangulation_told) (fl := []) (c := bodyOf fn_i_triangulation) (s := i_triangulation_sh) (l := i_triangulation_fo) (tree := i_triangulation_t) fnat_i_triangulation (by kernel_rfl) (by kernel_rfl) (by kernel_rfl) (loopsOK_of (ls := [loopAt (bodyOf fn_i_triangulation) [0], loopAt (bodyOf fn_i_triangulation) [1]]) (by kernel_rfl) ⟨.inr ⟨_, by kernel_rfl, i_triangulation_L5_ok⟩, ⟨.inr ⟨_, by kernel_rfl, i_triangulation_L10_ok⟩, trivial⟩⟩) (fun v => by kernel_rfl)

theorem i_triangulation_names (l left : List Int) (out : List Dg) (hl : l.length < 1000000) : i_triangulation_L5 ((l, ((), ((), ((), ((l.length : Int), (0 : Int)))))), (left, ([], out))) = some ((l, ((), ((), ()))), (left, (nameL l.length, out))) := by
  have key : ∀ m k, k + m = l.length → i_triangulation_L5 ((l, ((), ((), ((), ((l.length : Int), (k : Int)))))), (left, (nameL k, out))) = some ((l, ((), ((), ()))), (left, (nameL l.length, out))) := by
    intro m
    induction m with
    | zero =>
      intro k hk
      have : k = l.length := by omega
      subst this
      simp only [i_triangulation_L5]
      exact loopO_done (by simp [i_triangulation_L5_step, T.run])
    | succ m ih =>
      intro k hk
      have ih := ih (k + 1) (by omega)
      simp only [i_triangulation_L5] at ih ⊢
      rw [← ih]
      refine loopO_next ?_
      have c0 : (k : Int) < (l.length : Int) := by omega
      have w1 : w64 ((k : Int) + 1) = ((k + 1 : Nat) : Int) := by rw [w64_id (by omega) (by omega)]; omega
      have hw : win (nameL k) 0 k = nameL k := by have := win_all (nameL k); rwa [nameL_length] at this
      have c1 : 2 * ((k + 1) * 9) ≤ 140737488355328 := by omega
      have hs : nameL k ++ [(k : Int)] = nameL (k + 1) := (nameL_succ k).symm
      simp only [i_triangulation_L5_step, T.run, c0, decide_true, if_true, win_one, nameL_length, hw, w1, List.length_cons, List.length_nil, c1, hs, Nat.zero_add]
      simp [c1]
  simpa [nameL] using key l.length 0 (by omega)
theorem i_triangulation_cut (list left names : List Int) (out : List Dg) (k i : Nat) (hk : k < 100000) (hl : left.length = k + 4) (hn : names.length = k + 4) (ho : out.length < 100000) (he : ear left = some i) :
    (i_triangulation_L10_step ((list, ((), ((), ((), (left.length : Int))))), (left, (names, out)))).run = some (.inl ((list, ((), ((), ((), ((k + 3 : Nat) : Int))))), (cutL left i, (names.eraseIdx i, out ++ [cutD names i])))) := by
  obtain ⟨hi, _⟩ := ear_lt he
  obtain ⟨n1, n2, n3, n4, n5, n6⟩ := nb_facts (by omega : 3 ≤ left.length) hi
  obtain ⟨t1, t2⟩ := nb_tmod (by omega : 3 ≤ left.length) (by omega) hi
  have hidx := slices_Index_int_eq left 1 (by omega)
  have hii : idxI (fun x => (1 : Int) == x) left = (i : Int) := by unfold idxI; unfold ear at he; rw [he]
  have c0 : (left.length : Int) > 3 := by omega
  have c1 : ¬ ((i : Int) < 0) := by omega
  have c2 : (left.length : Int) ≠ 0 := by omega
  have c3 : (0 : Int) ≤ (nbB left.length i : Int) ∧ (nbB left.length i : Int) < (left.length : Int) := by omega
  have c4 : (0 : Int) ≤ (nbC left.length i : Int) ∧ (nbC left.length i : Int) < (left.length : Int) := by omega
  have c5 : (0 : Int) ≤ (nbB left.length i : Int) ∧ (nbB left.length i : Int) < (names.length : Int) := by omega
  have c6 : (0 : Int) ≤ (nbC left.length i : Int) ∧ (nbC left.length i : Int) < (names.length : Int) := by omega
  have g1 := set_getD n1
  have g2 : (left.set (nbB left.length i) (w64 (left.getD (nbB left.length i) 0 - 1)))[nbC left.length i]? = some ((decAt left (nbB left.length i)).getD (nbC left.length i) 0) := set_getD (by simpa using n2)
  have g3 := set_getD (l := names) (p := nbB left.length i) (by omega)
  have g4 := set_getD (l := names) (p := nbC left.length i) (by omega)
  have w1 : w64 ((i : Int) + 1) = ((i + 1 : Nat) : Int) := by rw [w64_id (by omega) (by omega)]; omega
  rw [w1] at t2
  have w2 : w64 ((left.length : Int) - 1) = ((k + 3 : Nat) : Int) := by rw [w64_id (by omega) (by omega)]; omega
  have hD : ∀ a b : Int, ((if b < a then b else a), (if b > a then b else a)) = (min a b, max a b) := by
    intro a b
    rw [Prod.mk.injEq]
    constructor <;> split <;> omega
  have hD' : (min (names.getD (nbB left.length i) 0) (names.getD (nbC left.length i) 0), max (names.getD (nbB left.length i) 0) (names.getD (nbC left.length i) 0)) = cutD names i := by unfold cutD; rw [hl, hn]
  have hd1 : slices_Delete_int (((), ((i : Int), ((i + 1 : Nat) : Int))), decAt (decAt left (nbB left.length i)) (nbC left.length i)) = some ((), cutL left i) := by
    unfold slices_Delete_int
    rw [if_pos ⟨by simp only []; omega, by simp only []; omega, by simp only [decAt_length]; omega, by simp only [decAt_length]; omega⟩]
    simp only [Int.toNat_natCast, take_drop_erase]
    rfl
  have hd2 : slices_Delete_int (((), ((i : Int), ((i + 1 : Nat) : Int))), names) = some ((), names.eraseIdx i) := by
    unfold slices_Delete_int
    rw [if_pos ⟨by simp only []; omega, by simp only []; omega, by simp only []; omega, by simp only []; omega⟩]
    simp only [Int.toNat_natCast, take_drop_erase]
  have c7 : 2 * ((out.length + 1) * 17) ≤ 140737488355328 := by omega
  have l1 : left.length = (decAt (decAt left (nbB left.length i)) (nbC left.length i)).length := by rw [decAt_length, decAt_length]
  have e1 : left.set (nbB left.length i) (w64 (left.getD (nbB left.length i) 0 - 1)) = decAt left (nbB left.length i) := rfl
  have e2 : (decAt left (nbB left.length i)).set (nbC left.length i) (w64 ((decAt left (nbB left.length i)).getD (nbC left.length i) 0 - 1)) = decAt (decAt left (nbB left.length i)) (nbC left.length i) := rfl
  rw [e1] at g2
  simp only [i_triangulation_L10_step, T.run, c0, decide_true, if_true, Nat.zero_add, Nat.le_refl, win_all, hidx, hii, Option.bind_some, c1, decide_false, Bool.false_eq_true, if_false, c2, ne_eq, not_false_eq_true, t1, t2, c3, c4, c5, c6, and_self, Int.toNat_natCast, g1, e1, g2, g3, g4, e2, hD, hD', win_one, w1, w2, hd1, hd2, ← l1]
  simp [c7]
theorem i_triangulation_cuts (list : List Int) : ∀ (k : Nat) (left names : List Int) (out : List Dg), k < 1000 → left.length = k + 3 → names.length = k + 3 → out.length + k < 10000 →
    i_triangulation_L10 ((list, ((), ((), ((), (left.length : Int))))), (left, (names, out))) = some (match triW k left names with
      | none => .inl (((), false), [])
      | some r => .inr ((list, ((), ())), (r.1, out ++ r.2)))
  | 0, left, names, out, hk, hl, hn, ho => by
    simp only [i_triangulation_L10, triW]
    refine loopO_done ?_
    have c0 : ¬ ((left.length : Int) > 3) := by omega
    simp [i_triangulation_L10_step, T.run, c0]
  | k + 1, left, names, out, hk, hl, hn, ho => by
    cases he : ear left with
    | none =>
      have hidx := slices_Index_int_eq left 1 (by omega)
      have hii : idxI (fun x => (1 : Int) == x) left = -1 := by unfold idxI; unfold ear at he; rw [he]
      have c0 : (left.length : Int) > 3 := by omega
      simp only [i_triangulation_L10, triW, he]
      refine loopO_done ?_
      simp only [i_triangulation_L10_step, T.run, c0, decide_true, if_true, Nat.zero_add, Nat.le_refl, win_all, hidx, hii, Option.bind_some]
      simp
    | some i =>
      have st := i_triangulation_cut list left names out k i (by omega) (by omega) (by omega) (by omega) he
      have hlc := cutL_length (ear_lt he).1
      have ih := i_triangulation_cuts list k (cutL left i) (names.eraseIdx i) (out ++ [cutD names i]) (by omega) (by omega) (by rw [List.length_eraseIdx, if_pos (by have := (ear_lt he).1; omega)]; omega) (by simp; omega)
      rw [show (cutL left i).length = k + 3 by omega] at ih
      simp only [i_triangulation_L10, triW, he] at ih ⊢
      rw [loopO_next st, ih]
      cases triW k (cutL left i) (names.eraseIdx i) with
      | none => rfl
      | some r => simp
theorem i_triangulation_eq (l : List Int) (hl : l.length < 4611686018427387904) : i_triangulation l = some (match trOf l with | some ds => (((), true), ds) | none => (((), false), [])) := by
  simp only [i_triangulation, i_triangulation_t, T.run, i_isPolygon, i_isPolygon_t, i_within_eq, Option.bind_some]
  cases hn : inB 3 12 (l.length : Int) with
  | false => simp [trOf, hn]
  | true =>
    have hn' := inB_iff.1 hn
    have hc : slices_Clone_int l = some ((), l) := by
      unfold slices_Clone_int
      rw [if_pos]
      exact ⟨by unfold maxLen; omega, by omega⟩
    have h5 := i_triangulation_names l l [] (by omega)
    have h10 := i_triangulation_cuts l (l.length - 3) l (nameL l.length) [] (by omega) (by omega) (by rw [nameL_length]; omega) (by simp; omega)
    have htri := tri_W (l.length - 3) l (nameL l.length)
    simp only [Bool.not_true, Bool.false_eq_true, if_false, hc, Option.bind_some, List.replicate_zero, List.length_nil, true_and, decide_true, if_true, h5, h10]
    unfold trOf
    rw [hn, htri]
    cases hW : triW (l.length - 3) l (nameL l.length) with
    | none => simp
    | some r =>
      obtain ⟨l3, ds⟩ := r
      obtain ⟨g1, g2⟩ := triW_len _ _ _ _ (by omega) hW
      simp only at g1 g2
      have hs := slices_SortFunc_Diagonal__i_compareDiagonals_eq ds (by omega)
      have hls := sortD_length ds
      have hw3 : win (List.set (List.set (List.set (List.replicate 3 (0 : Int)) 0 (1 : Int)) 1 (1 : Int)) 2 (1 : Int)) 0 3 = [1, 1, 1] := rfl
      have heq := slices_Equal_int_eq l3 [1, 1, 1] (by omega)
      have hws : win (sortD ds) 0 ds.length = sortD ds := by rw [← hls]; exact win_all _
      simp only [if_true, Sum.isLeft, Sum.getRight?, Option.bind_some, Bool.false_eq_true, if_false, List.nil_append, hs, Nat.zero_add, Nat.le_refl, decide_true, win_all, hw3, heq, hls, hws, true_and]
      by_cases h3 : l3 = [1, 1, 1]
      · have hT : tri (l.length - 3) l (nameL l.length) = some ds := by rw [htri, hW]; simp [h3]
        obtain ⟨q1, q2⟩ := tri_good _ _ _ _ (nameL_sorted _) (by omega) (by rw [nameL_length]; omega) hT
        have hti := good_isTri (n := l.length) ⟨by omega, by omega⟩ (fun m hm => nameL_mem hm) q2 (by omega)
        have hit := i_IsTriangulation_eq (l.length : Int) (sortD ds) (by omega)
        rw [hti] at hit
        have hqd := i_quiddity_eq l.length (sortD ds) ⟨by omega, by omega⟩ (by omega) (fun d hd => by
          obtain ⟨a1, a2, a3, _⟩ := q2.1 d ((sortD_perm ds).mem_iff.1 hd)
          have := nameL_mem a1
          have := nameL_mem a2
          omega)
        have hqs : quid l.length (sortD ds) = quid l.length ds := by
          unfold quid
          exact List.map_congr_left fun p _ => by rw [cnt_perm (sortD_perm ds)]
        have hqe := slices_Equal_int_eq (quid l.length ds) l (by simp [quid]; omega)
        simp only [h3, decide_true, Bool.not_true, Bool.false_eq_true, if_false, hit, Option.bind_some, hqd, hqs, win_all, hqe, Nat.le_refl, if_true]
        by_cases hq : quid l.length ds = l <;> simp [hq]
      · simp [h3]


def i_IsQuiddity_sh : FSh := ⟨[(.one (.sl (.int .i64) false false))], []⟩

def i_IsQuiddity_fo : List FO := [⟨[(.one .sb)], []⟩]
noncomputable def i_IsQuiddity_t : List (Int) → T Bool := fun quiddity =>
  (.sub (i_triangulation quiddity) fun z0 =>
  (.ret z0.1.2))
noncomputable def i_IsQuiddity (v : List (Int)) : Option Bool := (i_IsQuiddity_t v).run
noncomputable def i_IsQuiddity_E : TEnv := (E0.add1 n_i_triangulation i_triangulation_sh i_triangulation_fo i_triangulation)
theorem i_IsQuiddity_Eok : (i_IsQuiddity_E).OK := (E0ok.add1 i_triangulation_ok)
noncomputable def i_IsQuiddity_told : Nat → Option SealT := fun id => none
theorem i_IsQuiddity_ok : FOK Try.prog n_i_IsQuiddity i_IsQuiddity_sh i_IsQuiddity_fo i_IsQuiddity :=
  fn_ok (E := i_IsQuiddity_E) (i_IsQuiddity_Eok) (told := i_IsQuiddity_told) (fl := []) (c := bodyOf fn_i_IsQuiddity) (s := i_IsQuiddity_sh) (l := i_IsQuiddity_fo) (tree := i_IsQuiddity_t) fnat_i_IsQuiddity (by kernel_rfl) (by kernel_rfl) (by kernel_rfl) (loopsOK_of (ls := []) (by kernel_rfl) trivial) (fun v => by kernel_rfl)

theorem i_IsQuiddity_eq (l : List Int) (hl : l.length < 4611686018427387904) : i_IsQuiddity l = some (trOf l).isSome := by
  simp only [i_IsQuiddity, i_IsQuiddity_t, T.run, i_triangulation_eq l hl, Option.bind_some]
  cases trOf l <;> rfl


def i_Puzzle_isSolution_1_sh : FSh := ⟨[(.one (.si .i64)), (.one (.si .i64))], []⟩

def i_Puzzle_isSolution_1_fo : List FO := [⟨[(.one .sb)], []⟩]
noncomputable def i_Puzzle_isSolution_1_t : (Int × Int) → T Bool := fun (given, k) =>
  (.test (given == 0)
  (.ret true)
  (.ret (given == k)))
noncomputable def i_Puzzle_isSolution_1 (v : (Int × Int)) : Option Bool := (i_Puzzle_isSolution_1_t v).run
noncomputable def i_Puzzle_isSolution_1_E : TEnv := E0
theorem i_Puzzle_isSolution_1_Eok : (i_Puzzle_isSolution_1_E).OK := E0ok
noncomputable def i_Puzzle_isSolution_1_told : Nat → Option SealT := fun id => none
theorem i_Puzzle_isSolution_1_ok : FOK Try.prog n_i_Puzzle_isSolution_1 i_Puzzle_isSolution_1_sh i_Puzzle_isSolution_1_fo i_Puzzle_isSolution_1 :=
  fn_ok (E := i_Puzzle_isSolution_1_E) (i_Puzzle_isSolution_1_Eok) (told := i_Puzzle_isSolution_1_told) (fl := []) (c := bodyOf fn_i_Puzzle_isSolution_1) (s := i_Puzzle_isSolution_1_sh) (l := i_Puzzle_isSolution_1_fo) (tree := i_Puzzle_isSolution_1_t) fnat_i_Puzzle_isSolution_1 (by kernel_rfl) (by kernel_rfl) (by kernel_rfl) (loopsOK_of (ls := []) (by kernel_rfl) trivial) (fun v => by kernel_rfl)

def slices_EqualFunc_int__i_Puzzle_isSolution_1_sh : FSh := ⟨[(.one (.sl (.int .i64) false false)), (.one (.sl (.int .i64) false false)), (.one (.fn n_i_Puzzle_isSolution_1))], []⟩

def slices_EqualFunc_int__i_Puzzle_isSolution_1_L4_sh : LSh := ⟨(fun ex => match ex with | .norm => [(1, none), (2, none), (15, none), (16, none), (17, none)] | .exit i => if i = 0 then [] else [] | .ret => [(6, none)]), [(1, (.one (.sl (.int .i64) false false))), (2, (.one (.fn n_i_Puzzle_isSolution_1))), (15, (.one (.sl (.int .i64) false false))), (16, (.one (.si .i64))), (17, (.one (.si .i64)))], [], [⟨.ret, [(6, (.one .sb))], []⟩, ⟨(.exit 0), [], []⟩], [], []⟩
noncomputable def slices_EqualFunc_int__i_Puzzle_isSolution_1_L4_step : (List (Int) × Unit × List (Int) × Int × Int) → T ((List (Int) × Unit × List (Int) × Int × Int) ⊕ (Bool ⊕ Unit)) := fun (s2, (), t15, t16, t17) =>
  (.test (decide (t17 < t16))
  (.test (decide ((0 ≤ t17) ∧ (t17 < ((List.length t15) : Int))))
   (.sub (t15[(Int.toNat t17)]?) fun z0 =>
    (.test (decide ((0 ≤ t17) ∧ (t17 < ((List.length s2) : Int))))
    (.sub (s2[(Int.toNat t17)]?) fun z1 =>
     (.sub (i_Puzzle_isSolution_1 (z0, z1)) fun z2 =>
     (.test (! z2)
     (.ret (Sum.inr (Sum.inl false)))
     (.ret (Sum.inl (s2, ((), (t15, (t16, (w64 (t17 + 1)))))))))))
    .fail))
   .fail)
  (.ret (Sum.inr (Sum.inr ()))))
noncomputable def slices_EqualFunc_int__i_Puzzle_isSolution_1_L4 (v : (List (Int) × Unit × List (Int) × Int × Int)) : Option (Bool ⊕ Unit) := loopO (fun v => (slices_EqualFunc_int__i_Puzzle_isSolution_1_L4_step v).run) v

def slices_EqualFunc_int__i_Puzzle_isSolution_1_fo : List FO := [⟨[(.one .sb)], []⟩]
noncomputable def slices_EqualFunc_int__i_Puzzle_isSolution_1_t : (List (Int) × List (Int) × Unit) → T Bool := fun (s1, s2, ()) =>
  (.test (((List.length s1) : Int) != ((List.length s2) : Int))
  (.ret false)
  (.sub (slices_EqualFunc_int__i_Puzzle_isSolution_1_L4 (s2, ((), (s1, (((List.length s1) : Int), (0 : Int)))))) fun z0 =>
   (.test (Sum.isLeft z0)
   (.sub (Sum.getLeft? z0) fun z1 =>
    (.ret z1))
   (.sub (Sum.getRight? z0) fun z2 =>
    (.ret true)))))
noncomputable def slices_EqualFunc_int__i_Puzzle_isSolution_1 (v : (List (Int) × List (Int) × Unit)) : Option Bool := (slices_EqualFunc_int__i_Puzzle_isSolution_1_t v).run
noncomputable def slices_EqualFunc_int__i_Puzzle_isSolution_1_E : TEnv := (E0.add1 n_i_Puzzle_isSolution_1 i_Puzzle_isSolution_1_sh i_Puzzle_isSolution_1_fo i_Puzzle_isSolution_1)
theorem slices_EqualFunc_int__i_Puzzle_isSolution_1_Eok : (slices_EqualFunc_int__i_Puzzle_isSolution_1_E).OK := (E0ok.add1 i_Puzzle_isSolution_1_ok)
noncomputable def slices_EqualFunc_int__i_Puzzle_isSolution_1_told : Nat → Option SealT := fun id => if id = 4 then some (LSh.told slices_EqualFunc_int__i_Puzzle_isSolution_1_L4_sh 0 (slices_EqualFunc_int__i_Puzzle_isSolution_1_L4_step)) else none
theorem slices_EqualFunc_int__i_Puzzle_isSolution_1_L4_ok : ToldOK Try.prog 0 (loopAt (bodyOf fn_slices_EqualFunc_int) [0]) (LSh.told slices_EqualFunc_int__i_Puzzle_isSolution_1_L4_sh 0 (slices_EqualFunc_int__i_Puzzle_isSolution_1_L4_step)) :=
  loop_ok (E := slices_EqualFunc_int__i_Puzzle_isSolution_1_E) (slices_EqualFunc_int__i_Puzzle_isSolution_1_Eok) (told := slices_EqualFunc_int__i_Puzzle_isSolution_1_told) (l := slices_EqualFunc_int__i_Puzzle_isSolution_1_L4_sh) (step := slices_EqualFunc_int__i_Puzzle_isSolution_1_L4_step) (loopsOK_of (ls := []) (by kernel_rfl) trivial) (by kernel_rfl) (fun v => by kernel_rfl)
theorem slices_EqualFunc_int__i_Puzzle_isSolution_1_ok : FOK Try.prog n_slices_EqualFunc_int slices_EqualFunc_int__i_Puzzle_isSolution_1_sh slices_EqualFunc_int__i_Puzzle_isSolution_1_fo slices_EqualFunc_int__i_Puzzle_isSolution_1 :=
  fn_ok (E := slices_EqualFunc_int__i_Puzzle_isSolution_1_E) (slices_EqualFunc_int__i_Puzzle_isSolution_1_Eok) (told := slices_EqualFunc_int__i_Puzzle_isSolution_1_told) (fl := []) (c := bodyOf fn_slices_EqualFunc_int) (s := slices_EqualFunc_int__i_Puzzle_isSolution_1_sh) (l := slices_EqualFunc_int__i_Puzzle_isSolution_1_fo) (tree := slices_EqualFunc_int__i_Puzzle_isSolution_1_t) fnat_slices_EqualFunc_int (by kernel_rfl) (by kernel_rfl) (by kernel_rfl) (loopsOK_of (ls := [loopAt (bodyOf fn_slices_EqualFunc_int) [0]]) (by kernel_rfl) ⟨.inr ⟨_, by kernel_rfl, slices_EqualFunc_int__i_Puzzle_isSolution_1_L4_ok⟩, trivial⟩) (fun v => by kernel_rfl)

def i_Puzzle_isSolution_sh : FSh := ⟨[(.ag [(.sl (.int .i64) false false)]), (.one (.sl (.int .i64) false false))], []⟩

def i_Puzzle_isSolution_fo : List FO := [⟨[(.one .sb)], []⟩]
noncomputable def i_Puzzle_isSolution_t : (List (Int) × List (Int)) → T Bool := fun (p_0, list) =>
  (.sub (slices_EqualFunc_int__i_Puzzle_isSolution_1 (p_0, (list, ()))) fun z0 =>
  (.ret z0))
noncomputable def i_Puzzle_isSolution (v : (List (Int) × List (Int))) : Option Bool := (i_Puzzle_isSolution_t v).run
noncomputable def i_Puzzle_isSolution_E : TEnv := (E0.add1 n_slices_EqualFunc_int slices_EqualFunc_int__i_Puzzle_isSolution_1_sh slices_EqualFunc_int__i_Puzzle_isSolution_1_fo slices_EqualFunc_int__i_Puzzle_isSolution_1)
theorem i_Puzzle_isSolution_Eok : (i_Puzzle_isSolution_E).OK := (E0ok.add1 slices_EqualFunc_int__i_Puzzle_isSolution_1_ok)
noncomputable def i_Puzzle_isSolution_told : Nat → Option SealT := fun id => none
theorem i_Puzzle_isSolution_ok : FOK Try.prog n_i_Puzzle_isSolution i_Puzzle_isSolution_sh i_Puzzle_isSolution_fo i_Puzzle_isSolution :=
  fn_ok (E := i_Puzzle_isSolution_E) (i_Puzzle_isSolution_Eok) (told := i_Puzzle_isSolution_told) (fl := []) (c := bodyOf fn_i_Puzzle_isSolution) (s := i_Puzzle_isSolution_sh) (l := i_Puzzle_isSolution_fo) (tree := i_Puzzle_isSolution_t) fnat_i_Puzzle_isSolution (by kernel_rfl) (by kernel_rfl) (by kernel_rfl) (loopsOK_of (ls := []) (by kernel_rfl) trivial) (fun v => by kernel_rfl)

theorem i_Puzzle_isSolution_eq (p q : List Int) (hl : p.length < 4611686018427387904) : i_Puzzle_isSolution (p, q) = some (fits p q) := by
  have hc : ∀ a b, i_Puzzle_isSolution_1 (a, b) = some (a == 0 || a == b) := by
    intro a b
    simp only [i_Puzzle_isSolution_1, i_Puzzle_isSolution_1_t, T.run]
    cases a == 0 <;> simp
  simp only [i_Puzzle_isSolution, i_Puzzle_isSolution_t, T.run, slices_EqualFunc_int__i_Puzzle_isSolution_1, slices_EqualFunc_int__i_Puzzle_isSolution_1_t, fits]
  by_cases he : p.length = q.length
  · have h := loop_any (step := fun v => (slices_EqualFunc_int__i_Puzzle_isSolution_1_L4_step v).run) (xs := p.zip q) (fun x => !(x.1 == 0 || x.1 == x.2)) (fun k => (q, ((), (p, ((p.length : Int), (k : Int)))))) (.inl false) (.inr ())
      (fun k x hx => by
        obtain ⟨x1, x2⟩ := x
        rw [List.getElem?_zip_eq_some] at hx
        obtain ⟨h1, h2⟩ := hx
        simp only at h1 h2
        have hk := getElem?_lt h1
        have hk2 := getElem?_lt h2
        have c0 : (k : Int) < (p.length : Int) := by omega
        have c1 : (0 : Int) ≤ (k : Int) ∧ (k : Int) < (p.length : Int) := by omega
        have c2 : (0 : Int) ≤ (k : Int) ∧ (k : Int) < (q.length : Int) := by omega
        have w1 : w64 ((k : Int) + 1) = ((k + 1 : Nat) : Int) := by rw [w64_id (by omega) (by omega)]; omega
        simp only [slices_EqualFunc_int__i_Puzzle_isSolution_1_L4_step, T.run, c0, c1, c2, decide_true, if_true, and_self, Int.toNat_natCast, h1, h2, Option.bind_some, w1, hc]
        cases (x1 == 0 || x1 == x2) <;> simp)
      (by simp [slices_EqualFunc_int__i_Puzzle_isSolution_1_L4_step, T.run, he])
    simp only [Int.natCast_zero] at h
    have hne : ((p.length : Int) != (q.length : Int)) = false := by simp [he]
    simp only [slices_EqualFunc_int__i_Puzzle_isSolution_1_L4, h, hne, decide_eq_true he]
    cases (p.zip q).any (fun x => !(x.1 == 0 || x.1 == x.2)) <;> simp
  · have hne : ((p.length : Int) != (q.length : Int)) = true := by simp; omega
    simp [hne, he]


def i_IsSolution_sh : FSh := ⟨[(.ag [(.sl (.int .i64) false false)]), (.one (.sl (.int .i64) false false))], []⟩

def i_IsSolution_fo : List FO := [⟨[(.one .sb), (.one .sb)], []⟩]
noncomputable def i_IsSolution_t : (List (Int) × List (Int)) → T (Bool × Bool) := fun (p_0, quiddity) =>
  (.sub (i_IsPuzzle p_0) fun z0 =>
  (.test (! z0)
  (.ret (false, false))
  (.sub (i_IsQuiddity quiddity) fun z1 =>
   (.test (! z1)
   (.ret (false, false))
   (.sub (i_Puzzle_isSolution (p_0, quiddity)) fun z2 =>
    (.ret (z2, true)))))))
noncomputable def i_IsSolution (v : (List (Int) × List (Int))) : Option (Bool × Bool) := (i_IsSolution_t v).run
noncomputable def i_IsSolution_E : TEnv := (((E0.add1 n_i_IsPuzzle i_IsPuzzle_sh i_IsPuzzle_fo i_IsPuzzle).add1 n_i_IsQuiddity i_IsQuiddity_sh i_IsQuiddity_fo i_IsQuiddity).add1 n_i_Puzzle_isSolution i_Puzzle_isSolution_sh i_Puzzle_isSolution_fo i_Puzzle_isSolution)
theorem i_IsSolution_Eok : (i_IsSolution_E).OK := (((E0ok.add1 i_IsPuzzle_ok).add1 i_IsQuiddity_ok).add1 i_Puzzle_isSolution_ok)
noncomputable def i_IsSolution_told : Nat → Option SealT := fun id => none
theorem i_IsSolution_ok : FOK Try.prog n_i_IsSolution i_IsSolution_sh i_IsSolution_fo i_IsSolution :=
  fn_ok (E := i_IsSolution_E) (i_IsSolution_Eok) (told := i_IsSolution_told) (fl := []) (c := bodyOf fn_i_IsSolution) (s := i_IsSolution_sh) (l := i_IsSolution_fo) (tree := i_IsSolution_t) fnat_i_IsSolution (by kernel_rfl) (by kernel_rfl) (by kernel_rfl) (loopsOK_of (ls := []) (by kernel_rfl) trivial) (fun v => by kernel_rfl)

theorem i_IsSolution_eq (p q : List Int) (hl : p.length < 4611686018427387904) (hq : q.length < 4611686018427387904) : i_IsSolution (p, q) = some (if isPz p && (trOf q).isSome then (fits p q, true) else (false, false)) := by
  simp only [i_IsSolution, i_IsSolution_t, T.run, i_IsPuzzle_eq p hl, i_IsQuiddity_eq q hq, Option.bind_some, i_Puzzle_isSolution_eq p q hl]
  cases isPz p <;> cases (trOf q).isSome <;> simp


def l_eqIntS_sh : FSh := ⟨[(.one (.sl (.int .i64) false false)), (.one (.sl (.int .i64) false false))], []⟩

def l_eqIntS_L4_sh : LSh := ⟨(fun ex => match ex with | .norm => [(0, none), (1, none), (5, none)] | .exit i => if i = 0 then [] else [] | .ret => [(4, none)]), [(0, (.one (.sl (.int .i64) false false))), (1, (.one (.sl (.int .i64) false false))), (5, (.one (.si .i64)))], [], [⟨.ret, [(4, (.one .sb))], []⟩, ⟨(.exit 0), [], []⟩], [], []⟩
noncomputable def l_eqIntS_L4_step : (List (Int) × List (Int) × Int) → T ((List (Int) × List (Int) × Int) ⊕ (Bool ⊕ Unit)) := fun (a, b, i) =>
  (.test (decide (i < ((List.length a) : Int)))
  (.test (decide ((0 ≤ i) ∧ (i < ((List.length a) : Int))))
   (.sub (a[(Int.toNat i)]?) fun z0 =>
    (.test (decide ((0 ≤ i) ∧ (i < ((List.length b) : Int))))
    (.sub (b[(Int.toNat i)]?) fun z1 =>
     (.test (z0 != z1)
     (.ret (Sum.inr (Sum.inl false)))
     (.ret (Sum.inl (a, (b, (w64 (i + 1))))))))
    .fail))
   .fail)
  (.ret (Sum.inr (Sum.inr ()))))
noncomputable def l_eqIntS_L4 (v : (List (Int) × List (Int) × Int)) : Option (Bool ⊕ Unit) := loopO (fun v => (l_eqIntS_L4_step v).run) v

def l_eqIntS_fo : List FO := [⟨[(.one .sb)], []⟩]
noncomputable def l_eqIntS_t : (List (Int) × List (Int)) → T Bool := fun (a, b) =>
  (.test (((List.length a) : Int) != ((List.length b) : Int))
  (.ret false)
  (.sub (l_eqIntS_L4 (a, (b, (0 : Int)))) fun z0 =>
   (.test (Sum.isLeft z0)
   (.sub (Sum.getLeft? z0) fun z1 =>
    (.ret z1))
   (.sub (Sum.getRight? z0) fun z2 =>
    (.ret true)))))
noncomputable def l_eqIntS (v : (List (Int) × List (Int))) : Option Bool := (l_eqIntS_t v).run
noncomputable def l_eqIntS_E : TEnv := E0
theorem l_eqIntS_Eok : (l_eqIntS_E).OK := E0ok
noncomputable def l_eqIntS_told : Nat → Option SealT := fun id => if id = 4 then some (LSh.told l_eqIntS_L4_sh 0 (l_eqIntS_L4_step)) else none
theorem l_eqIntS_L4_ok : ToldOK Try.prog 0 (loopAt (bodyOf fn_l_eqIntS) [0]) (LSh.told l_eqIntS_L4_sh 0 (l_eqIntS_L4_step)) :=
  loop_ok (E := l_eqIntS_E) (l_eqIntS_Eok) (told := l_eqIntS_told) (l := l_eqIntS_L4_sh) (step := l_eqIntS_L4_step) (loopsOK_of (ls := []) (by kernel_rfl) trivial) (by kernel_rfl) (fun v => by kernel_rfl)
theorem l_eqIntS_ok : FOK Try.prog n_l_eqIntS l_eqIntS_sh l_eqIntS_fo l_eqIntS :=
  fn_ok (E := l_eqIntS_E) (l_eqIntS_Eok) (told := l_eqIntS_told) (fl := []) (c := bodyOf fn_l_eqIntS) (s := l_eqIntS_sh) (l := l_eqIntS_fo) (tree := l_eqIntS_t) fnat_l_eqIntS (by kernel_rfl) (by kernel_rfl) (by kernel_rfl) (loopsOK_of (ls := [loopAt (bodyOf fn_l_eqIntS) [0]]) (by kernel_rfl) ⟨.inr ⟨_, by kernel_rfl, l_eqIntS_L4_ok⟩, trivial⟩) (fun v => by kernel_rfl)

theorem l_eqIntS_eq (a b : List Int) (hl : a.length < 4611686018427387904) : l_eqIntS (a, b) = some (decide (a = b)) := by
  by_cases hab : a.length = b.length
  · have h := loop_any (step := fun v => (l_eqIntS_L4_step v).run) (xs := a.zip b) (fun p => p.1 != p.2) (fun k => (a, b, (k : Int))) (.inl false) (.inr ())
      (fun k x hx => by
        have hk := getElem?_lt hx
        rw [List.length_zip, hab, Nat.min_self] at hk
        rw [List.getElem?_zip_eq_some] at hx
        simp only [l_eqIntS_L4_step, T.run, Option.bind_some, Int.toNat_natCast, hx.1, hx.2]
        rw [w64_id (by omega) (by omega)]
        have hka : k < a.length := by omega
        cases x.1 != x.2 <;> simp [hk, hka])
      (by simp [l_eqIntS_L4_step, T.run, hab])
    simp only [l_eqIntS, l_eqIntS_t, T.run, l_eqIntS_L4]
    simp only [Int.natCast_zero] at h
    rw [h, hab]
    have e : (a.zip b).any (fun p => p.1 != p.2) = !decide (a = b) := zip_any_ne a b hab
    rw [e]
    cases decide (a = b) <;> simp
  · simp only [l_eqIntS, l_eqIntS_t, T.run]
    have : a ≠ b := fun e => hab (by rw [e])
    simp [this]
    omega


def l_eqPuzzle_sh : FSh := ⟨[(.ag [(.sl (.int .i64) false false)]), (.ag [(.sl (.int .i64) false false)])], []⟩

def l_eqPuzzle_fo : List FO := [⟨[(.one .sb)], []⟩]
noncomputable def l_eqPuzzle_t : (List (Int) × List (Int)) → T Bool := fun (a_0, b_0) =>
  (.sub (l_eqIntS (a_0, b_0)) fun z0 =>
  (.test (! z0)
  (.ret false)
  (.ret true)))
noncomputable def l_eqPuzzle (v : (List (Int) × List (Int))) : Option Bool := (l_eqPuzzle_t v).run
noncomputable def l_eqPuzzle_E : TEnv := (E0.add1 n_l_eqIntS l_eqIntS_sh l_eqIntS_fo l_eqIntS)
theorem l_eqPuzzle_Eok : (l_eqPuzzle_E).OK := (E0ok.add1 l_eqIntS_ok)
noncomputable def l_eqPuzzle_told : Nat → Option SealT := fun id => none
theorem l_eqPuzzle_ok : FOK Try.prog n_l_eqPuzzle l_eqPuzzle_sh l_eqPuzzle_fo l_eqPuzzle :=
  fn_ok (E := l_eqPuzzle_E) (l_eqPuzzle_Eok) (told := l_eqPuzzle_told) (fl := []) (c := bodyOf fn_l_eqPuzzle) (s := l_eqPuzzle_sh) (l := l_eqPuzzle_fo) (tree := l_eqPuzzle_t) fnat_l_eqPuzzle (by kernel_rfl) (by kernel_rfl) (by kernel_rfl) (loopsOK_of (ls := []) (by kernel_rfl) trivial) (fun v => by kernel_rfl)

theorem l_eqPuzzle_eq (a b : List Int) (hl : a.length < 4611686018427387904) : l_eqPuzzle (a, b) = some (decide (a = b)) := by
  simp only [l_eqPuzzle, l_eqPuzzle_t, T.run, l_eqIntS_eq a b hl, Option.bind_some]
  cases decide (a = b) <;> rfl


def l_FnExactIsSolution_sh : FSh := ⟨[(.ag [(.sl (.int .i64) false false)]), (.one (.sl (.int .i64) false false))], []⟩

def l_FnExactIsSolution_fo : List FO := [⟨[(.one .sb)], []⟩]
noncomputable def l_FnExactIsSolution_t : (List (Int) × List (Int)) → T Bool := fun (aP_0, aQuiddity) =>
  (.test (decide (((List.length aQuiddity) : Int) > 1048576))
  (.ret true)
  (.sub (l_szPuzzle (aP_0, (1048576 : Int))) fun z0 =>
   (.test (decide (z0 < 0))
   (.ret true)
   (.sub (l_toPuzzle aP_0) fun z1 =>
    (.sub (l_toIntS aQuiddity) fun z2 =>
    (.test (decide ((0 + (List.length z1.2)) ≤ (List.length z1.2)))
    (.test (decide ((0 + (List.length z2.2)) ≤ (List.length z2.2)))
     (.sub (s_IsSolution ((win z1.2 0 (List.length z1.2)), (win z2.2 0 (List.length z2.2)))) fun z3 =>
      (.sub (l_toPuzzle aP_0) fun z4 =>
      (.sub (l_toIntS aQuiddity) fun z5 =>
      (.test (decide ((0 + (List.length z4.2)) ≤ (List.length z4.2)))
      (.test (decide ((0 + (List.length z5.2)) ≤ (List.length z5.2)))
       (.sub (i_IsSolution ((win z4.2 0 (List.length z4.2)), (win z5.2 0 (List.length z5.2)))) fun z6 =>
        (.test (! (z6.1 == z3.1))
        (.ret false)
        (.test (! (z6.2 == z3.2))
         (.ret false)
         (.sub (l_toPuzzle aP_0) fun z7 =>
          (.test (decide ((0 + (List.length z4.2)) ≤ (List.length z4.2)))
          (.test (decide ((0 + (List.length z7.2)) ≤ (List.length z7.2)))
           (.sub (l_eqPuzzle ((win z4.2 0 (List.length z4.2)), (win z7.2 0 (List.length z7.2)))) fun z8 =>
            (.test (! z8)
            (.ret false)
            (.sub (l_toIntS aQuiddity) fun z9 =>
             (.test (decide ((0 + (List.length z5.2)) ≤ (List.length z5.2)))
             (.test (decide ((0 + (List.length z9.2)) ≤ (List.length z9.2)))
              (.sub (l_eqIntS ((win z5.2 0 (List.length z5.2)), (win z9.2 0 (List.length z9.2)))) fun z10 =>
               (.test (! z10)
               (.ret false)
               (.ret true)))
              .fail)
             .fail))))
           .fail)
          .fail)))))
       .fail)
      .fail))))
     .fail)
    .fail))))))
noncomputable def l_FnExactIsSolution (v : (List (Int) × List (Int))) : Option Bool := (l_FnExactIsSolution_t v).run
noncomputable def l_FnExactIsSolution_E : TEnv := (((((((E0.add1 n_l_szPuzzle l_szPuzzle_sh l_szPuzzle_fo l_szPuzzle).add1 n_l_toPuzzle l_toPuzzle_sh l_toPuzzle_fo l_toPuzzle).add1 n_l_toIntS l_toIntS_sh l_toIntS_fo l_toIntS).add1 n_s_IsSolution s_IsSolution_sh s_IsSolution_fo s_IsSolution).add1 n_i_IsSolution i_IsSolution_sh i_IsSolution_fo i_IsSolution).add1 n_l_eqPuzzle l_eqPuzzle_sh l_eqPuzzle_fo l_eqPuzzle).add1 n_l_eqIntS l_eqIntS_sh l_eqIntS_fo l_eqIntS)
theorem l_FnExactIsSolution_Eok : (l_FnExactIsSolution_E).OK := (((((((E0ok.add1 l_szPuzzle_ok).add1 l_toPuzzle_ok).add1 l_toIntS_ok).add1 s_IsSolution_ok).add1 i_IsSolution_ok).add1 l_eqPuzzle_ok).add1 l_eqIntS_ok)
noncomputable def l_FnExactIsSolution_told : Nat → Option SealT := fun id => none
theorem l_FnExactIsSolution_ok : FOK Try.prog n_l_FnExactIsSolution l_FnExactIsSolution_sh l_FnExactIsSolution_fo l_FnExactIsSolution :=
  fn_ok (E := l_FnExactIsSolution_E) (l_FnExactIsSolution_Eok) (told := l_FnExactIsSolution_told) (fl := []) (c := bodyOf fn_l_FnExactIsSolution) (s := l_FnExactIsSolution_sh) (l := l_FnExactIsSolution_fo) (tree := l_FnExactIsSolution_t) fnat_l_FnExactIsSolution (by kernel_rfl) (by kernel_rfl) (by kernel_rfl) (loopsOK_of (ls := []) (by kernel_rfl) trivial) (fun v => by kernel_rfl)

theorem l_FnExactIsSolution_true (v : List Int × List Int) (hs : smallL ASh.small [.ag [.sl (.int .i64) false false], .one (.sl (.int .i64) false false)] v) : l_FnExactIsSolution v = some true := by
  obtain ⟨p, q⟩ := v
  have hl0 : p.length < 140737488355328 := hs.1.1
  have hq0 : q.length < 140737488355328 := hs.2.1
  have hl : p.length < 4611686018427387904 := by omega
  have hq : q.length < 4611686018427387904 := by omega
  rw [l_FnExactIsSolution, l_FnExactIsSolution_t, T.run_test]
  split
  · rfl
  · rename_i hsq
    rw [decide_eq_true_eq] at hsq
    rw [T.run_sub, l_szPuzzle_eq p _ (by decide) hl, Option.bind_some, T.run_test]
    split
    · rfl
    · rename_i hsz
      have h1 : p.length < 10000000000000 := by omega
      have h2 : q.length < 10000000000000 := by omega
      have hr := i_IsSolution_eq p q hl hq
      have hsr := s_IsSolution_eq p q hl hq
      generalize (if isPz p && (trOf q).isSome then (fits p q, true) else (false, false)) = r at hr hsr
      simp [T.run, l_toPuzzle_eq p h1, l_toIntS_eq q h2, win_all, hr, hsr, l_eqPuzzle_eq p p hl, l_eqIntS_eq q q hq]


end Go.Proofs.W
