/- Functions of the program, walked, and what they compute. -/
import Derived.Test.YtigenooglogcfaaGreatSdWk3
set_option linter.unusedVariables false
set_option linter.unusedSimpArgs false
set_option maxRecDepth 100000
set_option maxHeartbeats 4000000
namespace Go.Proofs.W
open Go Go.Gm Go.Proofs
open Go.RowKit Go.Shelf
def i_allTriangulations_1_sh : FSh := ⟨[(.one (.sl (.pair (.int .i64) (.int .i64)) false false)), (.one (.si .i64)), (.one (.pf 0 0 0)), (.one (.pf 1 0 0)), (.one (.pf 3 0 0)), (.one (.pf 5 0 0))], [(.rcd 0 [(.si .i64)]), (.rcd 0 [(.rw 2 0)]), (.row 0 (.list true (.pair (.int .i64) (.int .i64)))), (.rcd 0 [(.rw 4 0)]), (.row 0 (.pair (.int .i64) (.int .i64))), (.rcd 0 [(.clo n_i_allTriangulations_1 [(0, 0, 0), (1, 0, 0), (3, 0, 0), (5, 0, 0)])])]⟩

def i_allTriangulations_1_fo : List FO := [⟨[], [(.rcd 0 [(.si .i64)]), (.rcd 0 [(.rw 2 1)]), (.row 1 (.list true (.pair (.int .i64) (.int .i64)))), (.rcd 0 [(.rw 4 0)]), (.row 0 (.pair (.int .i64) (.int .i64))), (.rcd 0 [(.clo n_i_allTriangulations_1 [(0, 0, 0), (1, 0, 0), (3, 0, 0), (5, 0, 0)])])]⟩]

def i_allTriangulations_1_L3_sh : LSh := ⟨(fun ex => match ex with | .norm => [(0, none), (4, none), (5, none), (8, none)] | .exit i => if i = 0 then [] else [] | .ret => []), [(0, (.one (.sl (.pair (.int .i64) (.int .i64)) false false))), (4, (.one (.pf 3 0 0))), (5, (.one (.pf 5 0 0))), (8, (.one (.pf 6 0 0)))], [(.rcd 0 [(.si .i64)]), (.rcd 0 [(.rw 2 1)]), (.row 1 (.list true (.pair (.int .i64) (.int .i64)))), (.rcd 0 [(.rw 4 0)]), (.row 0 (.pair (.int .i64) (.int .i64))), (.rcd 0 [(.clo n_i_allTriangulations_1 [(0, 0, 0), (1, 0, 0), (3, 0, 0), (5, 0, 0)])]), (.rcd 0 [(.si .i64)])], [⟨(.exit 0), [], [(.rcd 0 [(.si .i64)]), (.rcd 0 [(.rw 2 1)]), (.row 1 (.list true (.pair (.int .i64) (.int .i64)))), (.rcd 0 [(.rw 4 0)]), (.row 0 (.pair (.int .i64) (.int .i64))), (.rcd 0 [(.clo n_i_allTriangulations_1 [(0, 0, 0), (1, 0, 0), (3, 0, 0), (5, 0, 0)])])]⟩], [], [2]⟩
noncomputable def i_allTriangulations_1_L3_step (recv : ((List ((Int × Int)) × Int × Unit × Unit × Unit × Unit) × (Int × Unit × List (List ((Int × Int))) × Unit × List ((Int × Int)) × Unit)) → Option (Unit × (Int × Unit × List (List ((Int × Int))) × Unit × List ((Int × Int)) × Unit))) : ((List ((Int × Int)) × Unit × Unit × Unit) × (Int × Unit × List (List ((Int × Int))) × Unit × List ((Int × Int)) × Unit × Int)) → T (((List ((Int × Int)) × Unit × Unit × Unit) × (Int × Unit × List (List ((Int × Int))) × Unit × List ((Int × Int)) × Unit × Int)) ⊕ (Unit × (Int × Unit × List (List ((Int × Int))) × Unit × List ((Int × Int)) × Unit))) := fun ((begin, (), (), ()), (r0_0, (), r1_r, (), t4_r, (), i_0)) =>
  (.test (decide (i_0 < ((List.length t4_r) : Int)))
  (.test (decide ((0 = 0) ∧ ((List.length t4_r) = (List.length t4_r))))
   (.sub (slices_ContainsFunc_Diagonal__i_allTriangulations_1_1 ((begin, ((), ())), ((), (t4_r, i_0)))) fun z0 =>
    (.test (! z0.1)
    (.test (decide (0 ≤ ((List.length begin) : Int)))
     (.test (decide (0 ≤ ((List.length begin) : Int)))
      (.test (decide ((0 ≤ (Int.toNat ((List.length begin) : Int))) ∧ (((Int.toNat ((List.length begin) : Int)) = (Int.toNat ((List.length begin) : Int))) ∧ ((Int.toNat ((List.length begin) : Int)) ≤ (List.length begin)))))
       (.test (decide ((0 ≤ z0.2.2.2) ∧ (z0.2.2.2 < ((List.length z0.2.2.1) : Int))))
        (.sub (z0.2.2.1[(0 + (Int.toNat z0.2.2.2))]?) fun z1 =>
         (.test (decide (1 ≤ (List.length (List.set (List.replicate 1 ((0 : Int), (0 : Int))) 0 (z1.1, z1.2)))))
         (.test (decide (¬ (((List.length (win (List.set (List.replicate 1 ((0 : Int), (0 : Int))) 0 (z1.1, z1.2)) 0 1)) = 0) ∧ ((List.length (win begin 0 ((Int.toNat ((List.length begin) : Int)) - 0))) ≠ 0))))
          (.test (decide ((2 * (((List.length (win begin 0 ((Int.toNat ((List.length begin) : Int)) - 0))) + (List.length (win (List.set (List.replicate 1 ((0 : Int), (0 : Int))) 0 (z1.1, z1.2)) 0 1))) * (16 + 1))) ≤ 140737488355328))
           (.test (decide ((0 + ((List.length (win begin 0 ((Int.toNat ((List.length begin) : Int)) - 0))) + (List.length (win (List.set (List.replicate 1 ((0 : Int), (0 : Int))) 0 (z1.1, z1.2)) 0 1)))) ≤ (List.length ((win begin 0 ((Int.toNat ((List.length begin) : Int)) - 0)) ++ (win (List.set (List.replicate 1 ((0 : Int), (0 : Int))) 0 (z1.1, z1.2)) 0 1)))))
            (.test (decide ((0 = 0) ∧ ((List.length r1_r) = (List.length r1_r))))
             (.test (decide ((0 = 0) ∧ ((List.length z0.2.2.1) = (List.length z0.2.2.1))))
              (.sub (recv (((win ((win begin 0 ((Int.toNat ((List.length begin) : Int)) - 0)) ++ (win (List.set (List.replicate 1 ((0 : Int), (0 : Int))) 0 (z1.1, z1.2)) 0 1)) 0 ((List.length (win begin 0 ((Int.toNat ((List.length begin) : Int)) - 0))) + (List.length (win (List.set (List.replicate 1 ((0 : Int), (0 : Int))) 0 (z1.1, z1.2)) 0 1)))), ((w64 (z0.2.2.2 + 1)), ((), ((), ((), ()))))), (r0_0, ((), (r1_r, ((), (z0.2.2.1, ()))))))) fun z2 =>
               (.test (decide ((0 = 0) ∧ ((List.length z2.2.2.2.1) = (List.length z2.2.2.2.1))))
               (.test (decide ((0 = 0) ∧ ((List.length z2.2.2.2.2.2.1) = (List.length z2.2.2.2.2.2.1))))
                (.ret (Sum.inl ((begin, ((), ((), ()))), (z2.2.1, ((), (z2.2.2.2.1, ((), (z2.2.2.2.2.2.1, ((), (w64 (z0.2.2.2 + 1)))))))))))
                .fail)
               .fail))
              .fail)
             .fail)
            .fail)
           .fail)
          .fail)
         .fail))
        .fail)
       .fail)
      .fail)
     .fail)
    (.test (decide ((0 = 0) ∧ ((List.length r1_r) = (List.length r1_r))))
     (.test (decide ((0 = 0) ∧ ((List.length z0.2.2.1) = (List.length z0.2.2.1))))
      (.ret (Sum.inl ((begin, ((), ((), ()))), (r0_0, ((), (r1_r, ((), (z0.2.2.1, ((), (w64 (z0.2.2.2 + 1)))))))))))
      .fail)
     .fail)))
   .fail)
  (.test (decide ((0 = 0) ∧ ((List.length r1_r) = (List.length r1_r))))
   (.test (decide ((0 = 0) ∧ ((List.length t4_r) = (List.length t4_r))))
    (.ret (Sum.inr ((), (r0_0, ((), (r1_r, ((), (t4_r, ()))))))))
    .fail)
   .fail))
noncomputable def i_allTriangulations_1_L3 (recv : ((List ((Int × Int)) × Int × Unit × Unit × Unit × Unit) × (Int × Unit × List (List ((Int × Int))) × Unit × List ((Int × Int)) × Unit)) → Option (Unit × (Int × Unit × List (List ((Int × Int))) × Unit × List ((Int × Int)) × Unit))) (v : ((List ((Int × Int)) × Unit × Unit × Unit) × (Int × Unit × List (List ((Int × Int))) × Unit × List ((Int × Int)) × Unit × Int))) : Option (Unit × (Int × Unit × List (List ((Int × Int))) × Unit × List ((Int × Int)) × Unit)) := loopO (fun v => (i_allTriangulations_1_L3_step recv v).run) v

noncomputable def i_allTriangulations_1_t (recv : ((List ((Int × Int)) × Int × Unit × Unit × Unit × Unit) × (Int × Unit × List (List ((Int × Int))) × Unit × List ((Int × Int)) × Unit)) → Option (Unit × (Int × Unit × List (List ((Int × Int))) × Unit × List ((Int × Int)) × Unit))) : ((List ((Int × Int)) × Int × Unit × Unit × Unit × Unit) × (Int × Unit × List (List ((Int × Int))) × Unit × List ((Int × Int)) × Unit)) → T (Unit × (Int × Unit × List (List ((Int × Int))) × Unit × List ((Int × Int)) × Unit)) := fun ((begin, from', (), (), (), ()), (t2_0, (), t3_r, (), t4_r, ())) =>
  (.test (((List.length begin) : Int) == (w64 (t2_0 - 3)))
  (.sub (slices_Clone_Diagonal begin) fun z0 =>
   (.test (decide ((0 + (List.length z0.2)) ≤ (List.length z0.2)))
   (.test (decide (1 ≤ (List.length (List.set (List.replicate 1 ([] : List (Int × Int))) 0 (win z0.2 0 (List.length z0.2))))))
    (.test (decide ((0 + (List.length t3_r)) ≤ (List.length t3_r)))
     (.test (decide ((2 * (((List.length t3_r) + (List.length (win (List.set (List.replicate 1 ([] : List (Int × Int))) 0 (win z0.2 0 (List.length z0.2))) 0 1))) * (24 + 1))) ≤ 140737488355328))
      (.test (decide ((0 = 0) ∧ (((List.length t3_r) + (List.length (win (List.set (List.replicate 1 ([] : List (Int × Int))) 0 (win z0.2 0 (List.length z0.2))) 0 1))) = (List.length ((win t3_r 0 (List.length t3_r)) ++ (win (List.set (List.replicate 1 ([] : List (Int × Int))) 0 (win z0.2 0 (List.length z0.2))) 0 1))))))
       (.test (decide ((0 = 0) ∧ ((List.length t4_r) = (List.length t4_r))))
        (.ret ((), (t2_0, ((), (((win t3_r 0 (List.length t3_r)) ++ (win (List.set (List.replicate 1 ([] : List (Int × Int))) 0 (win z0.2 0 (List.length z0.2))) 0 1)), ((), (t4_r, ())))))))
        .fail)
       .fail)
      .fail)
     .fail)
    .fail)
   .fail))
  (.test (decide ((0 = 0) ∧ ((List.length t3_r) = (List.length t3_r))))
   (.test (decide ((0 = 0) ∧ ((List.length t4_r) = (List.length t4_r))))
    (.sub (i_allTriangulations_1_L3 recv ((begin, ((), ((), ()))), (t2_0, ((), (t3_r, ((), (t4_r, ((), from')))))))) fun z1 =>
     (.test (decide ((0 = 0) ∧ ((List.length z1.2.2.2.1) = (List.length z1.2.2.2.1))))
     (.test (decide ((0 = 0) ∧ ((List.length z1.2.2.2.2.2.1) = (List.length z1.2.2.2.2.2.1))))
      (.ret ((), (z1.2.1, ((), (z1.2.2.2.1, ((), (z1.2.2.2.2.2.1, ())))))))
      .fail)
     .fail))
    .fail)
   .fail))
noncomputable def i_allTriangulations_1_f (recv : ((List ((Int × Int)) × Int × Unit × Unit × Unit × Unit) × (Int × Unit × List (List ((Int × Int))) × Unit × List ((Int × Int)) × Unit)) → Option (Unit × (Int × Unit × List (List ((Int × Int))) × Unit × List ((Int × Int)) × Unit))) (v : ((List ((Int × Int)) × Int × Unit × Unit × Unit × Unit) × (Int × Unit × List (List ((Int × Int))) × Unit × List ((Int × Int)) × Unit))) : Option (Unit × (Int × Unit × List (List ((Int × Int))) × Unit × List ((Int × Int)) × Unit)) := (i_allTriangulations_1_t recv v).run
noncomputable def i_allTriangulations_1 : ((List ((Int × Int)) × Int × Unit × Unit × Unit × Unit) × (Int × Unit × List (List ((Int × Int))) × Unit × List ((Int × Int)) × Unit)) → Option (Unit × (Int × Unit × List (List ((Int × Int))) × Unit × List ((Int × Int)) × Unit)) := recF i_allTriangulations_1_f
noncomputable def i_allTriangulations_1_E (recv : ((List ((Int × Int)) × Int × Unit × Unit × Unit × Unit) × (Int × Unit × List (List ((Int × Int))) × Unit × List ((Int × Int)) × Unit)) → Option (Unit × (Int × Unit × List (List ((Int × Int))) × Unit × List ((Int × Int)) × Unit))) : TEnv := (((E0.add1 n_slices_Clone_Diagonal slices_Clone_Diagonal_sh slices_Clone_Diagonal_fo slices_Clone_Diagonal).add1 n_slices_ContainsFunc_Diagonal slices_ContainsFunc_Diagonal__i_allTriangulations_1_1_sh slices_ContainsFunc_Diagonal__i_allTriangulations_1_1_fo slices_ContainsFunc_Diagonal__i_allTriangulations_1_1).add1 n_i_allTriangulations_1 i_allTriangulations_1_sh i_allTriangulations_1_fo recv)
theorem i_allTriangulations_1_Eok (recv : ((List ((Int × Int)) × Int × Unit × Unit × Unit × Unit) × (Int × Unit × List (List ((Int × Int))) × Unit × List ((Int × Int)) × Unit)) → Option (Unit × (Int × Unit × List (List ((Int × Int))) × Unit × List ((Int × Int)) × Unit))) (hrec : FOK Tryz.prog n_i_allTriangulations_1 i_allTriangulations_1_sh i_allTriangulations_1_fo recv) : (i_allTriangulations_1_E recv).OK := (((E0ok.add1 slices_Clone_Diagonal_ok).add1 slices_ContainsFunc_Diagonal__i_allTriangulations_1_1_ok).add1 hrec)
noncomputable def i_allTriangulations_1_told (recv : ((List ((Int × Int)) × Int × Unit × Unit × Unit × Unit) × (Int × Unit × List (List ((Int × Int))) × Unit × List ((Int × Int)) × Unit)) → Option (Unit × (Int × Unit × List (List ((Int × Int))) × Unit × List ((Int × Int)) × Unit))) : Nat → Option SealT := fun id => if id = 3 then some (LSh.told i_allTriangulations_1_L3_sh 6 (i_allTriangulations_1_L3_step recv)) else none
theorem i_allTriangulations_1_L3_ok (recv : ((List ((Int × Int)) × Int × Unit × Unit × Unit × Unit) × (Int × Unit × List (List ((Int × Int))) × Unit × List ((Int × Int)) × Unit)) → Option (Unit × (Int × Unit × List (List ((Int × Int))) × Unit × List ((Int × Int)) × Unit))) (hrec : FOK Tryz.prog n_i_allTriangulations_1 i_allTriangulations_1_sh i_allTriangulations_1_fo recv) : ToldOK Tryz.prog 6 (loopAt (bodyOf fn_i_allTriangulations_1) [0]) (LSh.told i_allTriangulations_1_L3_sh 6 (i_allTriangulations_1_L3_step recv)) :=
  loop_ok (E := i_allTriangulations_1_E recv) (i_allTriangulations_1_Eok recv hrec) (told := i_allTriangulations_1_told recv) (l := i_allTriangulations_1_L3_sh) (step := i_allTriangulations_1_L3_step recv) (loopsOK_of (ls := []) (by kernel_rfl) trivial) (by kernel_rfl) (fun v => by kernel_rfl)
theorem i_allTriangulations_1_okr (recv : ((List ((Int × Int)) × Int × Unit × Unit × Unit × Unit) × (Int × Unit × List (List ((Int × Int))) × Unit × List ((Int × Int)) × Unit)) → Option (Unit × (Int × Unit × List (List ((Int × Int))) × Unit × List ((Int × Int)) × Unit))) (hrec : FOK Tryz.prog n_i_allTriangulations_1 i_allTriangulations_1_sh i_allTriangulations_1_fo recv) : FOK Tryz.prog n_i_allTriangulations_1 i_allTriangulations_1_sh i_allTriangulations_1_fo (i_allTriangulations_1_f recv) :=
  fn_ok (E := i_allTriangulations_1_E recv) (i_allTriangulations_1_Eok recv hrec) (told := i_allTriangulations_1_told recv) (fl := []) (c := bodyOf fn_i_allTriangulations_1) (s := i_allTriangulations_1_sh) (l := i_allTriangulations_1_fo) (tree := i_allTriangulations_1_t recv) fnat_i_allTriangulations_1 (by kernel_rfl) (by kernel_rfl) (by kernel_rfl) (loopsOK_of (ls := [loopAt (bodyOf fn_i_allTriangulations_1) [0]]) (by kernel_rfl) ⟨.inr ⟨_, by kernel_rfl, i_allTriangulations_1_L3_ok recv hrec⟩, trivial⟩) (fun v => by kernel_rfl)
theorem i_allTriangulations_1_ok : FOK Tryz.prog n_i_allTriangulations_1 i_allTriangulations_1_sh i_allTriangulations_1_fo i_allTriangulations_1 := FOK.rec (fun F h => i_allTriangulations_1_okr F h) recLim

theorem contains_look (t : List Dg) (i : Nat) (b : List Dg) (hi : i < t.length) (hb : b.length < 1000000) :
    slices_ContainsFunc_Diagonal__i_allTriangulations_1_1 ((b, ((), ())), ((), (t, (i : Int)))) = some (b.any (crossD (gD t i)), ((), (t, (i : Int)))) := by
  have hc : ∀ e : Dg, i_allTriangulations_1_1 ((e, ((), ())), ((), (t, (i : Int)))) = some (crossD (gD t i) e, ((), (t, (i : Int)))) := by
    intro e
    obtain ⟨e0, e1⟩ := e
    have c0 : (0 : Int) ≤ (i : Int) ∧ (i : Int) < (t.length : Int) := by omega
    simp only [i_allTriangulations_1_1, i_allTriangulations_1_1_t, T.run, c0, and_self, decide_true, if_true, Int.toNat_natCast, Nat.zero_add, gD_some hi, Option.bind_some, i_doCross_eq]
  have h := loop_find (step := fun v => (slices_IndexFunc_Diagonal__i_allTriangulations_1_1_L2_step v).run) (xs := b) (crossD (gD t i)) (fun k => ((b, (((), ()), ((b.length : Int), (k : Int)))), ((), (t, (i : Int))))) (fun k => .inl ((k : Int), ((), (t, (i : Int))))) (.inr ((), ((), (t, (i : Int)))))
    (fun k x hx => by
      have hlt := getElem?_lt hx
      have h1 : (k : Int) < (b.length : Int) := by omega
      have h2 : (0 : Int) ≤ k ∧ (k : Int) < (b.length : Int) := by omega
      simp only [slices_IndexFunc_Diagonal__i_allTriangulations_1_1_L2_step, T.run, Int.toNat_natCast, hx, Option.bind_some, h1, h2, decide_true, if_true, and_self, true_and, hc]
      rw [w64_id (z := (k : Int) + 1) (by omega) (by omega)]
      cases hv : crossD (gD t i) x <;> simp)
    (by simp [slices_IndexFunc_Diagonal__i_allTriangulations_1_1_L2_step, T.run])
  rw [show ((0 : Nat) : Int) = 0 from rfl] at h
  have hi' : slices_IndexFunc_Diagonal__i_allTriangulations_1_1 ((b, ((), ())), ((), (t, (i : Int)))) = some (idxI (crossD (gD t i)) b, ((), (t, (i : Int)))) := by
    simp only [slices_IndexFunc_Diagonal__i_allTriangulations_1_1, slices_IndexFunc_Diagonal__i_allTriangulations_1_1_t, T.run, slices_IndexFunc_Diagonal__i_allTriangulations_1_1_L2, true_and, decide_true, if_true]
    rw [h]
    simp only [idxI]
    cases hf : b.findIdx? (crossD (gD t i)) <;> simp [Sum.isLeft]
  simp only [slices_ContainsFunc_Diagonal__i_allTriangulations_1_1, slices_ContainsFunc_Diagonal__i_allTriangulations_1_1_t, T.run, true_and, decide_true, if_true, hi', Option.bind_some, idxI_ge]
/-- The loop over the diagonals to come, on a function that goes on. -/
theorem i_look_loop (n : Nat) (t b : List Dg) (recv : _ → Option _) (hn : 3 ≤ n ∧ n ≤ 9) (ht : t.length ≤ 27) (hb : b.length < 1000) :
    ∀ (m i : Nat) (out : List (List Dg)), i + m = t.length → out.length + 2 ^ m ≤ 1000000000 →
    (∀ (j : Nat) (out : List (List Dg)), i ≤ j → j < t.length → out.length + 2 ^ (t.length - (j + 1)) ≤ 1000000000 →
      recv ((b ++ [gD t j], (((j + 1 : Nat) : Int), ((), ((), ((), ()))))), ((n : Int), ((), (out, ((), (t, ()))))) ) = some ((), ((n : Int), ((), (out ++ lookL (n - 3) (t.drop (j + 1)) (b ++ [gD t j]), ((), (t, ()))))))) →
    i_allTriangulations_1_L3 recv ((b, ((), ((), ()))), ((n : Int), ((), (out, ((), (t, ((), (i : Int)))))))) = some ((), ((n : Int), ((), (out ++ goL (n - 3) (t.drop i) b, ((), (t, ()))))))
  | 0, i, out, hi, ho, hr => by
    have : i = t.length := by omega
    subst this
    rw [List.drop_length]
    simp only [i_allTriangulations_1_L3, goL, List.append_nil]
    exact loopO_done (by simp [i_allTriangulations_1_L3_step, T.run])
  | m + 1, i, out, hi, ho, hr => by
    have hlt : i < t.length := by omega
    have c0 : (i : Int) < (t.length : Int) := by omega
    have w1 : w64 ((i : Int) + 1) = ((i + 1 : Nat) : Int) := by rw [w64_id (by omega) (by omega)]; omega
    have hp : 2 ^ (m + 1) = 2 ^ m + 2 ^ m := by rw [Nat.pow_succ]; omega
    have hp0 : 1 ≤ 2 ^ m := Nat.one_le_two_pow
    have hm : m = t.length - (i + 1) := by omega
    rw [drop_gD hlt, goL_cons]
    have hcont := contains_look t i b hlt (by omega)
    cases hf : b.any (crossD (gD t i)) with
    | true =>
      have ih := i_look_loop n t b recv hn ht hb m (i + 1) out (by omega) (by omega) (fun j o h1 h2 h3 => hr j o (by omega) h2 h3)
      have hfr : freeD (gD t i) b = false := by unfold freeD; rw [hf]; rfl
      rw [hfr]
      simp only [Bool.false_eq_true, if_false, List.nil_append]
      simp only [i_allTriangulations_1_L3] at ih ⊢
      rw [← ih]
      rw [hf] at hcont
      refine loopO_next ?_
      simp only [i_allTriangulations_1_L3_step, T.run, c0, decide_true, if_true, true_and, hcont, Option.bind_some, Bool.not_true, Bool.false_eq_true, if_false, w1]
    | false =>
      have hfr : freeD (gD t i) b = true := by unfold freeD; rw [hf]; rfl
      have hrec := hr i out (Nat.le_refl _) hlt (by rw [← hm]; omega)
      have hll : (lookL (n - 3) (t.drop (i + 1)) (b ++ [gD t i])).length ≤ 2 ^ m := by
        unfold lookL
        split
        · simp only [List.length_cons, List.length_nil]; exact Nat.one_le_two_pow
        · have := goL_len (n - 3) (t.drop (i + 1)) (b ++ [gD t i])
          rwa [List.length_drop, ← hm] at this
      have ih := i_look_loop n t b recv hn ht hb m (i + 1) (out ++ lookL (n - 3) (t.drop (i + 1)) (b ++ [gD t i])) (by omega) (by rw [List.length_append]; omega) (fun j o h1 h2 h3 => hr j o (by omega) h2 h3)
      rw [hfr]
      simp only [if_true]
      rw [← List.append_assoc]
      simp only [i_allTriangulations_1_L3] at ih ⊢
      rw [← ih]
      rw [hf] at hcont
      refine loopO_next ?_
      have c1 : (0 : Int) ≤ (b.length : Int) := by omega
      have c2 : (0 : Int) ≤ (i : Int) ∧ (i : Int) < (t.length : Int) := by omega
      have c3 : 2 * ((b.length + 1) * (16 + 1)) ≤ 140737488355328 := by omega
      have hl1 : (b ++ [gD t i]).length = b.length + 1 := by simp
      have hw : win (b ++ [gD t i]) 0 (b.length + 1) = b ++ [gD t i] := by rw [← hl1]; exact win_all _
      simp only [i_allTriangulations_1_L3_step, T.run, c0, c1, c2, decide_true, if_true, true_and, and_self, hcont, Option.bind_some, Bool.not_false, Int.toNat_natCast, Nat.zero_le, Nat.le_refl, Nat.zero_add, gD_some hlt, Nat.sub_zero, win_all, win_one, List.length_cons, List.length_nil, c3, hl1, hw, w1, hrec]
      simp
theorem i_look_eq (n : Nat) (t : List Dg) (hn : 3 ≤ n ∧ n ≤ 9) (ht : t.length ≤ 27) : ∀ (k i : Nat) (b : List Dg) (out : List (List Dg)), i ≤ t.length → t.length - i < k → b.length + (t.length - i) < 100 → out.length + 2 ^ (t.length - i) ≤ 1000000000 →
    recN i_allTriangulations_1_f k ((b, ((i : Int), ((), ((), ((), ()))))), ((n : Int), ((), (out, ((), (t, ()))))) ) = some ((), ((n : Int), ((), (out ++ lookL (n - 3) (t.drop i) b, ((), (t, ()))))))
  | 0, i, b, out, hi, hk, hb, ho => absurd hk (Nat.not_lt_zero _)
  | k + 1, i, b, out, hi, hk, hb, ho => by
    show i_allTriangulations_1_f (recN i_allTriangulations_1_f k) _ = _
    have hp : 1 ≤ 2 ^ (t.length - i) := Nat.one_le_two_pow
    have w0 : w64 ((n : Int) - 3) = ((n - 3 : Nat) : Int) := by rw [w64_id (by omega) (by omega)]; omega
    simp only [i_allTriangulations_1_f, i_allTriangulations_1_t, T.run, w0]
    by_cases hl : b.length = n - 3
    · have hc : slices_Clone_Diagonal b = some ((), b) := by
        unfold slices_Clone_Diagonal
        rw [if_pos]
        exact ⟨by unfold maxLen; omega, by omega⟩
      have e : ((b.length : Int) == ((n - 3 : Nat) : Int)) = true := by simp; omega
      have c1 : 2 * ((out.length + 1) * (24 + 1)) ≤ 140737488355328 := by omega
      have hone : win (List.set (List.replicate 1 ([] : List Dg)) 0 b) 0 1 = [b] := rfl
      unfold lookL
      rw [if_pos hl]
      simp only [e, if_true, hc, Option.bind_some, Nat.zero_add, Nat.le_refl, decide_true, win_all, hone, List.length_cons, List.length_nil, c1, List.length_set, List.length_replicate, List.length_append, true_and]
    · have e : ((b.length : Int) == ((n - 3 : Nat) : Int)) = false := by simp; omega
      unfold lookL
      rw [if_neg hl]
      have h3 := i_look_loop n t b (recN i_allTriangulations_1_f k) hn ht (by omega) (t.length - i) i out (by omega) ho (fun j o h1 h2 h3 => by
        exact i_look_eq n t hn ht k (j + 1) (b ++ [gD t j]) o (by omega) (by omega) (by simp; omega) h3)
      simp only [e, Bool.false_eq_true, if_false, true_and, decide_true, if_true, h3, Option.bind_some]


def i_allTriangulations_sh : FSh := ⟨[(.one (.si .i64))], []⟩

def i_allTriangulations_fo : List FO := [⟨[(.one (.rw 0 0))], [(.row 0 (.list true (.pair (.int .i64) (.int .i64))))]⟩]
noncomputable def i_allTriangulations_t : Int → T (Unit × List (List ((Int × Int)))) := fun n =>
  (.sub (i_allDiagonals n) fun z0 =>
  (.test (decide ((0 = 0) ∧ (0 = (List.length (List.replicate 0 ([] : List (Int × Int)))))))
  (.test (decide ((0 = 0) ∧ ((List.length z0.2) = (List.length z0.2))))
   (.sub (i_allTriangulations_1 ((([] : List (Int × Int)), ((0 : Int), ((), ((), ((), ()))))), (n, ((), ((List.replicate 0 ([] : List (Int × Int))), ((), (z0.2, ()))))))) fun z1 =>
    (.test (decide ((0 = 0) ∧ ((List.length z1.2.2.2.1) = (List.length z1.2.2.2.1))))
    (.ret ((), z1.2.2.2.1))
    .fail))
   .fail)
  .fail))
noncomputable def i_allTriangulations (v : Int) : Option (Unit × List (List ((Int × Int)))) := (i_allTriangulations_t v).run
noncomputable def i_allTriangulations_E : TEnv := ((E0.add1 n_i_allDiagonals i_allDiagonals_sh i_allDiagonals_fo i_allDiagonals).add1 n_i_allTriangulations_1 i_allTriangulations_1_sh i_allTriangulations_1_fo i_allTriangulations_1)
theorem i_allTriangulations_Eok : (i_allTriangulations_E).OK := ((E0ok.add1 i_allDiagonals_ok).add1 i_allTriangulations_1_ok)
noncomputable def i_allTriangulations_told : Nat → Option SealT := fun id => none
theorem i_allTriangulations_ok : FOK Tryz.prog n_i_allTriangulations i_allTriangulations_sh i_allTriangulations_fo i_allTriangulations :=
  fn_ok (E := i_allTriangulations_E) (i_allTriangulations_Eok) (told := i_allTriangulations_told) (fl := []) (c := bodyOf fn_i_allTriangulations) (s := i_allTriangulations_sh) (l := i_allTriangulations_fo) (tree := i_allTriangulations_t) fnat_i_allTriangulations (by kernel_rfl) (by kernel_rfl) (by kernel_rfl) (loopsOK_of (ls := []) (by kernel_rfl) trivial) (fun v => by kernel_rfl)

theorem i_allTriangulations_eq (n : Nat) (hn : 3 ≤ n ∧ n ≤ 9) : i_allTriangulations (n : Int) = some ((), allT n) := by
  have hd := dgL_len n hn.2
  have hp : 2 ^ ((dgL n).length - 0) ≤ 2 ^ 27 := Nat.pow_le_pow_right (by omega) (by omega)
  have h27 : (2 : Nat) ^ 27 = 134217728 := by decide
  have h := i_look_eq n (dgL n) hn hd recLim 0 [] [] (by omega) (by unfold recLim; omega) (by simp; omega) (by simp only [List.length_nil]; omega)
  rw [List.drop_zero, List.nil_append, Int.natCast_zero] at h
  simp only [i_allTriangulations, i_allTriangulations_t, T.run, i_allDiagonals_eq n hn.2, Option.bind_some, List.replicate_zero, List.length_nil, true_and, decide_true, if_true]
  have h' : i_allTriangulations_1 ((([] : List (Int × Int)), ((0 : Int), ((), ((), ((), ()))))), ((n : Int), ((), (([] : List (List (Int × Int))), ((), (dgL n, ())))))) = some ((), ((n : Int), ((), (lookL (n - 3) (dgL n) [], ((), (dgL n, ())))))) := h
  rw [h']
  rfl


def math_bits_Mul_sh : FSh := ⟨[.one (.si .u64), .one (.si .u64)], []⟩
def math_bits_Mul_fo : List FO := [⟨[.one (.si .u64), .one (.si .u64)], []⟩]
def math_bits_Mul (v : Int × Int) : Option (Int × Int) := if 0 ≤ v.1 ∧ v.1 < 18446744073709551616 ∧ 0 ≤ v.2 ∧ v.2 < 18446744073709551616 then some (((v.1.toNat * v.2.toNat / 18446744073709551616 : Nat) : Int), ((v.1.toNat * v.2.toNat % 18446744073709551616 : Nat) : Int)) else none
def math_bits_Mul_ren : Shelf.Ren := ⟨fun k => if k = 212 then n_math_bits_Mul else if k = 263 then 98 else 99, fun t => if t = 46 then 70 else if t = 51 then 89 else if t = 146 then 106 else if t = 148 then 108 else 91, fun x => x⟩
theorem math_bits_Mul_lay : Lays.n212 Tryz.prog math_bits_Mul_ren :=
  { mixed := by kernel_rfl, f212 := by kernel_rfl, f263 := by kernel_rfl, f264 := by kernel_rfl, t46 := by kernel_rfl, a46 := fun w => by kernel_rfl, z46 := fun w => by kernel_rfl, v46 := fun w => by kernel_rfl, t51 := by kernel_rfl, a51 := fun w => by kernel_rfl, z51 := fun w => by kernel_rfl, v51 := fun w => by kernel_rfl, t53 := by kernel_rfl, a53 := fun w => by kernel_rfl, z53 := fun w => by kernel_rfl, v53 := fun w => by kernel_rfl, t146 := by kernel_rfl, a146 := fun w => by kernel_rfl, z146 := fun w => by kernel_rfl, v146 := fun w => by kernel_rfl, t148 := by kernel_rfl, a148 := fun w => by kernel_rfl, z148 := fun w => by kernel_rfl, v148 := fun w => by kernel_rfl }
theorem math_bits_Mul_ok : FOK Tryz.prog n_math_bits_Mul math_bits_Mul_sh math_bits_Mul_fo math_bits_Mul :=
  bitsMul_ok ⟨_, fnat_math_bits_Mul, by kernel_rfl, by kernel_rfl⟩ (ρr := math_bits_Mul_ren) rfl math_bits_Mul_lay

def slices_Repeat_int_sh : FSh := ⟨[(.one (.sl (.int .i64) false false)), (.one (.si .i64))], []⟩

def slices_Repeat_int_L8_sh : LSh := ⟨(fun ex => match ex with | .norm => [(7, none), (8, none)] | .exit i => if i = 0 then [(7, none)] else [] | .ret => [(4, none)]), [(7, (.one (.rw 0 0))), (8, (.one (.si .i64)))], [(.row 0 (.int .i64))], [⟨(.exit 0), [(7, (.one (.rw 0 0)))], [(.row 0 (.int .i64))]⟩], [], []⟩
noncomputable def slices_Repeat_int_L8_step : ((Unit × Int) × List (Int)) → T (((Unit × Int) × List (Int)) ⊕ (Unit × List (Int))) := fun (((), n), newslice) =>
  (.test (decide (n < ((List.length newslice) : Int)))
  (.test (decide (0 ≤ n))
   (.test (decide (((Int.toNat n) ≤ (List.length newslice)) ∧ ((List.length newslice) ≤ (List.length newslice))))
    (.test (decide (0 ≤ n))
     (.test (decide ((0 ≤ (Int.toNat n)) ∧ ((Int.toNat n) ≤ (List.length newslice))))
      (.test (decide ((0 + ((Int.toNat n) - 0)) ≤ (List.length newslice)))
       (.test (decide ((0 < (min (List.length (win newslice 0 ((Int.toNat n) - 0))) ((List.length newslice) - (Int.toNat n)))) ∧ (((0 + (Int.toNat n)) + ((List.length newslice) - (Int.toNat n))) ≤ (List.length newslice))))
        (.test (decide ((0 = 0) ∧ ((List.length newslice) = (List.length (spliceT newslice (0 + (Int.toNat n)) (List.take (min (List.length (win newslice 0 ((Int.toNat n) - 0))) ((List.length newslice) - (Int.toNat n))) (win newslice 0 ((Int.toNat n) - 0))))))))
         (.ret (Sum.inl (((), (w64 (n + (((min (List.length (win newslice 0 ((Int.toNat n) - 0))) ((List.length newslice) - (Int.toNat n))) : Nat) : Int)))), (spliceT newslice (0 + (Int.toNat n)) (List.take (min (List.length (win newslice 0 ((Int.toNat n) - 0))) ((List.length newslice) - (Int.toNat n))) (win newslice 0 ((Int.toNat n) - 0)))))))
         .fail)
        .fail)
       .fail)
      .fail)
     .fail)
    .fail)
   .fail)
  (.test (decide ((0 = 0) ∧ ((List.length newslice) = (List.length newslice))))
   (.ret (Sum.inr ((), newslice)))
   .fail))
noncomputable def slices_Repeat_int_L8 (v : ((Unit × Int) × List (Int))) : Option (Unit × List (Int)) := loopO (fun v => (slices_Repeat_int_L8_step v).run) v

def slices_Repeat_int_fo : List FO := [⟨[(.one (.rw 0 0))], [(.row 0 (.int .i64))]⟩]
noncomputable def slices_Repeat_int_t : (List (Int) × Int) → T (Unit × List (Int)) := fun (x, count) =>
  (.test (decide (count < 0))
  .fail
  (.sub (math_bits_Mul ((wu64 ((List.length x) : Int)), (wu64 count))) fun z0 =>
   (.test (decide (z0.1 > 0))
   .fail
   (.test (decide (z0.2 > 9223372036854775807))
    .fail
    (.test (decide ((0 ≤ (w64 z0.2)) ∧ (((w64 z0.2) ≤ (w64 z0.2)) ∧ (((Int.toNat (w64 z0.2)) * 9) ≤ 140737488355328))))
     (.test (decide ((0 < (min (List.length x) (Int.toNat (w64 z0.2)))) ∧ ((0 + (Int.toNat (w64 z0.2))) ≤ (List.length (List.replicate (Int.toNat (w64 z0.2)) (0 : Int))))))
      (.test (decide ((0 = 0) ∧ ((Int.toNat (w64 z0.2)) = (List.length (spliceT (List.replicate (Int.toNat (w64 z0.2)) (0 : Int)) 0 (List.take (min (List.length x) (Int.toNat (w64 z0.2))) x))))))
       (.sub (slices_Repeat_int_L8 (((), (((min (List.length x) (Int.toNat (w64 z0.2))) : Nat) : Int)), (spliceT (List.replicate (Int.toNat (w64 z0.2)) (0 : Int)) 0 (List.take (min (List.length x) (Int.toNat (w64 z0.2))) x)))) fun z1 =>
        (.test (decide ((0 = 0) ∧ ((List.length z1.2) = (List.length z1.2))))
        (.ret ((), z1.2))
        .fail))
       .fail)
      .fail)
     .fail)))))
noncomputable def slices_Repeat_int (v : (List (Int) × Int)) : Option (Unit × List (Int)) := (slices_Repeat_int_t v).run
noncomputable def slices_Repeat_int_E : TEnv := (E0.add1 n_math_bits_Mul math_bits_Mul_sh math_bits_Mul_fo math_bits_Mul)
theorem slices_Repeat_int_Eok : (slices_Repeat_int_E).OK := (E0ok.add1 math_bits_Mul_ok)
noncomputable def slices_Repeat_int_told : Nat → Option SealT := fun id => if id = 8 then some (LSh.told slices_Repeat_int_L8_sh 0 (slices_Repeat_int_L8_step)) else none
theorem slices_Repeat_int_L8_ok : ToldOK Tryz.prog 0 (loopAt (bodyOf fn_slices_Repeat_int) [0]) (LSh.told slices_Repeat_int_L8_sh 0 (slices_Repeat_int_L8_step)) :=
  loop_ok (E := slices_Repeat_int_E) (slices_Repeat_int_Eok) (told := slices_Repeat_int_told) (l := slices_Repeat_int_L8_sh) (step := slices_Repeat_int_L8_step) (loopsOK_of (ls := []) (by kernel_rfl) trivial) (by kernel_rfl) (fun v => by kernel_rfl)
theorem slices_Repeat_int_ok : FOK Tryz.prog n_slices_Repeat_int slices_Repeat_int_sh slices_Repeat_int_fo slices_Repeat_int :=
  fn_ok (E := slices_Repeat_int_E) (slices_Repeat_int_Eok) (told := slices_Repeat_int_told) (fl := []) (c := bodyOf fn_slices_Repeat_int) (s := slices_Repeat_int_sh) (l := slices_Repeat_int_fo) (tree := slices_Repeat_int_t) fnat_slices_Repeat_int (by kernel_rfl) (by kernel_rfl) (by kernel_rfl) (loopsOK_of (ls := [loopAt (bodyOf fn_slices_Repeat_int) [0]]) (by kernel_rfl) ⟨.inr ⟨_, by kernel_rfl, slices_Repeat_int_L8_ok⟩, trivial⟩) (fun v => by kernel_rfl)

theorem slices_Repeat_int_one (n : Nat) (h1 : 1 ≤ n) (h2 : n ≤ 1000000) : slices_Repeat_int ([1], (n : Int)) = some ((), List.replicate n 1) := by
  have hm : math_bits_Mul (wu64 (([1] : List Int).length : Int), wu64 (n : Int)) = some (0, (n : Int)) := by
    have e1 : wu64 (([1] : List Int).length : Int) = 1 := IntWalk.u64_in _ ⟨by simp, by simp⟩
    have e2 : wu64 (n : Int) = (n : Int) := IntWalk.u64_in _ ⟨by omega, by omega⟩
    rw [e1, e2]
    unfold math_bits_Mul
    simp only []
    rw [if_pos ⟨by omega, by omega, by omega, by omega⟩]
    have t1 : (1 : Int).toNat = 1 := rfl
    rw [t1, Int.toNat_natCast, Nat.one_mul, Nat.div_eq_of_lt (by omega), Nat.mod_eq_of_lt (by omega)]
    rfl
  have hl : ∀ m k, k + m = n → 1 ≤ k → slices_Repeat_int_L8 (((), (k : Int)), List.replicate k 1 ++ List.replicate (n - k) 0) = some ((), List.replicate n 1) := by
    intro m
    induction m using Nat.strongRecOn with
    | ind m ih =>
      intro k hk hk1
      have hlen : (List.replicate k (1 : Int) ++ List.replicate (n - k) 0).length = n := by simp; omega
      by_cases hm : m = 0
      · have : k = n := by omega
        subst this
        rw [Nat.sub_self, List.replicate_zero, List.append_nil]
        simp only [slices_Repeat_int_L8]
        exact loopO_done (by simp [slices_Repeat_int_L8_step, T.run])
      · have ih := ih (m - min k (n - k)) (by omega) (k + min k (n - k)) (by omega) (by omega)
        simp only [slices_Repeat_int_L8] at ih ⊢
        rw [← ih]
        refine loopO_next ?_
        have c0 : (k : Int) < (n : Int) := by omega
        have c1 : (0 : Int) ≤ (k : Int) := by omega
        have c2 : k ≤ n ∧ n ≤ n := by omega
        have c3 : 0 ≤ k ∧ k ≤ n := by omega
        have tw : win (List.replicate k (1 : Int) ++ List.replicate (n - k) 0) 0 (k - 0) = List.replicate k 1 := by
          rw [win_take, Nat.sub_zero, List.take_left' (by simp)]
        have c4 : 0 + (k - 0) ≤ n := by omega
        have c5 : 0 < min k (n - k) ∧ 0 + k + (n - k) ≤ n := by omega
        have w1 : w64 ((k : Int) + ((min k (n - k) : Nat) : Int)) = ((k + min k (n - k) : Nat) : Int) := by rw [w64_id (by omega) (by omega)]; omega
        have sp : spliceT (List.replicate k (1 : Int) ++ List.replicate (n - k) 0) (0 + k) (List.take (min k (n - k)) (List.replicate k 1)) = List.replicate (k + min k (n - k)) 1 ++ List.replicate (n - (k + min k (n - k))) 0 := by
          unfold spliceT
          rw [Nat.zero_add, List.take_left' (by simp), List.take_replicate, List.length_replicate, List.drop_append, List.drop_replicate, List.drop_replicate, List.length_replicate]
          rw [show k - (k + min (min k (n - k)) k) = 0 by omega, show min (min k (n - k)) k = min k (n - k) by omega, show n - k - (k + min k (n - k) - k) = n - (k + min k (n - k)) by omega, List.replicate_zero, List.nil_append, ← List.append_assoc, List.replicate_append_replicate]
        have lsp : n = (List.replicate (k + min k (n - k)) (1 : Int) ++ List.replicate (n - (k + min k (n - k))) 0).length := by simp; omega
        simp only [slices_Repeat_int_L8_step, T.run, hlen, c0, c1, c2, c3, c4, c5, decide_true, if_true, and_self, Int.toNat_natCast, tw, List.length_replicate, sp, w1]
        rw [← lsp]
        simp
  simp only [slices_Repeat_int, slices_Repeat_int_t, T.run, hm, Option.bind_some]
  have w1 : w64 (n : Int) = (n : Int) := w64_id (by omega) (by omega)
  have c0 : ¬ ((n : Int) < 0) := by omega
  have c1 : ¬ ((n : Int) > 9223372036854775807) := by omega
  have c2 : 0 ≤ (n : Int) ∧ (n : Int) ≤ (n : Int) ∧ n * 9 ≤ 140737488355328 := by omega
  have m1 : min ([1] : List Int).length n = 1 := by simp; omega
  have sp : spliceT (List.replicate n (0 : Int)) 0 (List.take 1 [1]) = List.replicate 1 1 ++ List.replicate (n - 1) 0 := by
    unfold spliceT
    simp
  have lsp : n = (List.replicate 1 (1 : Int) ++ List.replicate (n - 1) 0).length := by simp; omega
  simp only [c0, c1, w1, decide_false, Bool.false_eq_true, if_false, Int.toNat_natCast, c2, and_self, decide_true, if_true, m1, sp, hl (n - 1) 1 (by omega) (Nat.le_refl 1), Option.bind_some]
  simp only [List.length_replicate, Nat.zero_add]
  rw [← lsp]
  simp


def i_quiddity_sh : FSh := ⟨[(.one (.si .i64)), (.one (.sl (.pair (.int .i64) (.int .i64)) false false))], []⟩

def i_quiddity_L3_sh : LSh := ⟨(fun ex => match ex with | .norm => [(5, none), (11, none), (12, none), (13, none)] | .exit i => if i = 0 then [(5, none)] else [] | .ret => [(4, none)]), [(5, (.one (.rw 0 0))), (11, (.one (.sl (.pair (.int .i64) (.int .i64)) false false))), (12, (.one (.si .i64))), (13, (.one (.si .i64)))], [(.row 0 (.int .i64))], [⟨(.exit 0), [(5, (.one (.rw 0 0)))], [(.row 0 (.int .i64))]⟩], [], []⟩
noncomputable def i_quiddity_L3_step : ((Unit × List ((Int × Int)) × Int × Int) × List (Int)) → T (((Unit × List ((Int × Int)) × Int × Int) × List (Int)) ⊕ (Unit × List (Int))) := fun (((), t11, t12, t13), out) =>
  (.test (decide (t13 < t12))
  (.test (decide ((0 ≤ t13) ∧ (t13 < ((List.length t11) : Int))))
   (.sub (t11[(Int.toNat t13)]?) fun z0 =>
    (.test (decide ((0 ≤ z0.1) ∧ (z0.1 < ((List.length out) : Int))))
    (.sub (out[(0 + (Int.toNat z0.1))]?) fun z1 =>
     (.test (decide ((0 ≤ z0.1) ∧ (z0.1 < ((List.length out) : Int))))
     (.sub (out[(0 + (Int.toNat z0.1))]?) fun z2 =>
      (.test (decide ((0 ≤ z0.2) ∧ (z0.2 < ((List.length out) : Int))))
      (.sub ((List.set out (0 + (Int.toNat z0.1)) (w64 (z1 + 1)))[(0 + (Int.toNat z0.2))]?) fun z3 =>
       (.test (decide ((0 ≤ z0.2) ∧ (z0.2 < ((List.length out) : Int))))
       (.sub ((List.set out (0 + (Int.toNat z0.1)) (w64 (z1 + 1)))[(0 + (Int.toNat z0.2))]?) fun z4 =>
        (.test (decide ((0 = 0) ∧ ((List.length out) = (List.length (List.set (List.set out (0 + (Int.toNat z0.1)) (w64 (z1 + 1))) (0 + (Int.toNat z0.2)) (w64 (z3 + 1)))))))
        (.ret (Sum.inl (((), (t11, (t12, (w64 (t13 + 1))))), (List.set (List.set out (0 + (Int.toNat z0.1)) (w64 (z1 + 1))) (0 + (Int.toNat z0.2)) (w64 (z3 + 1))))))
        .fail))
       .fail))
      .fail))
     .fail))
    .fail))
   .fail)
  (.test (decide ((0 = 0) ∧ ((List.length out) = (List.length out))))
   (.ret (Sum.inr ((), out)))
   .fail))
noncomputable def i_quiddity_L3 (v : ((Unit × List ((Int × Int)) × Int × Int) × List (Int))) : Option (Unit × List (Int)) := loopO (fun v => (i_quiddity_L3_step v).run) v

def i_quiddity_fo : List FO := [⟨[(.one (.rw 0 0))], [(.row 0 (.int .i64))]⟩]
noncomputable def i_quiddity_t : (Int × List ((Int × Int))) → T (Unit × List (Int)) := fun (n, ds) =>
  (.test true
  (.sub (slices_Repeat_int ((win (List.set (List.replicate 1 (0 : Int)) 0 (1 : Int)) 0 1), n)) fun z0 =>
   (.test (decide ((0 = 0) ∧ ((List.length z0.2) = (List.length z0.2))))
   (.sub (i_quiddity_L3 (((), (ds, (((List.length ds) : Int), (0 : Int)))), z0.2)) fun z1 =>
    (.test (decide ((0 = 0) ∧ ((List.length z1.2) = (List.length z1.2))))
    (.ret ((), z1.2))
    .fail))
   .fail))
  .fail)
noncomputable def i_quiddity (v : (Int × List ((Int × Int)))) : Option (Unit × List (Int)) := (i_quiddity_t v).run
noncomputable def i_quiddity_E : TEnv := (E0.add1 n_slices_Repeat_int slices_Repeat_int_sh slices_Repeat_int_fo slices_Repeat_int)
theorem i_quiddity_Eok : (i_quiddity_E).OK := (E0ok.add1 slices_Repeat_int_ok)
noncomputable def i_quiddity_told : Nat → Option SealT := fun id => if id = 3 then some (LSh.told i_quiddity_L3_sh 0 (i_quiddity_L3_step)) else none
theorem i_quiddity_L3_ok : ToldOK Tryz.prog 0 (loopAt (bodyOf fn_i_quiddity) [0]) (LSh.told i_quiddity_L3_sh 0 (i_quiddity_L3_step)) :=
  loop_ok (E := i_quiddity_E) (i_quiddity_Eok) (told := i_quiddity_told) (l := i_quiddity_L3_sh) (step := i_quiddity_L3_step) (loopsOK_of (ls := []) (by kernel_rfl) trivial) (by kernel_rfl) (fun v => by kernel_rfl)
theorem i_quiddity_ok : FOK Tryz.prog n_i_quiddity i_quiddity_sh i_quiddity_fo i_quiddity :=
  fn_ok (E := i_quiddity_E) (i_quiddity_Eok) (told := i_quiddity_told) (fl := []) (c := bodyOf fn_i_quiddity) (s := i_quiddity_sh) (l := i_quiddity_fo) (tree := i_quiddity_t) fnat_i_quiddity (by kernel_rfl) (by kernel_rfl) (by kernel_rfl) (loopsOK_of (ls := [loopAt (bodyOf fn_i_quiddity) [0]]) (by kernel_rfl) ⟨.inr ⟨_, by kernel_rfl, i_quiddity_L3_ok⟩, trivial⟩) (fun v => by kernel_rfl)

theorem i_quiddity_eq (n : Nat) (ds : List Dg) (hn : 1 ≤ n ∧ n ≤ 1000000) (hl : ds.length < 1000000) (h : ∀ d ∈ ds, 0 ≤ d.1 ∧ d.1 < d.2 ∧ d.2 < (n : Int)) : i_quiddity ((n : Int), ds) = some ((), quid n ds) := by
  have hl' := loop_fold (step := fun v => (i_quiddity_L3_step v).run) (xs := ds) (fun k (s : List Int) => s.length = n ∧ ∀ p, p < n → 0 ≤ s.getD p 0 ∧ s.getD p 0 ≤ k + 1) (fun k s => (((), (ds, ((ds.length : Int), (k : Int)))), s)) bumpD (fun s => ((), s))
    (fun k s d hP hd => by
      obtain ⟨hs, hb⟩ := hP
      have hlt := getElem?_lt hd
      obtain ⟨q1, q2, q3⟩ := h d (List.mem_of_getElem? hd)
      refine ⟨?_, by rw [bumpD_length, hs], fun p hp => ?_⟩
      · have c0 : (k : Int) < (ds.length : Int) := by omega
        have c1 : (0 : Int) ≤ (k : Int) ∧ (k : Int) < (ds.length : Int) := by omega
        have w1 : w64 ((k : Int) + 1) = ((k + 1 : Nat) : Int) := by rw [w64_id (by omega) (by omega)]; omega
        have c2 : 0 ≤ d.1 ∧ d.1 < (s.length : Int) := by omega
        have c3 : 0 ≤ d.2 ∧ d.2 < (s.length : Int) := by omega
        have b1 := hb d.1.toNat (by omega)
        have b2 := hb d.2.toNat (by omega)
        have g1 : s[d.1.toNat]? = some (s.getD d.1.toNat 0) := by rw [List.getD_eq_getElem?_getD, List.getElem?_eq_getElem (by omega)]; rfl
        have g2 : s[d.2.toNat]? = some (s.getD d.2.toNat 0) := by rw [List.getD_eq_getElem?_getD, List.getElem?_eq_getElem (by omega)]; rfl
        have w2 : w64 (s.getD d.1.toNat 0 + 1) = s.getD d.1.toNat 0 + 1 := w64_id (by omega) (by omega)
        have w3 : w64 (s.getD d.2.toNat 0 + 1) = s.getD d.2.toNat 0 + 1 := w64_id (by omega) (by omega)
        have g3 : (s.set d.1.toNat (s.getD d.1.toNat 0 + 1))[d.2.toNat]? = some (s.getD d.2.toNat 0) := by rw [List.getElem?_set_ne (by omega)]; exact g2
        simp only [i_quiddity_L3_step, T.run, c0, c1, c2, c3, decide_true, if_true, and_self, Int.toNat_natCast, hd, Option.bind_some, Nat.zero_add, g1, w2, g3, w3, w1]
        simp [bumpD]
      · rw [bumpD_get q1 q2 (by omega) (by omega)]
        have := hb p hp
        have : 0 ≤ cntD d p ∧ cntD d p ≤ 1 := by unfold cntD; split <;> split <;> omega
        omega)
    (fun s hs => by simp [i_quiddity_L3_step, T.run])
    (List.replicate n 1) ⟨by simp, fun p hp => by rw [List.getD_eq_getElem?_getD, List.getElem?_replicate, if_pos hp]; simp⟩
  have hq : ds.foldl bumpD (List.replicate n 1) = quid n ds := by
    obtain ⟨f1, f2⟩ := bump_fold n ds (List.replicate n 1) (by simp) h
    refine List.ext_getElem (by rw [f1]; simp [quid]) fun p hp _ => ?_
    have := f2 p (by omega)
    rw [List.getD_eq_getElem?_getD, List.getElem?_eq_getElem hp, List.getD_eq_getElem?_getD, List.getElem?_replicate, if_pos (by omega)] at this
    simp only [Option.getD_some] at this
    rw [this]
    simp [quid]
  simp only [Int.natCast_zero] at hl'
  have hw : win (List.set (List.replicate 1 (0 : Int)) 0 (1 : Int)) 0 1 = [1] := rfl
  simp only [i_quiddity, i_quiddity_t, T.run, hw, slices_Repeat_int_one n hn.1 hn.2, Option.bind_some, i_quiddity_L3]
  rw [hl'.1, hq]
  simp


def slices_SortFunc_Lint__slices_Compare_int_sh : FSh := ⟨[.one (.rw 0 0), .one (.fn n_slices_Compare_int)], [.row 0 (.list true (.int .i64))]⟩
def slices_SortFunc_Lint__slices_Compare_int_fo : List FO := [⟨[], [.row 0 (.list true (.int .i64))]⟩]
def slices_SortFunc_Lint__slices_Compare_int (v : (Unit × Unit) × List (List Int)) : Option (Unit × List (List Int)) := if v.2.length < 4611686018427387904 ∧ v.2.all (fun l => decide (l.length ≤ 9223372036854775807)) = true then some ((), sortLL v.2) else none
def slices_SortFunc_Lint__slices_Compare_int_ren : Shelf.Ren := ⟨fun k => if k = 14 then 104 else if k = 15 then 56 else if k = 20 then 106 else if k = 21 then 107 else if k = 22 then 108 else if k = 23 then 109 else if k = 24 then 110 else if k = 25 then 111 else if k = 26 then 112 else if k = 27 then 113 else if k = 28 then 81 else if k = 29 then 82 else if k = 46 then 114 else if k = 47 then 94 else if k = 48 then 95 else if k = 49 then 115 else if k = 50 then 116 else if k = 57 then 117 else 89, fun t => if t = 0 then 0 else if t = 4 then 4 else if t = 5 then 5 else if t = 9 then 9 else if t = 22 then 37 else if t = 24 then 22 else if t = 25 then 97 else if t = 39 then 70 else if t = 45 then 81 else if t = 46 then 82 else if t = 50 then 86 else if t = 53 then 89 else if t = 55 then 91 else if t = 66 then 100 else if t = 70 then 104 else if t = 76 then 113 else if t = 77 then 114 else 3, fun x => x⟩
theorem slices_SortFunc_Lint__slices_Compare_int_lay : SlLaysF.n6 Tryz.prog slices_SortFunc_Lint__slices_Compare_int_ren :=
  { mixed := by kernel_rfl, f6 := ⟨"slices.SortFunc[[][]int,[]int]", by kernel_rfl, by kernel_rfl⟩, f14 := ⟨"slices.pdqsortCmpFunc[[]int]", by kernel_rfl, by kernel_rfl⟩, f15 := by kernel_rfl, f20 := ⟨"slices.insertionSortCmpFunc[[]int]", by kernel_rfl, by kernel_rfl⟩, f21 := ⟨"slices.heapSortCmpFunc[[]int]", by kernel_rfl, by kernel_rfl⟩, f22 := ⟨"slices.breakPatternsCmpFunc[[]int]", by kernel_rfl, by kernel_rfl⟩, f23 := ⟨"slices.choosePivotCmpFunc[[]int]", by kernel_rfl, by kernel_rfl⟩, f24 := ⟨"slices.reverseRangeCmpFunc[[]int]", by kernel_rfl, by kernel_rfl⟩, f25 := ⟨"slices.partialInsertionSortCmpFunc[[]int]", by kernel_rfl, by kernel_rfl⟩, f26 := ⟨"slices.partitionEqualCmpFunc[[]int]", by kernel_rfl, by kernel_rfl⟩, f27 := ⟨"slices.partitionCmpFunc[[]int]", by kernel_rfl, by kernel_rfl⟩, f28 := by kernel_rfl, f29 := by kernel_rfl, f46 := ⟨"slices.siftDownCmpFunc[[]int]", by kernel_rfl, by kernel_rfl⟩, f47 := by kernel_rfl, f48 := by kernel_rfl, f49 := ⟨"slices.medianAdjacentCmpFunc[[]int]", by kernel_rfl, by kernel_rfl⟩, f50 := ⟨"slices.medianCmpFunc[[]int]", by kernel_rfl, by kernel_rfl⟩, f57 := ⟨"slices.order2CmpFunc[[]int]", by kernel_rfl, by kernel_rfl⟩, t0 := by kernel_rfl, a0 := fun w => by kernel_rfl, z0 := fun w => by kernel_rfl, v0 := fun w => by kernel_rfl, t3 := by kernel_rfl, a3 := fun w => by kernel_rfl, z3 := fun w => by kernel_rfl, v3 := fun w => by kernel_rfl, t4 := by kernel_rfl, a4 := fun w => by kernel_rfl, z4 := fun w => by kernel_rfl, v4 := fun w => by kernel_rfl, t5 := by kernel_rfl, a5 := fun w => by kernel_rfl, z5 := fun w => by kernel_rfl, v5 := fun w => by kernel_rfl, t9 := by kernel_rfl, a9 := fun w => by kernel_rfl, z9 := fun w => by kernel_rfl, v9 := fun w => by kernel_rfl, t22 := by kernel_rfl, a22 := fun w => by kernel_rfl, z22 := fun w => by kernel_rfl, v22 := fun w => by kernel_rfl, a24 := fun w => by kernel_rfl, z24 := fun w => by kernel_rfl, t25 := by kernel_rfl, a25 := fun w => by kernel_rfl, z25 := fun w => by kernel_rfl, v25 := fun w => by kernel_rfl, t39 := by kernel_rfl, a39 := fun w => by kernel_rfl, z39 := fun w => by kernel_rfl, v39 := fun w => by kernel_rfl, t45 := by kernel_rfl, a45 := fun w => by kernel_rfl, z45 := fun w => by kernel_rfl, v45 := fun w => by kernel_rfl, t46 := by kernel_rfl, a46 := fun w => by kernel_rfl, z46 := fun w => by kernel_rfl, v46 := fun w => by kernel_rfl, t50 := by kernel_rfl, a50 := fun w => by kernel_rfl, z50 := fun w => by kernel_rfl, v50 := fun w => by kernel_rfl, t53 := by kernel_rfl, a53 := fun w => by kernel_rfl, z53 := fun w => by kernel_rfl, v53 := fun w => by kernel_rfl, t55 := by kernel_rfl, a55 := fun w => by kernel_rfl, z55 := fun w => by kernel_rfl, v55 := fun w => by kernel_rfl, t66 := by kernel_rfl, a66 := fun w => by kernel_rfl, z66 := fun w => by kernel_rfl, v66 := fun w => by kernel_rfl, t70 := by kernel_rfl, a70 := fun w => by kernel_rfl, z70 := fun w => by kernel_rfl, v70 := fun w => by kernel_rfl, t76 := by kernel_rfl, a76 := fun w => by kernel_rfl, z76 := fun w => by kernel_rfl, v76 := fun w => by kernel_rfl, t77 := by kernel_rfl, a77 := fun w => by kernel_rfl, z77 := fun w => by kernel_rfl, v77 := fun w => by kernel_rfl }
def slices_SortFunc_Lint__slices_Compare_int_cr : Shelf.Ren := ⟨fun k => if k = 122 then 58 else 83, fun t => if t = 4 then 4 else 3, fun x => x⟩
theorem slices_SortFunc_Lint__slices_Compare_int_cl : Lays.n122 Tryz.prog slices_SortFunc_Lint__slices_Compare_int_cr := { mixed := by kernel_rfl, f122 := by kernel_rfl, f215 := by kernel_rfl, t3 := by kernel_rfl, a3 := fun w => by kernel_rfl, z3 := fun w => by kernel_rfl, v3 := fun w => by kernel_rfl, t4 := by kernel_rfl, a4 := fun w => by kernel_rfl, z4 := fun w => by kernel_rfl, v4 := fun w => by kernel_rfl }
theorem slices_SortFunc_Lint__slices_Compare_int_c1 (x y : Int) (w : World) : Calls Tryz.prog 58 #[.int .i64 x, .int .i64 y] w fun e w' => e = .returned (.int .i64 (Lib.compareInt x y)) ∧ w' = w := Any.cmp_Compare_int slices_SortFunc_Lint__slices_Compare_int_cl x y w
theorem slices_SortFunc_Lint__slices_Compare_int_dr {xs ys : List Int} : ∀ {k : Nat}, (∀ j, j < k → xs.getD j 0 = ys.getD j 0) → k ≤ xs.length → k ≤ ys.length → cmpL xs ys = cmpL (xs.drop k) (ys.drop k)
  | 0, _, _, _ => rfl
  | k + 1, h, h1, h2 => by
    match xs, ys, h, h1, h2 with
    | x :: xs, y :: ys, h, h1, h2 =>
      have h0 := h 0 (by omega)
      simp only [List.getD_cons_zero] at h0
      subst h0
      have ih := slices_SortFunc_Lint__slices_Compare_int_dr (xs := xs) (ys := ys) (k := k) (fun j hj => by simpa using h (j + 1) (by omega)) (by simpa using h1) (by simpa using h2)
      simpa [cmpL] using ih
set_option maxHeartbeats 2000000 in
set_option maxRecDepth 100000 in
theorem slices_SortFunc_Lint__slices_Compare_int_cw (a1 a2 : Option Addr) (c1 c2 b1 o1 b2 o2 n m : Nat) (xs ys : List Int) (w : World) (hn : n = xs.length) (hm : m = ys.length) (hx : n ≤ 9223372036854775807) (hy : m ≤ 9223372036854775807) (h1 : 0 < n → a1 = some ⟨b1, o1, none⟩) (h2 : 0 < m → a2 = some ⟨b2, o2, none⟩)
    (hc1 : ∀ j, j < n → w.cell? ⟨b1, o1 + j, none⟩ = some (.int .i64 (xs.getD j 0))) (hc2 : ∀ j, j < m → w.cell? ⟨b2, o2 + j, none⟩ = some (.int .i64 (ys.getD j 0))) :
    Calls Tryz.prog 90 #[.slice a1 n c1, .slice a2 m c2] w fun e w' => e = .returned (.int .i64 (cmpL xs ys)) ∧ ∃ q, w' = w.drewN q := by
  have mixed : Tryz.prog.follows .mixedOrders = true := by kernel_rfl
  have t0 : Tryz.prog.underlying 0 = some (TypeDesc.tuple #[]) := by kernel_rfl
  have a0 : ∀ w, (isAgg 0).run Tryz.prog w = .ok false w := fun w => by kernel_rfl
  have z0 : ∀ w, (Go.sizeOf 0).run Tryz.prog w = .ok 1 w := fun w => by kernel_rfl
  have v0 : ∀ w, (zeroValue 0).run Tryz.prog w = .ok (Value.tuple #[]) w := fun w => by kernel_rfl
  have t3 : Tryz.prog.underlying 3 = some (TypeDesc.int IntKind.i64) := by kernel_rfl
  have a3 : ∀ w, (isAgg 3).run Tryz.prog w = .ok false w := fun w => by kernel_rfl
  have z3 : ∀ w, (Go.sizeOf 3).run Tryz.prog w = .ok 1 w := fun w => by kernel_rfl
  have v3 : ∀ w, (zeroValue 3).run Tryz.prog w = .ok (Value.int IntKind.i64 0) w := fun w => by kernel_rfl
  have t4 : Tryz.prog.underlying 4 = some (TypeDesc.bool) := by kernel_rfl
  have a4 : ∀ w, (isAgg 4).run Tryz.prog w = .ok false w := fun w => by kernel_rfl
  have z4 : ∀ w, (Go.sizeOf 4).run Tryz.prog w = .ok 1 w := fun w => by kernel_rfl
  have v4 : ∀ w, (zeroValue 4).run Tryz.prog w = .ok (Value.bool false) w := fun w => by kernel_rfl
  have t22 : Tryz.prog.underlying 22 = some (TypeDesc.slice 3) := by kernel_rfl
  have a22 : ∀ w, (isAgg 22).run Tryz.prog w = .ok false w := fun w => by kernel_rfl
  have z22 : ∀ w, (Go.sizeOf 22).run Tryz.prog w = .ok 1 w := fun w => by kernel_rfl
  have v22 : ∀ w, (zeroValue 22).run Tryz.prog w = .ok (Value.slice none 0 0) w := fun w => by kernel_rfl
  have e104 : ∀ args w, (callFunc 58 args).run Tryz.prog w = .ok (.enter 58 args) w := enters_of Tryz.func58 (by kernel_rfl) rfl
  have K1 : Aside (∀ j, j < n → w.cell? ⟨b1, o1 + j, none⟩ = some (.int .i64 (xs.getD j 0))) := hc1
  have K2 : Aside (∀ j, j < m → w.cell? ⟨b2, o2 + j, none⟩ = some (.int .i64 (ys.getD j 0))) := hc2
  have KN : Aside (n = xs.length ∧ m = ys.length) := ⟨hn, hm⟩
  clear hc1 hc2 hn hm
  go_enter Tryz.func90, Tryz.ntmps90
  go_wp2
  go_loopg [11] n (fun g s11 wr => ∃ k q : Nat, k ≤ n ∧ k ≤ m ∧ n - k ≤ g ∧ s11 = .int .i64 k ∧ wr = w.drewN q ∧ Aside (∀ j, j < k → xs.getD j 0 = ys.getD j 0))
  case atStart => exact ⟨0, 0, Nat.zero_le _, Nat.zero_le _, by omega, rfl, rfl, fun j hj => absurd hj (Nat.not_lt_zero _)⟩
  case round =>
    obtain ⟨k, q, hk, hkm, hg, rfl, rfl, heq⟩ := hrel
    by_cases hlt : k < n
    · obtain rfl := h1 (by omega)
      have g1 : w.cell? ⟨b1, o1 + k, none⟩ = some (.int .i64 (xs.getD k 0)) := K1.out k (by omega)
      generalize hxk : xs.getD k 0 = x at g1
      have B : Aside (xs.getD k 0 = x) := hxk
      clear hxk
      by_cases hlm : k < m
      · obtain rfl := h2 (by omega)
        have g2 : w.cell? ⟨b2, o2 + k, none⟩ = some (.int .i64 (ys.getD k 0)) := K2.out k (by omega)
        generalize hyk : ys.getD k 0 = y at g2
        have B2 : Aside (ys.getD k 0 = y) := hyk
        clear hyk
        have hd : cmpL xs ys = if x < y then -1 else if y < x then 1 else cmpL (xs.drop (k + 1)) (ys.drop (k + 1)) := by
          obtain ⟨e1, e2⟩ := KN.out
          rw [slices_SortFunc_Lint__slices_Compare_int_dr heq.out (by omega) (by omega), List.drop_eq_getElem_cons (i := k) (l := xs) (by omega), List.drop_eq_getElem_cons (i := k) (l := ys) (by omega)]
          rw [← B.out, ← B2.out, List.getD_eq_getElem?_getD, List.getD_eq_getElem?_getD, List.getElem?_eq_getElem (l := xs) (by omega), List.getElem?_eq_getElem (l := ys) (by omega)]
          rfl
        have D : Aside (cmpL xs ys = if x < y then -1 else if y < x then 1 else cmpL (xs.drop (k + 1)) (ys.drop (k + 1))) := hd
        clear hd
        rcases Int.lt_trichotomy x y with hxy | hxy | hxy
        · have hc : Lib.compareInt x y = -1 := by unfold Lib.compareInt; rw [if_pos hxy]
          have DD : Aside (cmpL xs ys = -1) := by have := D.out; rwa [if_pos hxy] at this
          go_wp2_with fail
          refine (slices_SortFunc_Lint__slices_Compare_int_c1 x y _).mono ?_
          rintro e w' ⟨rfl, rfl⟩
          rw [hc]
          go_wp2
          go_ret
          exact ⟨by rw [DD.out]; rfl, q, rfl⟩
        · subst hxy
          have hc : Lib.compareInt x x = 0 := by unfold Lib.compareInt; rw [if_neg (Int.lt_irrefl x), if_neg (Int.lt_irrefl x)]
          go_wp2_with fail
          refine (slices_SortFunc_Lint__slices_Compare_int_c1 x x _).mono ?_
          rintro e w' ⟨rfl, rfl⟩
          rw [hc]
          go_wp2
          go_roundg (n - (k + 1))
          case measure => omega
          case rel =>
            refine ⟨k + 1, q, by omega, by omega, by omega, by go_num, rfl, fun j hj => ?_⟩
            by_cases e : j = k
            · subst e
              rw [B.out, B2.out]
            · exact heq.out j (by omega)
        · have hc : Lib.compareInt x y = 1 := by unfold Lib.compareInt; rw [if_neg (by omega), if_pos hxy]
          have DD : Aside (cmpL xs ys = 1) := by have := D.out; rwa [if_neg (by omega), if_pos hxy] at this
          go_wp2_with fail
          refine (slices_SortFunc_Lint__slices_Compare_int_c1 x y _).mono ?_
          rintro e w' ⟨rfl, rfl⟩
          rw [hc]
          go_wp2
          go_ret
          exact ⟨by rw [DD.out]; rfl, q, rfl⟩
      · have D0 : cmpL xs ys = 1 := by
          obtain ⟨e1, e2⟩ := KN.out
          have hkm' : k = m := by omega
          rw [slices_SortFunc_Lint__slices_Compare_int_dr heq.out (by omega) (by omega), List.drop_eq_getElem_cons (i := k) (l := xs) (by omega), List.drop_of_length_le (l := ys) (by omega)]
          rfl
        have DD : Aside (cmpL xs ys = 1) := D0
        clear D0
        go_wp2_with fail
        go_ret
        exact ⟨by rw [DD.out]; rfl, q, rfl⟩
    · have : k = n := by omega
      subst this
      obtain ⟨e1, e2⟩ := KN.out
      have hd : cmpL xs ys = cmpL [] (ys.drop k) := by
        rw [slices_SortFunc_Lint__slices_Compare_int_dr heq.out (by omega) (by omega), List.drop_of_length_le (l := xs) (by omega)]
      by_cases hkm2 : k < m
      · have DD : Aside (cmpL xs ys = -1) := by
          show _ = _
          rw [hd, List.drop_eq_getElem_cons (i := k) (l := ys) (by omega)]
          rfl
        clear hd e1 e2
        go_wp2
        go_ret
        exact ⟨by rw [DD.out]; rfl, q, rfl⟩
      · have DD : Aside (cmpL xs ys = 0) := by
          show _ = _
          rw [hd, List.drop_of_length_le (l := ys) (by omega)]
          rfl
        clear hd e1 e2
        go_wp2
        go_ret
        exact ⟨by rw [DD.out]; rfl, q, rfl⟩

theorem slices_SortFunc_Lint__slices_Compare_int_cok : CmpOK Tryz.prog 90 := by
  intro a1 c1 a2 c2 xs ys W hx hy h1 h2
  have split : ∀ (a : Option Addr) (xs : List Int), LInt W a xs → ∃ b o, (0 < xs.length → a = some ⟨b, o, none⟩) ∧ ∀ j, j < xs.length → W.cell? ⟨b, o + j, none⟩ = some (.int .i64 (xs.getD j 0)) := fun a xs h => by
    rcases h with rfl | ⟨b, o, ha, hc⟩
    · exact ⟨0, 0, fun h => absurd h (Nat.lt_irrefl 0), fun j hj => absurd hj (Nat.not_lt_zero j)⟩
    · exact ⟨b, o, fun _ => ha, fun j hj => hc j _ (by rw [List.getD_eq_getElem?_getD, List.getElem?_eq_getElem hj]; rfl)⟩
  obtain ⟨b1, o1, p1, q1⟩ := split a1 xs h1
  obtain ⟨b2, o2, p2, q2⟩ := split a2 ys h2
  exact slices_SortFunc_Lint__slices_Compare_int_cw a1 a2 c1 c2 b1 o1 b2 o2 xs.length ys.length xs ys W rfl rfl hx hy p1 p2 q1 q2
theorem slices_SortFunc_Lint__slices_Compare_int_ok : FOK Tryz.prog n_slices_SortFunc_Lint slices_SortFunc_Lint__slices_Compare_int_sh slices_SortFunc_Lint__slices_Compare_int_fo slices_SortFunc_Lint__slices_Compare_int :=
  sortLists_ok ⟨_, fnat_slices_SortFunc_Lint, by kernel_rfl, by kernel_rfl⟩ (ρr := slices_SortFunc_Lint__slices_Compare_int_ren) rfl slices_SortFunc_Lint__slices_Compare_int_lay (enters_of fnat_slices_Compare_int (by kernel_rfl) rfl) slices_SortFunc_Lint__slices_Compare_int_cok

theorem lsL_ltL : ∀ a b : List Int, lsL a b = ltL a b
  | [], [] => rfl
  | [], y :: b => rfl
  | x :: a, [] => rfl
  | x :: a, y :: b => by
    have ih := lsL_ltL a b
    unfold lsL at ih ⊢
    unfold cmpL ltL
    split
    · rfl
    · split
      · rfl
      · exact ih
theorem slices_SortFunc_Lint__slices_Compare_int_eq (x : List (List Int)) (h : x.length < 4611686018427387904) (hb : ∀ l ∈ x, l.length ≤ 9223372036854775807) : slices_SortFunc_Lint__slices_Compare_int (((), ()), x) = some ((), sortL x) := by
  unfold slices_SortFunc_Lint__slices_Compare_int
  rw [if_pos ⟨h, List.all_eq_true.2 fun l hl => decide_eq_true (hb l hl)⟩]
  have e : sortL x = sortLL x := by
    refine sortLL_unique ((sortL_up x).imp fun {a b} hab => ?_) (sortL_perm x)
    rw [lsL_ltL]
    unfold leL at hab
    simpa using hab
  rw [e]


def i_allQuiddities_sh : FSh := ⟨[(.one (.si .i64))], []⟩

def i_allQuiddities_L3_sh : LSh := ⟨(fun ex => match ex with | .norm => [(0, none), (3, none), (8, none), (9, none), (10, none)] | .exit i => if i = 0 then [(3, none)] else [] | .ret => [(2, none)]), [(0, (.one (.si .i64))), (3, (.one (.rw 0 0))), (8, (.one (.rw 1 0))), (9, (.one (.si .i64))), (10, (.one (.si .i64)))], [(.row 0 (.list true (.int .i64))), (.row 0 (.list true (.pair (.int .i64) (.int .i64))))], [⟨(.exit 0), [(3, (.one (.rw 0 0)))], [(.row 0 (.list true (.int .i64)))]⟩], [], []⟩
noncomputable def i_allQuiddities_L3_step : ((Int × Unit × Unit × Int × Int) × (List (List (Int)) × List (List ((Int × Int))))) → T (((Int × Unit × Unit × Int × Int) × (List (List (Int)) × List (List ((Int × Int))))) ⊕ (Unit × List (List (Int)))) := fun ((n, (), (), t9, t10), (out, t8)) =>
  (.test (decide (t10 < t9))
  (.test (decide ((0 ≤ t10) ∧ (t10 < ((List.length t8) : Int))))
   (.sub (t8[(0 + (Int.toNat t10))]?) fun z0 =>
    (.sub (i_quiddity (n, z0)) fun z1 =>
    (.test (decide ((0 + (List.length z1.2)) ≤ (List.length z1.2)))
    (.test (decide (1 ≤ (List.length (List.set (List.replicate 1 ([] : List (Int))) 0 (win z1.2 0 (List.length z1.2))))))
     (.test (decide ((0 + (List.length out)) ≤ (List.length out)))
      (.test (decide ((2 * (((List.length out) + (List.length (win (List.set (List.replicate 1 ([] : List (Int))) 0 (win z1.2 0 (List.length z1.2))) 0 1))) * 25)) ≤ 140737488355328))
       (.test (decide ((0 = 0) ∧ (((List.length out) + (List.length (win (List.set (List.replicate 1 ([] : List (Int))) 0 (win z1.2 0 (List.length z1.2))) 0 1))) = (List.length ((win out 0 (List.length out)) ++ (win (List.set (List.replicate 1 ([] : List (Int))) 0 (win z1.2 0 (List.length z1.2))) 0 1))))))
        (.test (decide ((0 = 0) ∧ ((List.length t8) = (List.length t8))))
         (.ret (Sum.inl ((n, ((), ((), (t9, (w64 (t10 + 1)))))), (((win out 0 (List.length out)) ++ (win (List.set (List.replicate 1 ([] : List (Int))) 0 (win z1.2 0 (List.length z1.2))) 0 1)), t8))))
         .fail)
        .fail)
       .fail)
      .fail)
     .fail)
    .fail)))
   .fail)
  (.test (decide ((0 = 0) ∧ ((List.length out) = (List.length out))))
   (.ret (Sum.inr ((), out)))
   .fail))
noncomputable def i_allQuiddities_L3 (v : ((Int × Unit × Unit × Int × Int) × (List (List (Int)) × List (List ((Int × Int)))))) : Option (Unit × List (List (Int))) := loopO (fun v => (i_allQuiddities_L3_step v).run) v

def i_allQuiddities_fo : List FO := [⟨[(.one (.rw 0 0))], [(.row 0 (.list true (.int .i64)))]⟩]
noncomputable def i_allQuiddities_t : Int → T (Unit × List (List (Int))) := fun n =>
  (.sub (i_allTriangulations n) fun z0 =>
  (.test (decide ((0 = 0) ∧ (0 = (List.length (List.replicate 0 ([] : List (Int)))))))
  (.test (decide ((0 = 0) ∧ ((List.length z0.2) = (List.length z0.2))))
   (.sub (i_allQuiddities_L3 ((n, ((), ((), (((List.length z0.2) : Int), (0 : Int))))), ((List.replicate 0 ([] : List (Int))), z0.2))) fun z1 =>
    (.test (decide ((0 = 0) ∧ ((List.length z1.2) = (List.length z1.2))))
    (.sub (slices_SortFunc_Lint__slices_Compare_int (((), ()), z1.2)) fun z2 =>
     (.test (decide ((0 = 0) ∧ ((List.length z1.2) = (List.length z2.2))))
     (.ret ((), z2.2))
     .fail))
    .fail))
   .fail)
  .fail))
noncomputable def i_allQuiddities (v : Int) : Option (Unit × List (List (Int))) := (i_allQuiddities_t v).run
noncomputable def i_allQuiddities_E : TEnv := (((E0.add1 n_i_allTriangulations i_allTriangulations_sh i_allTriangulations_fo i_allTriangulations).add1 n_i_quiddity i_quiddity_sh i_quiddity_fo i_quiddity).add1 n_slices_SortFunc_Lint slices_SortFunc_Lint__slices_Compare_int_sh slices_SortFunc_Lint__slices_Compare_int_fo slices_SortFunc_Lint__slices_Compare_int)
theorem i_allQuiddities_Eok : (i_allQuiddities_E).OK := (((E0ok.add1 i_allTriangulations_ok).add1 i_quiddity_ok).add1 slices_SortFunc_Lint__slices_Compare_int_ok)
noncomputable def i_allQuiddities_told : Nat → Option SealT := fun id => if id = 3 then some (LSh.told i_allQuiddities_L3_sh 0 (i_allQuiddities_L3_step)) else none
theorem i_allQuiddities_L3_ok : ToldOK Tryz.prog 0 (loopAt (bodyOf fn_i_allQuiddities) [0]) (LSh.told i_allQuiddities_L3_sh 0 (i_allQuiddities_L3_step)) :=
  loop_ok (E := i_allQuiddities_E) (i_allQuiddities_Eok) (told := i_allQuiddities_told) (l := i_allQuiddities_L3_sh) (step := i_allQuiddities_L3_step) (loopsOK_of (ls := []) (by kernel_rfl) trivial) (by kernel_rfl) (fun v => by kernel_rfl)
theorem i_allQuiddities_ok : FOK Tryz.prog n_i_allQuiddities i_allQuiddities_sh i_allQuiddities_fo i_allQuiddities :=
  fn_ok (E := i_allQuiddities_E) (i_allQuiddities_Eok) (told := i_allQuiddities_told) (fl := []) (c := bodyOf fn_i_allQuiddities) (s := i_allQuiddities_sh) (l := i_allQuiddities_fo) (tree := i_allQuiddities_t) fnat_i_allQuiddities (by kernel_rfl) (by kernel_rfl) (by kernel_rfl) (loopsOK_of (ls := [loopAt (bodyOf fn_i_allQuiddities) [0]]) (by kernel_rfl) ⟨.inr ⟨_, by kernel_rfl, i_allQuiddities_L3_ok⟩, trivial⟩) (fun v => by kernel_rfl)

theorem i_allQuiddities_rows' (n : Nat) (hn : 3 ≤ n ∧ n ≤ 9) (t : List (List Dg)) (hlen : t.length ≤ 134217728) (ht : ∀ ds ∈ t, ds.length = n - 3 ∧ ∀ d ∈ ds, 0 ≤ d.1 ∧ d.1 < d.2 ∧ d.2 < (n : Int)) :
    i_allQuiddities_L3 (((n : Int), ((), ((), ((t.length : Int), (0 : Int))))), ([], t)) = some ((), t.map (quid n)) := by
  have key : ∀ m k (s : List (List Int)), k + m = t.length → s.length = k → i_allQuiddities_L3 (((n : Int), ((), ((), ((t.length : Int), (k : Int))))), (s, t)) = some ((), s ++ (t.drop k).map (quid n)) := by
    intro m
    induction m with
    | zero =>
      intro k s hk hs
      have : k = t.length := by omega
      subst this
      rw [List.drop_length, List.map_nil, List.append_nil]
      simp only [i_allQuiddities_L3]
      exact loopO_done (by simp [i_allQuiddities_L3_step, T.run])
    | succ m ih =>
      intro k s hk hs
      have hlt : k < t.length := by omega
      have hds := List.getElem?_eq_getElem hlt
      obtain ⟨q1, q2⟩ := ht t[k] (List.getElem_mem hlt)
      have hq := i_quiddity_eq n t[k] ⟨by omega, by omega⟩ (by omega) q2
      have ih := ih (k + 1) (s ++ [quid n t[k]]) (by omega) (by simp [hs])
      rw [List.drop_eq_getElem_cons hlt, List.map_cons]
      have e : s ++ quid n t[k] :: (t.drop (k + 1)).map (quid n) = s ++ [quid n t[k]] ++ (t.drop (k + 1)).map (quid n) := by simp
      rw [e]
      simp only [i_allQuiddities_L3] at ih ⊢
      rw [← ih]
      refine loopO_next ?_
      have c0 : (k : Int) < (t.length : Int) := by omega
      have c1 : (0 : Int) ≤ (k : Int) ∧ (k : Int) < (t.length : Int) := by omega
      have w1 : w64 ((k : Int) + 1) = ((k + 1 : Nat) : Int) := by rw [w64_id (by omega) (by omega)]; omega
      have c2 : 2 * ((s.length + 1) * 25) ≤ 140737488355328 := by omega
      generalize quid n t[k] = q at hq
      generalize t[k] = ds at hds hq
      clear ih e ht q1 q2 hlen
      have hone : win (List.set (List.replicate 1 ([] : List Int)) 0 q) 0 1 = [q] := rfl
      have hidx : t[0 + (k : Int).toNat]? = some ds := by rw [Int.toNat_natCast, Nat.zero_add]; exact hds
      simp only [i_allQuiddities_L3_step, T.run_test, T.run_sub, T.run_ret, T.run_fail]
      rw [if_pos (decide_eq_true c0), if_pos (decide_eq_true c1), hidx, Option.bind_some, hq, Option.bind_some]
      simp only [Nat.zero_add, Nat.le_refl, win_all, hone, List.length_cons, List.length_nil, List.length_set, List.length_replicate, c2, w1, List.length_append, decide_true, if_true, and_self]
  have h := key t.length 0 [] (by omega) rfl
  rw [List.drop_zero, List.nil_append, Int.natCast_zero] at h
  exact h
theorem i_allQuiddities_rows (n : Nat) (hn : 3 ≤ n ∧ n ≤ 9) : i_allQuiddities_L3 (((n : Int), ((), ((), (((allT n).length : Int), (0 : Int))))), ([], allT n)) = some ((), (allT n).map (quid n)) :=
  i_allQuiddities_rows' n hn (allT n) (allT_len n hn.2) fun _ h => allT_in hn h
theorem i_allQuiddities_eq (n : Nat) (hn : 3 ≤ n ∧ n ≤ 9) : i_allQuiddities (n : Int) = some ((), allQ n) := by
  have hlen := allT_len n hn.2
  have hs := slices_SortFunc_Lint__slices_Compare_int_eq ((allT n).map (quid n)) (by rw [List.length_map]; omega) (fun l hl => by
    obtain ⟨d, _, rfl⟩ := List.mem_map.1 hl
    rw [quid_length]; omega)
  have hl : ((allT n).map (quid n)).length = (sortL ((allT n).map (quid n))).length := (sortL_perm _).length_eq.symm
  rw [i_allQuiddities, i_allQuiddities_t, T.run_sub, i_allTriangulations_eq n hn, Option.bind_some, T.run_test, if_pos (by rfl), T.run_test, if_pos (by simp), T.run_sub]
  rw [List.replicate_zero, i_allQuiddities_rows n hn, Option.bind_some, T.run_test, if_pos (by simp), T.run_sub, hs, Option.bind_some, T.run_test, if_pos (by simp [hl]), T.run_ret]
  rfl


def i_Puzzle_isSolution_1_sh : FSh := ⟨[(.one (.si .i64)), (.one (.si .i64))], []⟩

def i_Puzzle_isSolution_1_fo : List FO := [⟨[(.one .sb)], []⟩]
noncomputable def i_Puzzle_isSolution_1_t : (Int × Int) → T Bool := fun (given, k) =>
  (.test (given == 0)
  (.ret true)
  (.ret (given == k)))
noncomputable def i_Puzzle_isSolution_1 (v : (Int × Int)) : Option Bool := (i_Puzzle_isSolution_1_t v).run
noncomputable def i_Puzzle_isSolution_1_E : TEnv := E0
theorem i_Puzzle_isSolution_1_Eok : (i_Puzzle_isSolution_1_E).OK := E0ok
noncomputable def i_Puzzle_isSolution_1_told : Nat → Option SealT := fun id => none
theorem i_Puzzle_isSolution_1_ok : FOK Tryz.prog n_i_Puzzle_isSolution_1 i_Puzzle_isSolution_1_sh i_Puzzle_isSolution_1_fo i_Puzzle_isSolution_1 :=
  fn_ok (E := i_Puzzle_isSolution_1_E) (i_Puzzle_isSolution_1_Eok) (told := i_Puzzle_isSolution_1_told) (fl := []) (c := bodyOf fn_i_Puzzle_isSolution_1) (s := i_Puzzle_isSolution_1_sh) (l := i_Puzzle_isSolution_1_fo) (tree := i_Puzzle_isSolution_1_t) fnat_i_Puzzle_isSolution_1 (by kernel_rfl) (by kernel_rfl) (by kernel_rfl) (loopsOK_of (ls := []) (by kernel_rfl) trivial) (fun v => by kernel_rfl)

def slices_EqualFunc_int__i_Puzzle_isSolution_1_sh : FSh := ⟨[(.one (.sl (.int .i64) false false)), (.one (.sl (.int .i64) false false)), (.one (.fn n_i_Puzzle_isSolution_1))], []⟩

def slices_EqualFunc_int__i_Puzzle_isSolution_1_L4_sh : LSh := ⟨(fun ex => match ex with | .norm => [(1, none), (2, none), (15, none), (16, none), (17, none)] | .exit i => if i = 0 then [] else [] | .ret => [(6, none)]), [(1, (.one (.sl (.int .i64) false false))), (2, (.one (.fn n_i_Puzzle_isSolution_1))), (15, (.one (.sl (.int .i64) false false))), (16, (.one (.si .i64))), (17, (.one (.si .i64)))], [], [⟨.ret, [(6, (.one .sb))], []⟩, ⟨(.exit 0), [], []⟩], [], []⟩
noncomputable def slices_EqualFunc_int__i_Puzzle_isSolution_1_L4_step : (List (Int) × Unit × List (Int) × Int × Int) → T ((List (Int) × Unit × List (Int) × Int × Int) ⊕ (Bool ⊕ Unit)) := fun (s2, (), t15, t16, t17) =>
  (.test (decide (t17 < t16))
  (.test (decide ((0 ≤ t17) ∧ (t17 < ((List.length t15) : Int))))
   (.sub (t15[(Int.toNat t17)]?) fun z0 =>
    (.test (decide ((0 ≤ t17) ∧ (t17 < ((List.length s2) : Int))))
    (.sub (s2[(Int.toNat t17)]?) fun z1 =>
     (.sub (i_Puzzle_isSolution_1 (z0, z1)) fun z2 =>
     (.test (! z2)
     (.ret (Sum.inr (Sum.inl false)))
     (.ret (Sum.inl (s2, ((), (t15, (t16, (w64 (t17 + 1)))))))))))
    .fail))
   .fail)
  (.ret (Sum.inr (Sum.inr ()))))
noncomputable def slices_EqualFunc_int__i_Puzzle_isSolution_1_L4 (v : (List (Int) × Unit × List (Int) × Int × Int)) : Option (Bool ⊕ Unit) := loopO (fun v => (slices_EqualFunc_int__i_Puzzle_isSolution_1_L4_step v).run) v

def slices_EqualFunc_int__i_Puzzle_isSolution_1_fo : List FO := [⟨[(.one .sb)], []⟩]
noncomputable def slices_EqualFunc_int__i_Puzzle_isSolution_1_t : (List (Int) × List (Int) × Unit) → T Bool := fun (s1, s2, ()) =>
  (.test (((List.length s1) : Int) != ((List.length s2) : Int))
  (.ret false)
  (.sub (slices_EqualFunc_int__i_Puzzle_isSolution_1_L4 (s2, ((), (s1, (((List.length s1) : Int), (0 : Int)))))) fun z0 =>
   (.test (Sum.isLeft z0)
   (.sub (Sum.getLeft? z0) fun z1 =>
    (.ret z1))
   (.sub (Sum.getRight? z0) fun z2 =>
    (.ret true)))))
noncomputable def slices_EqualFunc_int__i_Puzzle_isSolution_1 (v : (List (Int) × List (Int) × Unit)) : Option Bool := (slices_EqualFunc_int__i_Puzzle_isSolution_1_t v).run
noncomputable def slices_EqualFunc_int__i_Puzzle_isSolution_1_E : TEnv := (E0.add1 n_i_Puzzle_isSolution_1 i_Puzzle_isSolution_1_sh i_Puzzle_isSolution_1_fo i_Puzzle_isSolution_1)
theorem slices_EqualFunc_int__i_Puzzle_isSolution_1_Eok : (slices_EqualFunc_int__i_Puzzle_isSolution_1_E).OK := (E0ok.add1 i_Puzzle_isSolution_1_ok)
noncomputable def slices_EqualFunc_int__i_Puzzle_isSolution_1_told : Nat → Option SealT := fun id => if id = 4 then some (LSh.told slices_EqualFunc_int__i_Puzzle_isSolution_1_L4_sh 0 (slices_EqualFunc_int__i_Puzzle_isSolution_1_L4_step)) else none
theorem slices_EqualFunc_int__i_Puzzle_isSolution_1_L4_ok : ToldOK Tryz.prog 0 (loopAt (bodyOf fn_slices_EqualFunc_int) [0]) (LSh.told slices_EqualFunc_int__i_Puzzle_isSolution_1_L4_sh 0 (slices_EqualFunc_int__i_Puzzle_isSolution_1_L4_step)) :=
  loop_ok (E := slices_EqualFunc_int__i_Puzzle_isSolution_1_E) (slices_EqualFunc_int__i_Puzzle_isSolution_1_Eok) (told := slices_EqualFunc_int__i_Puzzle_isSolution_1_told) (l := slices_EqualFunc_int__i_Puzzle_isSolution_1_L4_sh) (step := slices_EqualFunc_int__i_Puzzle_isSolution_1_L4_step) (loopsOK_of (ls := []) (by kernel_rfl) trivial) (by kernel_rfl) (fun v => by kernel_rfl)
theorem slices_EqualFunc_int__i_Puzzle_isSolution_1_ok : FOK Tryz.prog n_slices_EqualFunc_int slices_EqualFunc_int__i_Puzzle_isSolution_1_sh slices_EqualFunc_int__i_Puzzle_isSolution_1_fo slices_EqualFunc_int__i_Puzzle_isSolution_1 :=
  fn_ok (E := slices_EqualFunc_int__i_Puzzle_isSolution_1_E) (slices_EqualFunc_int__i_Puzzle_isSolution_1_Eok) (told := slices_EqualFunc_int__i_Puzzle_isSolution_1_told) (fl := []) (c := bodyOf fn_slices_EqualFunc_int) (s := slices_EqualFunc_int__i_Puzzle_isSolution_1_sh) (l := slices_EqualFunc_int__i_Puzzle_isSolution_1_fo) (tree := slices_EqualFunc_int__i_Puzzle_isSolution_1_t) fnat_slices_EqualFunc_int (by kernel_rfl) (by kernel_rfl) (by kernel_rfl) (loopsOK_of (ls := [loopAt (bodyOf fn_slices_EqualFunc_int) [0]]) (by kernel_rfl) ⟨.inr ⟨_, by kernel_rfl, slices_EqualFunc_int__i_Puzzle_isSolution_1_L4_ok⟩, trivial⟩) (fun v => by kernel_rfl)

def i_Puzzle_isSolution_sh : FSh := ⟨[(.ag [(.sl (.int .i64) false false)]), (.one (.sl (.int .i64) false false))], []⟩

def i_Puzzle_isSolution_fo : List FO := [⟨[(.one .sb)], []⟩]
noncomputable def i_Puzzle_isSolution_t : (List (Int) × List (Int)) → T Bool := fun (p_0, list) =>
  (.sub (slices_EqualFunc_int__i_Puzzle_isSolution_1 (p_0, (list, ()))) fun z0 =>
  (.ret z0))
noncomputable def i_Puzzle_isSolution (v : (List (Int) × List (Int))) : Option Bool := (i_Puzzle_isSolution_t v).run
noncomputable def i_Puzzle_isSolution_E : TEnv := (E0.add1 n_slices_EqualFunc_int slices_EqualFunc_int__i_Puzzle_isSolution_1_sh slices_EqualFunc_int__i_Puzzle_isSolution_1_fo slices_EqualFunc_int__i_Puzzle_isSolution_1)
theorem i_Puzzle_isSolution_Eok : (i_Puzzle_isSolution_E).OK := (E0ok.add1 slices_EqualFunc_int__i_Puzzle_isSolution_1_ok)
noncomputable def i_Puzzle_isSolution_told : Nat → Option SealT := fun id => none
theorem i_Puzzle_isSolution_ok : FOK Tryz.prog n_i_Puzzle_isSolution i_Puzzle_isSolution_sh i_Puzzle_isSolution_fo i_Puzzle_isSolution :=
  fn_ok (E := i_Puzzle_isSolution_E) (i_Puzzle_isSolution_Eok) (told := i_Puzzle_isSolution_told) (fl := []) (c := bodyOf fn_i_Puzzle_isSolution) (s := i_Puzzle_isSolution_sh) (l := i_Puzzle_isSolution_fo) (tree := i_Puzzle_isSolution_t) fnat_i_Puzzle_isSolution (by kernel_rfl) (by kernel_rfl) (by kernel_rfl) (loopsOK_of (ls := []) (by kernel_rfl) trivial) (fun v => by kernel_rfl)

theorem i_Puzzle_isSolution_eq (p q : List Int) (hl : p.length < 4611686018427387904) : i_Puzzle_isSolution (p, q) = some (fits p q) := by
  have hc : ∀ a b, i_Puzzle_isSolution_1 (a, b) = some (a == 0 || a == b) := by
    intro a b
    simp only [i_Puzzle_isSolution_1, i_Puzzle_isSolution_1_t, T.run]
    cases a == 0 <;> simp
  simp only [i_Puzzle_isSolution, i_Puzzle_isSolution_t, T.run, slices_EqualFunc_int__i_Puzzle_isSolution_1, slices_EqualFunc_int__i_Puzzle_isSolution_1_t, fits]
  by_cases he : p.length = q.length
  · have h := loop_any (step := fun v => (slices_EqualFunc_int__i_Puzzle_isSolution_1_L4_step v).run) (xs := p.zip q) (fun x => !(x.1 == 0 || x.1 == x.2)) (fun k => (q, ((), (p, ((p.length : Int), (k : Int)))))) (.inl false) (.inr ())
      (fun k x hx => by
        obtain ⟨x1, x2⟩ := x
        rw [List.getElem?_zip_eq_some] at hx
        obtain ⟨h1, h2⟩ := hx
        simp only at h1 h2
        have hk := getElem?_lt h1
        have hk2 := getElem?_lt h2
        have c0 : (k : Int) < (p.length : Int) := by omega
        have c1 : (0 : Int) ≤ (k : Int) ∧ (k : Int) < (p.length : Int) := by omega
        have c2 : (0 : Int) ≤ (k : Int) ∧ (k : Int) < (q.length : Int) := by omega
        have w1 : w64 ((k : Int) + 1) = ((k + 1 : Nat) : Int) := by rw [w64_id (by omega) (by omega)]; omega
        simp only [slices_EqualFunc_int__i_Puzzle_isSolution_1_L4_step, T.run, c0, c1, c2, decide_true, if_true, and_self, Int.toNat_natCast, h1, h2, Option.bind_some, w1, hc]
        cases (x1 == 0 || x1 == x2) <;> simp)
      (by simp [slices_EqualFunc_int__i_Puzzle_isSolution_1_L4_step, T.run, he])
    simp only [Int.natCast_zero] at h
    have hne : ((p.length : Int) != (q.length : Int)) = false := by simp [he]
    simp only [slices_EqualFunc_int__i_Puzzle_isSolution_1_L4, h, hne, decide_eq_true he]
    cases (p.zip q).any (fun x => !(x.1 == 0 || x.1 == x.2)) <;> simp
  · have hne : ((p.length : Int) != (q.length : Int)) = true := by simp; omega
    simp [hne, he]


def i_Puzzle_solutions_1_sh : FSh := ⟨[(.one (.sl (.int .i64) false false)), (.one (.pb (.list false (.int .i64))))], []⟩

def i_Puzzle_solutions_1_fo : List FO := [⟨[(.one .sb)], []⟩]
noncomputable def i_Puzzle_solutions_1_t : (List (Int) × List (Int)) → T Bool := fun (list, t1) =>
  (.sub ([t1][0]?) fun z0 =>
  (.sub (i_Puzzle_isSolution (z0, list)) fun z1 =>
  (.ret (! z1))))
noncomputable def i_Puzzle_solutions_1 (v : (List (Int) × List (Int))) : Option Bool := (i_Puzzle_solutions_1_t v).run
noncomputable def i_Puzzle_solutions_1_E : TEnv := (E0.add1 n_i_Puzzle_isSolution i_Puzzle_isSolution_sh i_Puzzle_isSolution_fo i_Puzzle_isSolution)
theorem i_Puzzle_solutions_1_Eok : (i_Puzzle_solutions_1_E).OK := (E0ok.add1 i_Puzzle_isSolution_ok)
noncomputable def i_Puzzle_solutions_1_told : Nat → Option SealT := fun id => none
theorem i_Puzzle_solutions_1_ok : FOK Tryz.prog n_i_Puzzle_solutions_1 i_Puzzle_solutions_1_sh i_Puzzle_solutions_1_fo i_Puzzle_solutions_1 :=
  fn_ok (E := i_Puzzle_solutions_1_E) (i_Puzzle_solutions_1_Eok) (told := i_Puzzle_solutions_1_told) (fl := []) (c := bodyOf fn_i_Puzzle_solutions_1) (s := i_Puzzle_solutions_1_sh) (l := i_Puzzle_solutions_1_fo) (tree := i_Puzzle_solutions_1_t) fnat_i_Puzzle_solutions_1 (by kernel_rfl) (by kernel_rfl) (by kernel_rfl) (loopsOK_of (ls := []) (by kernel_rfl) trivial) (fun v => by kernel_rfl)

theorem i_Puzzle_solutions_1_eq (p q : List Int) (hl : p.length < 4611686018427387904) : i_Puzzle_solutions_1 (q, p) = some (!fits p q) := by
  simp only [i_Puzzle_solutions_1, i_Puzzle_solutions_1_t, T.run, List.getElem?_cons_zero, Option.bind_some, i_Puzzle_isSolution_eq p q hl]


def slices_IndexFunc_Lint__i_Puzzle_solutions_1_sh : FSh := ⟨[(.one (.sl (.list true (.int .i64)) false false)), (.clo n_i_Puzzle_solutions_1 [(.one (.pb (.list false (.int .i64))))])], []⟩

def slices_IndexFunc_Lint__i_Puzzle_solutions_1_L2_sh : LSh := ⟨(fun ex => match ex with | .norm => [(0, none), (1, none), (7, none), (8, none)] | .exit i => if i = 0 then [] else [] | .ret => [(4, none)]), [(0, (.one (.sl (.list true (.int .i64)) false false))), (1, (.clo n_i_Puzzle_solutions_1 [(.one (.pb (.list false (.int .i64))))])), (7, (.one (.si .i64))), (8, (.one (.si .i64)))], [], [⟨.ret, [(4, (.one (.si .i64)))], []⟩, ⟨(.exit 0), [], []⟩], [], []⟩
noncomputable def slices_IndexFunc_Lint__i_Puzzle_solutions_1_L2_step : (List (List (Int)) × List (Int) × Int × Int) → T ((List (List (Int)) × List (Int) × Int × Int) ⊕ (Int ⊕ Unit)) := fun (s, f_0, t7, t8) =>
  (.test (decide (t8 < t7))
  (.test (decide ((0 ≤ t8) ∧ (t8 < ((List.length s) : Int))))
   (.sub (s[(Int.toNat t8)]?) fun z0 =>
    (.sub (i_Puzzle_solutions_1 (z0, f_0)) fun z1 =>
    (.test z1
    (.ret (Sum.inr (Sum.inl t8)))
    (.ret (Sum.inl (s, (f_0, (t7, (w64 (t8 + 1))))))))))
   .fail)
  (.ret (Sum.inr (Sum.inr ()))))
noncomputable def slices_IndexFunc_Lint__i_Puzzle_solutions_1_L2 (v : (List (List (Int)) × List (Int) × Int × Int)) : Option (Int ⊕ Unit) := loopO (fun v => (slices_IndexFunc_Lint__i_Puzzle_solutions_1_L2_step v).run) v

def slices_IndexFunc_Lint__i_Puzzle_solutions_1_fo : List FO := [⟨[(.one (.si .i64))], []⟩]
noncomputable def slices_IndexFunc_Lint__i_Puzzle_solutions_1_t : (List (List (Int)) × List (Int)) → T Int := fun (s, f_0) =>
  (.sub (slices_IndexFunc_Lint__i_Puzzle_solutions_1_L2 (s, (f_0, (((List.length s) : Int), (0 : Int))))) fun z0 =>
  (.test (Sum.isLeft z0)
  (.sub (Sum.getLeft? z0) fun z1 =>
   (.ret z1))
  (.sub (Sum.getRight? z0) fun z2 =>
   (.ret (-1)))))
noncomputable def slices_IndexFunc_Lint__i_Puzzle_solutions_1 (v : (List (List (Int)) × List (Int))) : Option Int := (slices_IndexFunc_Lint__i_Puzzle_solutions_1_t v).run
noncomputable def slices_IndexFunc_Lint__i_Puzzle_solutions_1_E : TEnv := (E0.add1 n_i_Puzzle_solutions_1 i_Puzzle_solutions_1_sh i_Puzzle_solutions_1_fo i_Puzzle_solutions_1)
theorem slices_IndexFunc_Lint__i_Puzzle_solutions_1_Eok : (slices_IndexFunc_Lint__i_Puzzle_solutions_1_E).OK := (E0ok.add1 i_Puzzle_solutions_1_ok)
noncomputable def slices_IndexFunc_Lint__i_Puzzle_solutions_1_told : Nat → Option SealT := fun id => if id = 2 then some (LSh.told slices_IndexFunc_Lint__i_Puzzle_solutions_1_L2_sh 0 (slices_IndexFunc_Lint__i_Puzzle_solutions_1_L2_step)) else none
theorem slices_IndexFunc_Lint__i_Puzzle_solutions_1_L2_ok : ToldOK Tryz.prog 0 (loopAt (bodyOf fn_slices_IndexFunc_Lint) [0]) (LSh.told slices_IndexFunc_Lint__i_Puzzle_solutions_1_L2_sh 0 (slices_IndexFunc_Lint__i_Puzzle_solutions_1_L2_step)) :=
  loop_ok (E := slices_IndexFunc_Lint__i_Puzzle_solutions_1_E) (slices_IndexFunc_Lint__i_Puzzle_solutions_1_Eok) (told := slices_IndexFunc_Lint__i_Puzzle_solutions_1_told) (l := slices_IndexFunc_Lint__i_Puzzle_solutions_1_L2_sh) (step := slices_IndexFunc_Lint__i_Puzzle_solutions_1_L2_step) (loopsOK_of (ls := []) (by kernel_rfl) trivial) (by kernel_rfl) (fun v => by kernel_rfl)
theorem slices_IndexFunc_Lint__i_Puzzle_solutions_1_ok : FOK Tryz.prog n_slices_IndexFunc_Lint slices_IndexFunc_Lint__i_Puzzle_solutions_1_sh slices_IndexFunc_Lint__i_Puzzle_solutions_1_fo slices_IndexFunc_Lint__i_Puzzle_solutions_1 :=
  fn_ok (E := slices_IndexFunc_Lint__i_Puzzle_solutions_1_E) (slices_IndexFunc_Lint__i_Puzzle_solutions_1_Eok) (told := slices_IndexFunc_Lint__i_Puzzle_solutions_1_told) (fl := []) (c := bodyOf fn_slices_IndexFunc_Lint) (s := slices_IndexFunc_Lint__i_Puzzle_solutions_1_sh) (l := slices_IndexFunc_Lint__i_Puzzle_solutions_1_fo) (tree := slices_IndexFunc_Lint__i_Puzzle_solutions_1_t) fnat_slices_IndexFunc_Lint (by kernel_rfl) (by kernel_rfl) (by kernel_rfl) (loopsOK_of (ls := [loopAt (bodyOf fn_slices_IndexFunc_Lint) [0]]) (by kernel_rfl) ⟨.inr ⟨_, by kernel_rfl, slices_IndexFunc_Lint__i_Puzzle_solutions_1_L2_ok⟩, trivial⟩) (fun v => by kernel_rfl)

theorem slices_IndexFunc_Lint__i_Puzzle_solutions_1_eq (s : List (List Int)) (p : List Int) (hp : p.length < 4611686018427387904) (hl : s.length < 4611686018427387904) : slices_IndexFunc_Lint__i_Puzzle_solutions_1 (s, p) = some (idxI (fun q => !fits p q) s) := by
  have h := loop_find (step := fun v => (slices_IndexFunc_Lint__i_Puzzle_solutions_1_L2_step v).run) (xs := s) (fun q => !fits p q) (fun k => (s, (p, ((s.length : Int), (k : Int))))) (fun k => .inl (k : Int)) (.inr ())
    (fun k x hx => by
      have hlt := getElem?_lt hx
      have h1 : (k : Int) < (s.length : Int) := by omega
      have h2 : (0 : Int) ≤ k ∧ (k : Int) < (s.length : Int) := by omega
      simp only [slices_IndexFunc_Lint__i_Puzzle_solutions_1_L2_step, T.run, Int.toNat_natCast, hx, Option.bind_some, h1, h2, decide_true, if_true, and_self, i_Puzzle_solutions_1_eq p x hp]
      rw [w64_id (z := (k : Int) + 1) (by omega) (by omega)]
      cases hv : fits p x <;> simp)
    (by simp [slices_IndexFunc_Lint__i_Puzzle_solutions_1_L2_step, T.run])
  rw [show ((0 : Nat) : Int) = 0 from rfl] at h
  simp only [slices_IndexFunc_Lint__i_Puzzle_solutions_1, slices_IndexFunc_Lint__i_Puzzle_solutions_1_t, T.run, slices_IndexFunc_Lint__i_Puzzle_solutions_1_L2]
  rw [h]
  simp only [idxI]
  cases hf : s.findIdx? (fun q => !fits p q) <;> simp [Sum.isLeft]


def slices_DeleteFunc_Lint__i_Puzzle_solutions_1_sh : FSh := ⟨[(.one (.rw 0 0)), (.clo n_i_Puzzle_solutions_1 [(.one (.pb (.list false (.int .i64))))])], [(.row 0 (.list true (.int .i64)))]⟩

def slices_DeleteFunc_Lint__i_Puzzle_solutions_1_L5_sh : LSh := ⟨(fun ex => match ex with | .norm => [(0, none), (1, none), (5, none), (6, none)] | .exit i => if i = 0 then [(0, none), (5, none)] else [] | .ret => [(4, none)]), [(0, (.one (.rw 0 0))), (1, (.clo n_i_Puzzle_solutions_1 [(.one (.pb (.list false (.int .i64))))])), (5, (.one (.si .i64))), (6, (.one (.si .i64)))], [(.row 0 (.list true (.int .i64)))], [⟨(.exit 0), [(0, (.one (.rw 0 0))), (5, (.one (.si .i64)))], [(.row 0 (.list true (.int .i64)))]⟩], [], []⟩
noncomputable def slices_DeleteFunc_Lint__i_Puzzle_solutions_1_L5_step : ((Unit × List (Int) × Int × Int) × List (List (Int))) → T (((Unit × List (Int) × Int × Int) × List (List (Int))) ⊕ ((Unit × Int) × List (List (Int)))) := fun (((), del_0, i, j), s) =>
  (.test (decide (j < ((List.length s) : Int)))
  (.test (decide ((0 ≤ j) ∧ (j < ((List.length s) : Int))))
   (.sub (s[(0 + (Int.toNat j))]?) fun z0 =>
    (.sub (i_Puzzle_solutions_1 (z0, del_0)) fun z1 =>
    (.test (! z1)
    (.test (decide ((0 ≤ i) ∧ (i < ((List.length s) : Int))))
     (.sub (s[(0 + (Int.toNat i))]?) fun z2 =>
      (.test (decide ((0 = 0) ∧ ((List.length s) = (List.length (List.set s (0 + (Int.toNat i)) z0)))))
      (.ret (Sum.inl (((), (del_0, ((w64 (i + 1)), (w64 (j + 1))))), (List.set s (0 + (Int.toNat i)) z0))))
      .fail))
     .fail)
    (.test (decide ((0 = 0) ∧ ((List.length s) = (List.length s))))
     (.ret (Sum.inl (((), (del_0, (i, (w64 (j + 1))))), s)))
     .fail))))
   .fail)
  (.test (decide ((0 = 0) ∧ ((List.length s) = (List.length s))))
   (.ret (Sum.inr (((), i), s)))
   .fail))
noncomputable def slices_DeleteFunc_Lint__i_Puzzle_solutions_1_L5 (v : ((Unit × List (Int) × Int × Int) × List (List (Int)))) : Option ((Unit × Int) × List (List (Int))) := loopO (fun v => (slices_DeleteFunc_Lint__i_Puzzle_solutions_1_L5_step v).run) v

def slices_DeleteFunc_Lint__i_Puzzle_solutions_1_w_fo : List FO := [⟨[(.one (.rf 0 0))], [(.row 0 (.list true (.int .i64)))]⟩]
noncomputable def slices_DeleteFunc_Lint__i_Puzzle_solutions_1_t : ((Unit × List (Int)) × List (List (Int))) → T ((Nat × Nat) × List (List (Int))) := fun (((), del_0), s) =>
  (.test (decide ((0 + (List.length s)) ≤ (List.length s)))
  (.sub (slices_IndexFunc_Lint__i_Puzzle_solutions_1 ((win s 0 (List.length s)), del_0)) fun z0 =>
   (.test (z0 == (-1))
   (.ret ((0, (List.length s)), s))
   (.test (decide ((0 = 0) ∧ ((List.length s) = (List.length s))))
    (.sub (slices_DeleteFunc_Lint__i_Puzzle_solutions_1_L5 (((), (del_0, (z0, (w64 (z0 + 1))))), s)) fun z1 =>
     (.test (decide (0 ≤ z1.1.2))
     (.test (decide (((Int.toNat z1.1.2) ≤ (List.length z1.2)) ∧ ((List.length z1.2) ≤ (List.length z1.2))))
      (.test (decide ((0 < ((List.length z1.2) - (Int.toNat z1.1.2))) ∧ (((0 + (Int.toNat z1.1.2)) + ((List.length z1.2) - (Int.toNat z1.1.2))) ≤ (List.length z1.2))))
       (.test (decide (0 ≤ z1.1.2))
        (.test (decide ((0 ≤ (Int.toNat z1.1.2)) ∧ ((Int.toNat z1.1.2) ≤ (List.length z1.2))))
         (.ret ((0, ((Int.toNat z1.1.2) - 0)), (spliceT z1.2 (0 + (Int.toNat z1.1.2)) (List.replicate ((List.length z1.2) - (Int.toNat z1.1.2)) ([] : List (Int))))))
         .fail)
        .fail)
       .fail)
      .fail)
     .fail))
    .fail)))
  .fail)
noncomputable def slices_DeleteFunc_Lint__i_Puzzle_solutions_1_w (v : ((Unit × List (Int)) × List (List (Int)))) : Option ((Nat × Nat) × List (List (Int))) := (slices_DeleteFunc_Lint__i_Puzzle_solutions_1_t v).run
noncomputable def slices_DeleteFunc_Lint__i_Puzzle_solutions_1_E : TEnv := ((E0.add1 n_slices_IndexFunc_Lint slices_IndexFunc_Lint__i_Puzzle_solutions_1_sh slices_IndexFunc_Lint__i_Puzzle_solutions_1_fo slices_IndexFunc_Lint__i_Puzzle_solutions_1).add1 n_i_Puzzle_solutions_1 i_Puzzle_solutions_1_sh i_Puzzle_solutions_1_fo i_Puzzle_solutions_1)
theorem slices_DeleteFunc_Lint__i_Puzzle_solutions_1_Eok : (slices_DeleteFunc_Lint__i_Puzzle_solutions_1_E).OK := ((E0ok.add1 slices_IndexFunc_Lint__i_Puzzle_solutions_1_ok).add1 i_Puzzle_solutions_1_ok)
noncomputable def slices_DeleteFunc_Lint__i_Puzzle_solutions_1_told : Nat → Option SealT := fun id => if id = 5 then some (LSh.told slices_DeleteFunc_Lint__i_Puzzle_solutions_1_L5_sh 1 (slices_DeleteFunc_Lint__i_Puzzle_solutions_1_L5_step)) else none
theorem slices_DeleteFunc_Lint__i_Puzzle_solutions_1_L5_ok : ToldOK Tryz.prog 1 (loopAt (bodyOf fn_slices_DeleteFunc_Lint) [0]) (LSh.told slices_DeleteFunc_Lint__i_Puzzle_solutions_1_L5_sh 1 (slices_DeleteFunc_Lint__i_Puzzle_solutions_1_L5_step)) :=
  loop_ok (E := slices_DeleteFunc_Lint__i_Puzzle_solutions_1_E) (slices_DeleteFunc_Lint__i_Puzzle_solutions_1_Eok) (told := slices_DeleteFunc_Lint__i_Puzzle_solutions_1_told) (l := slices_DeleteFunc_Lint__i_Puzzle_solutions_1_L5_sh) (step := slices_DeleteFunc_Lint__i_Puzzle_solutions_1_L5_step) (loopsOK_of (ls := []) (by kernel_rfl) trivial) (by kernel_rfl) (fun v => by kernel_rfl)
theorem slices_DeleteFunc_Lint__i_Puzzle_solutions_1_w_ok : FOK Tryz.prog n_slices_DeleteFunc_Lint slices_DeleteFunc_Lint__i_Puzzle_solutions_1_sh slices_DeleteFunc_Lint__i_Puzzle_solutions_1_w_fo slices_DeleteFunc_Lint__i_Puzzle_solutions_1_w :=
  fn_ok (E := slices_DeleteFunc_Lint__i_Puzzle_solutions_1_E) (slices_DeleteFunc_Lint__i_Puzzle_solutions_1_Eok) (told := slices_DeleteFunc_Lint__i_Puzzle_solutions_1_told) (fl := []) (c := bodyOf fn_slices_DeleteFunc_Lint) (s := slices_DeleteFunc_Lint__i_Puzzle_solutions_1_sh) (l := slices_DeleteFunc_Lint__i_Puzzle_solutions_1_w_fo) (tree := slices_DeleteFunc_Lint__i_Puzzle_solutions_1_t) fnat_slices_DeleteFunc_Lint (by kernel_rfl) (by kernel_rfl) (by kernel_rfl) (loopsOK_of (ls := [loopAt (bodyOf fn_slices_DeleteFunc_Lint) [0]]) (by kernel_rfl) ⟨.inr ⟨_, by kernel_rfl, slices_DeleteFunc_Lint__i_Puzzle_solutions_1_L5_ok⟩, trivial⟩) (fun v => by kernel_rfl)
def slices_DeleteFunc_Lint__i_Puzzle_solutions_1_fo : List FO := [⟨[(.one (.rw 0 0))], [(.row 0 (.list true (.int .i64)))]⟩]
def slices_DeleteFunc_Lint__i_Puzzle_solutions_1_m : ((Nat × Nat) × List (List (Int))) → T (Unit × List (List (Int))) := fun ((o, n), r0) => .test (decide (o = 0 ∧ n ≤ (List.length r0))) (.ret ((), (List.take n r0))) .fail
noncomputable def slices_DeleteFunc_Lint__i_Puzzle_solutions_1 (v : ((Unit × List (Int)) × List (List (Int)))) : Option (Unit × List (List (Int))) := (slices_DeleteFunc_Lint__i_Puzzle_solutions_1_w v).bind fun o => (slices_DeleteFunc_Lint__i_Puzzle_solutions_1_m o).run
theorem slices_DeleteFunc_Lint__i_Puzzle_solutions_1_ok : FOK Tryz.prog n_slices_DeleteFunc_Lint slices_DeleteFunc_Lint__i_Puzzle_solutions_1_sh slices_DeleteFunc_Lint__i_Puzzle_solutions_1_fo slices_DeleteFunc_Lint__i_Puzzle_solutions_1 :=
  FOK.trunc (l' := slices_DeleteFunc_Lint__i_Puzzle_solutions_1_fo) slices_DeleteFunc_Lint__i_Puzzle_solutions_1_w_ok slices_DeleteFunc_Lint__i_Puzzle_solutions_1_m (fun o => by kernel_rfl)

theorem slices_DeleteFunc_Lint__i_Puzzle_solutions_1_loop (p : List Int) (hp : p.length < 4611686018427387904) (o : List (List Int)) (hl : o.length < 4611686018427387904) : ∀ (m j : Nat) (s : List (List Int)) (i : Nat), j + m = o.length → s.length = o.length → i < j → s.take i = (o.take j).filter (fits p) → s.drop j = o.drop j →
    ∃ (i' : Nat) (s' : List (List Int)), s'.length = o.length ∧ i' < o.length ∧ s'.take i' = o.filter (fits p) ∧ slices_DeleteFunc_Lint__i_Puzzle_solutions_1_L5 (((), (p, ((i : Int), (j : Int)))), s) = some (((), (i' : Int)), s')
  | 0, j, s, i, hj, hs, hi, h1, h2 => by
    have : j = o.length := by omega
    subst this
    rw [List.take_length] at h1
    refine ⟨i, s, hs, hi, h1, ?_⟩
    simp only [slices_DeleteFunc_Lint__i_Puzzle_solutions_1_L5]
    refine loopO_done ?_
    have : ¬ ((o.length : Int) < (s.length : Int)) := by omega
    simp [slices_DeleteFunc_Lint__i_Puzzle_solutions_1_L5_step, T.run, this]
  | m + 1, j, s, i, hj, hs, hi, h1, h2 => by
    have hlt : j < s.length := by omega
    have hlo : j < o.length := by omega
    have he : s[j] = o[j] := by
      rw [List.drop_eq_getElem_cons hlt, List.drop_eq_getElem_cons hlo] at h2
      exact (List.cons.inj h2).1
    have h2' : s.drop (j + 1) = o.drop (j + 1) := by
      rw [List.drop_eq_getElem_cons hlt, List.drop_eq_getElem_cons hlo] at h2
      exact (List.cons.inj h2).2
    have c0 : (j : Int) < (s.length : Int) := by omega
    have c1 : (0 : Int) ≤ (j : Int) ∧ (j : Int) < (s.length : Int) := by omega
    have c2 : (0 : Int) ≤ (i : Int) ∧ (i : Int) < (s.length : Int) := by omega
    have w1 : w64 ((j : Int) + 1) = ((j + 1 : Nat) : Int) := by rw [w64_id (by omega) (by omega)]; omega
    have w2 : w64 ((i : Int) + 1) = ((i + 1 : Nat) : Int) := by rw [w64_id (by omega) (by omega)]; omega
    have g1 := List.getElem?_eq_getElem hlt
    have g2 := List.getElem?_eq_getElem (show i < s.length by omega)
    have htake : o.take (j + 1) = o.take j ++ [o[j]] := List.take_succ_eq_append_getElem hlo
    cases hf : fits p o[j] with
    | true =>
      have e1 : (s.set i o[j]).take (i + 1) = (o.take (j + 1)).filter (fits p) := by
        rw [List.take_succ_eq_append_getElem (by simp; omega), List.getElem_set_self, List.take_set_of_le (Nat.le_refl _), h1, htake, List.filter_append]
        simp [hf]
      obtain ⟨i', s', r1, r2, r3, r4⟩ := slices_DeleteFunc_Lint__i_Puzzle_solutions_1_loop p hp o hl m (j + 1) (s.set i o[j]) (i + 1) (by omega) (by simpa using hs) (by omega) e1 (by rw [List.drop_set_of_lt (by omega)]; exact h2')
      refine ⟨i', s', r1, r2, r3, ?_⟩
      simp only [slices_DeleteFunc_Lint__i_Puzzle_solutions_1_L5] at r4 ⊢
      rw [← r4]
      refine loopO_next ?_
      simp only [slices_DeleteFunc_Lint__i_Puzzle_solutions_1_L5_step, T.run, c0, c1, c2, decide_true, if_true, and_self, Int.toNat_natCast, Nat.zero_add, g1, g2, he, Option.bind_some, i_Puzzle_solutions_1_eq p _ hp, hf, Bool.not_true, Bool.not_false, w1, w2, List.length_set]
    | false =>
      have e1 : s.take i = (o.take (j + 1)).filter (fits p) := by
        rw [h1, htake, List.filter_append]
        simp [hf]
      obtain ⟨i', s', r1, r2, r3, r4⟩ := slices_DeleteFunc_Lint__i_Puzzle_solutions_1_loop p hp o hl m (j + 1) s i (by omega) hs (by omega) e1 h2'
      refine ⟨i', s', r1, r2, r3, ?_⟩
      simp only [slices_DeleteFunc_Lint__i_Puzzle_solutions_1_L5] at r4 ⊢
      rw [← r4]
      refine loopO_next ?_
      simp only [slices_DeleteFunc_Lint__i_Puzzle_solutions_1_L5_step, T.run, c0, c1, decide_true, if_true, and_self, Int.toNat_natCast, Nat.zero_add, g1, he, Option.bind_some, i_Puzzle_solutions_1_eq p _ hp, hf, Bool.not_true, Bool.not_false, Bool.false_eq_true, if_false, w1]
theorem slices_DeleteFunc_Lint__i_Puzzle_solutions_1_eq (s : List (List Int)) (p : List Int) (hp : p.length < 4611686018427387904) (hl : s.length < 4611686018427387904) : slices_DeleteFunc_Lint__i_Puzzle_solutions_1 (((), p), s) = some ((), s.filter (fits p)) := by
  have hi := slices_IndexFunc_Lint__i_Puzzle_solutions_1_eq s p hp hl
  simp only [slices_DeleteFunc_Lint__i_Puzzle_solutions_1, slices_DeleteFunc_Lint__i_Puzzle_solutions_1_w, slices_DeleteFunc_Lint__i_Puzzle_solutions_1_t, T.run, Nat.zero_add, Nat.le_refl, decide_true, if_true, win_all, hi, Option.bind_some, true_and]
  unfold idxI
  cases hf : s.findIdx? (fun q => !fits p q) with
  | none =>
    have hall : s.filter (fits p) = s := by
      rw [List.filter_eq_self]
      intro x hx
      have := List.findIdx?_eq_none_iff.1 hf x hx
      simpa using this
    rw [hall]
    simp [slices_DeleteFunc_Lint__i_Puzzle_solutions_1_m, T.run]
  | some i =>
    obtain ⟨h1, h2, h3⟩ := List.findIdx?_eq_some_iff_getElem.1 hf
    have ht : s.take i = (s.take (i + 1)).filter (fits p) := by
      rw [List.take_succ_eq_append_getElem h1, List.filter_append]
      have : [s[i]].filter (fits p) = [] := by simp at h2; simp [h2]
      rw [this, List.append_nil]
      symm
      rw [List.filter_eq_self]
      intro x hx
      obtain ⟨j, hj, e⟩ := List.mem_take_iff_getElem.1 hx
      have := h3 j (by omega)
      rw [e] at this
      simpa using this
    obtain ⟨i', s', r1, r2, r3, r4⟩ := slices_DeleteFunc_Lint__i_Puzzle_solutions_1_loop p hp s hl (s.length - (i + 1)) (i + 1) s i (by omega) rfl (by omega) ht rfl
    have w1 : w64 ((i : Int) + 1) = ((i + 1 : Nat) : Int) := by rw [w64_id (by omega) (by omega)]; omega
    have hne : ((i : Int) == -1) = false := by rw [beq_int]; exact decide_eq_false (by omega)
    have c1 : (0 : Int) ≤ (i' : Int) := by omega
    have c2 : i' ≤ s'.length ∧ s'.length ≤ s'.length := by omega
    have c3 : 0 < s'.length - i' ∧ i' + (s'.length - i') ≤ s'.length := by omega
    have c4 : 0 ≤ i' ∧ i' ≤ s'.length := by omega
    have hsp : (spliceT s' i' (List.replicate (s'.length - i') ([] : List Int))).take i' = s.filter (fits p) := by
      unfold spliceT
      rw [List.take_append_of_le_length (by rw [List.length_take]; omega), List.take_take, Nat.min_self, r3]
    have hspl : i' ≤ (spliceT s' i' (List.replicate (s'.length - i') ([] : List Int))).length := by
      unfold spliceT
      simp only [List.length_append, List.length_take, List.length_replicate, List.length_drop]
      omega
    simp only [hne, Bool.false_eq_true, if_false, w1, r4, Option.bind_some, c1, c2, c3, c4, decide_true, if_true, and_self, Int.toNat_natCast, slices_DeleteFunc_Lint__i_Puzzle_solutions_1_m, T.run, Nat.sub_zero, true_and, hspl, hsp]


def i_Puzzle_solutions_sh : FSh := ⟨[(.ag [(.sl (.int .i64) false false)])], []⟩

def i_Puzzle_solutions_fo : List FO := [⟨[(.one (.rw 0 0))], [(.row 0 (.list true (.int .i64)))]⟩]
noncomputable def i_Puzzle_solutions_t : List (Int) → T (Unit × List (List (Int))) := fun p_0 =>
  (.sub (i_allQuiddities ((List.length p_0) : Int)) fun z0 =>
  (.test (decide ((0 = 0) ∧ ((List.length z0.2) = (List.length z0.2))))
  (.sub (slices_DeleteFunc_Lint__i_Puzzle_solutions_1 (((), p_0), z0.2)) fun z1 =>
   (.test (decide ((0 = 0) ∧ ((List.length z1.2) = (List.length z1.2))))
   (.ret ((), z1.2))
   .fail))
  .fail))
noncomputable def i_Puzzle_solutions (v : List (Int)) : Option (Unit × List (List (Int))) := (i_Puzzle_solutions_t v).run
noncomputable def i_Puzzle_solutions_E : TEnv := ((E0.add1 n_i_allQuiddities i_allQuiddities_sh i_allQuiddities_fo i_allQuiddities).add1 n_slices_DeleteFunc_Lint slices_DeleteFunc_Lint__i_Puzzle_solutions_1_sh slices_DeleteFunc_Lint__i_Puzzle_solutions_1_fo slices_DeleteFunc_Lint__i_Puzzle_solutions_1)
theorem i_Puzzle_solutions_Eok : (i_Puzzle_solutions_E).OK := ((E0ok.add1 i_allQuiddities_ok).add1 slices_DeleteFunc_Lint__i_Puzzle_solutions_1_ok)
noncomputable def i_Puzzle_solutions_told : Nat → Option SealT := fun id => none
theorem i_Puzzle_solutions_ok : FOK Tryz.prog n_i_Puzzle_solutions i_Puzzle_solutions_sh i_Puzzle_solutions_fo i_Puzzle_solutions :=
  fn_ok (E := i_Puzzle_solutions_E) (i_Puzzle_solutions_Eok) (told := i_Puzzle_solutions_told) (fl := []) (c := bodyOf fn_i_Puzzle_solutions) (s := i_Puzzle_solutions_sh) (l := i_Puzzle_solutions_fo) (tree := i_Puzzle_solutions_t) fnat_i_Puzzle_solutions (by kernel_rfl) (by kernel_rfl) (by kernel_rfl) (loopsOK_of (ls := []) (by kernel_rfl) trivial) (fun v => by kernel_rfl)

theorem i_Puzzle_solutions_eq (p : List Int) (hp : isPz p = true) : i_Puzzle_solutions p = some ((), solL p) := by
  have hpl := isPz_len hp
  have hq := allQ_len p.length hpl.2
  have hd := slices_DeleteFunc_Lint__i_Puzzle_solutions_1_eq (allQ p.length) p (by omega) (by omega)
  have hsl : (allQ p.length).filter (fits p) = solL p := rfl
  rw [hsl] at hd
  rw [i_Puzzle_solutions, i_Puzzle_solutions_t, T.run_sub, i_allQuiddities_eq p.length hpl, Option.bind_some, T.run_test, if_pos (by simp), T.run_sub, hd, Option.bind_some, T.run_test, if_pos (by simp), T.run_ret]


def slices_Clone_Lint_sh : FSh := ⟨[.one (.sl (.list true (.int .i64)) false false)], []⟩
def slices_Clone_Lint_fo : List FO := [⟨[.one (.rw 0 0)], [.row 0 (.list true (.int .i64))]⟩]
def slices_Clone_Lint (v : List (List Int)) : Option (Unit × List (List Int)) := if v.length ≤ maxLen ∧ v.length * 24 ≤ 140737488355328 then some ((), v) else none
def slices_Clone_Lint_ren : Shelf.Ren := ⟨fun _ => n_slices_Clone_Lint, fun t => if t = 4 then 4 else if t = 22 then 37 else 22, fun x => x⟩
theorem slices_Clone_Lint_lay : SlLaysE0.n41 Tryz.prog slices_Clone_Lint_ren :=
  { mixed := by kernel_rfl, f41 := ⟨"slices.Clone[[][]int,[]int]", by kernel_rfl, by kernel_rfl⟩, t4 := by kernel_rfl, a4 := fun w => by kernel_rfl, z4 := fun w => by kernel_rfl, v4 := fun w => by kernel_rfl, t22 := by kernel_rfl, a22 := fun w => by kernel_rfl, z22 := fun w => by kernel_rfl, v22 := fun w => by kernel_rfl }
noncomputable def slices_Clone_Lint_info : TypeInfo := (Tryz.prog.info? 22).get (by kernel_rfl)
theorem slices_Clone_Lint_ok : FOK Tryz.prog n_slices_Clone_Lint slices_Clone_Lint_sh slices_Clone_Lint_fo slices_Clone_Lint :=
  clone_ok (e := (.list true (.int .i64))) ⟨_, fnat_slices_Clone_Lint, by kernel_rfl, by kernel_rfl⟩ (ρr := slices_Clone_Lint_ren) rfl slices_Clone_Lint_lay rfl slices_Clone_Lint_info (.slice none 0 0) 24 (by kernel_rfl) (by kernel_rfl) (by kernel_rfl) (by kernel_rfl) (by decide) (by decide) (fun w => by kernel_rfl)

def i_Solutions_sh : FSh := ⟨[(.ag [(.sl (.int .i64) false false)])], []⟩

def i_Solutions_fo : List FO := [⟨[(.one (.rw 0 0)), (.one .sb)], [(.row 0 (.list true (.int .i64)))]⟩]
noncomputable def i_Solutions_t : List (Int) → T ((Unit × Bool) × List (List (Int))) := fun p_0 =>
  (.sub (i_IsPuzzle p_0) fun z0 =>
  (.test (! z0)
  (.test true
   (.ret (((), false), ([] : List (List Int))))
   .fail)
  (.sub (i_Puzzle_solutions p_0) fun z1 =>
   (.test (decide (((List.length z1.2) : Int) > 300))
   (.test true
    (.ret (((), false), ([] : List (List Int))))
    .fail)
   (.test (decide ((0 + (List.length z1.2)) ≤ (List.length z1.2)))
    (.sub (slices_Clone_Lint (win z1.2 0 (List.length z1.2))) fun z2 =>
     (.test (decide ((0 = 0) ∧ ((List.length z2.2) = (List.length z2.2))))
     (.ret (((), true), z2.2))
     .fail))
    .fail)))))
noncomputable def i_Solutions (v : List (Int)) : Option ((Unit × Bool) × List (List (Int))) := (i_Solutions_t v).run
noncomputable def i_Solutions_E : TEnv := (((E0.add1 n_i_IsPuzzle i_IsPuzzle_sh i_IsPuzzle_fo i_IsPuzzle).add1 n_i_Puzzle_solutions i_Puzzle_solutions_sh i_Puzzle_solutions_fo i_Puzzle_solutions).add1 n_slices_Clone_Lint slices_Clone_Lint_sh slices_Clone_Lint_fo slices_Clone_Lint)
theorem i_Solutions_Eok : (i_Solutions_E).OK := (((E0ok.add1 i_IsPuzzle_ok).add1 i_Puzzle_solutions_ok).add1 slices_Clone_Lint_ok)
noncomputable def i_Solutions_told : Nat → Option SealT := fun id => none
theorem i_Solutions_ok : FOK Tryz.prog n_i_Solutions i_Solutions_sh i_Solutions_fo i_Solutions :=
  fn_ok (E := i_Solutions_E) (i_Solutions_Eok) (told := i_Solutions_told) (fl := []) (c := bodyOf fn_i_Solutions) (s := i_Solutions_sh) (l := i_Solutions_fo) (tree := i_Solutions_t) fnat_i_Solutions (by kernel_rfl) (by kernel_rfl) (by kernel_rfl) (loopsOK_of (ls := []) (by kernel_rfl) trivial) (fun v => by kernel_rfl)

theorem i_Solutions_eq (p : List Int) (hl : p.length < 4611686018427387904) : i_Solutions p = some (((), (solR p).1), (solR p).2) := by
  rw [i_Solutions, i_Solutions_t, T.run_sub, i_IsPuzzle_eq p hl, Option.bind_some, T.run_test]
  unfold solR
  cases hp : isPz p with
  | false => simp [T.run]
  | true =>
    have hpl := isPz_len hp
    have hq := allQ_len p.length hpl.2
    have hsol : i_Puzzle_solutions p = some ((), solL p) := by
      have hd := slices_DeleteFunc_Lint__i_Puzzle_solutions_1_eq (allQ p.length) p hl (by omega)
      have hsl : (allQ p.length).filter (fits p) = solL p := rfl
      rw [hsl] at hd
      rw [i_Puzzle_solutions, i_Puzzle_solutions_t, T.run_sub, i_allQuiddities_eq p.length hpl, Option.bind_some, T.run_test, if_pos (by simp), T.run_sub, hd, Option.bind_some, T.run_test, if_pos (by simp), T.run_ret]
    rw [if_neg (by simp), T.run_sub, hsol, Option.bind_some]
    have hle := solL_len p hpl.2
    generalize solL p = r at *
    have hc : slices_Clone_Lint r = some ((), r) := by
      unfold slices_Clone_Lint
      rw [if_pos]
      exact ⟨by unfold maxLen; omega, by omega⟩
    simp only [T.run_test, T.run_sub, T.run_ret, T.run_fail, Nat.zero_add, win_all]
    by_cases h3 : r.length ≤ 300
    · have c : ¬ ((r.length : Int) > 300) := by omega
      simp [c, h3, hc]
    · have c : (r.length : Int) > 300 := by omega
      simp [c, h3]


def i_someSolutions_sh : FSh := ⟨[(.ag [(.sl (.int .i64) false false)])], []⟩

def i_someSolutions_fo : List FO := [⟨[(.one (.rw 0 0)), (.one .sb)], [(.row 0 (.list true (.int .i64)))]⟩]
noncomputable def i_someSolutions_t : List (Int) → T ((Unit × Bool) × List (List (Int))) := fun p_0 =>
  (.sub (i_Solutions p_0) fun z0 =>
  (.test z0.1.2
  (.test (decide ((0 = 0) ∧ ((List.length z0.2) = (List.length z0.2))))
   (.ret (((), (decide (((List.length z0.2) : Int) > 0))), z0.2))
   .fail)
  (.test (decide ((0 = 0) ∧ ((List.length z0.2) = (List.length z0.2))))
   (.ret (((), false), z0.2))
   .fail)))
noncomputable def i_someSolutions (v : List (Int)) : Option ((Unit × Bool) × List (List (Int))) := (i_someSolutions_t v).run
noncomputable def i_someSolutions_E : TEnv := (E0.add1 n_i_Solutions i_Solutions_sh i_Solutions_fo i_Solutions)
theorem i_someSolutions_Eok : (i_someSolutions_E).OK := (E0ok.add1 i_Solutions_ok)
noncomputable def i_someSolutions_told : Nat → Option SealT := fun id => none
theorem i_someSolutions_ok : FOK Tryz.prog n_i_someSolutions i_someSolutions_sh i_someSolutions_fo i_someSolutions :=
  fn_ok (E := i_someSolutions_E) (i_someSolutions_Eok) (told := i_someSolutions_told) (fl := []) (c := bodyOf fn_i_someSolutions) (s := i_someSolutions_sh) (l := i_someSolutions_fo) (tree := i_someSolutions_t) fnat_i_someSolutions (by kernel_rfl) (by kernel_rfl) (by kernel_rfl) (loopsOK_of (ls := []) (by kernel_rfl) trivial) (fun v => by kernel_rfl)

def i_isPolygon_sh : FSh := ⟨[(.one (.si .i64))], []⟩

def i_isPolygon_fo : List FO := [⟨[(.one .sb)], []⟩]
noncomputable def i_isPolygon_t : Int → T Bool := fun n =>
  (.sub (i_within (n, ((3 : Int), (12 : Int)))) fun z0 =>
  (.ret z0))
noncomputable def i_isPolygon (v : Int) : Option Bool := (i_isPolygon_t v).run
noncomputable def i_isPolygon_E : TEnv := (E0.add1 n_i_within i_within_sh i_within_fo i_within)
theorem i_isPolygon_Eok : (i_isPolygon_E).OK := (E0ok.add1 i_within_ok)
noncomputable def i_isPolygon_told : Nat → Option SealT := fun id => none
theorem i_isPolygon_ok : FOK Tryz.prog n_i_isPolygon i_isPolygon_sh i_isPolygon_fo i_isPolygon :=
  fn_ok (E := i_isPolygon_E) (i_isPolygon_Eok) (told := i_isPolygon_told) (fl := []) (c := bodyOf fn_i_isPolygon) (s := i_isPolygon_sh) (l := i_isPolygon_fo) (tree := i_isPolygon_t) fnat_i_isPolygon (by kernel_rfl) (by kernel_rfl) (by kernel_rfl) (loopsOK_of (ls := []) (by kernel_rfl) trivial) (fun v => by kernel_rfl)

def slices_Clone_int_sh : FSh := ⟨[.one (.sl (.int .i64) false false)], []⟩
def slices_Clone_int_fo : List FO := [⟨[.one (.rw 0 0)], [.row 0 (.int .i64)]⟩]
def slices_Clone_int (v : List Int) : Option (Unit × List Int) := if v.length ≤ maxLen ∧ v.length * 8 ≤ 140737488355328 then some ((), v) else none
def slices_Clone_int_ren : Shelf.Ren := ⟨fun _ => n_slices_Clone_int, fun t => if t = 4 then 4 else if t = 22 then 22 else 3, fun x => x⟩
theorem slices_Clone_int_lay : SlLaysE0.n41 Tryz.prog slices_Clone_int_ren :=
  { mixed := by kernel_rfl, f41 := ⟨"slices.Clone[[]int,int]", by kernel_rfl, by kernel_rfl⟩, t4 := by kernel_rfl, a4 := fun w => by kernel_rfl, z4 := fun w => by kernel_rfl, v4 := fun w => by kernel_rfl, t22 := by kernel_rfl, a22 := fun w => by kernel_rfl, z22 := fun w => by kernel_rfl, v22 := fun w => by kernel_rfl }
noncomputable def slices_Clone_int_info : TypeInfo := (Tryz.prog.info? 3).get (by kernel_rfl)
theorem slices_Clone_int_ok : FOK Tryz.prog n_slices_Clone_int slices_Clone_int_sh slices_Clone_int_fo slices_Clone_int :=
  clone_ok (e := .int .i64) ⟨_, fnat_slices_Clone_int, by kernel_rfl, by kernel_rfl⟩ (ρr := slices_Clone_int_ren) rfl slices_Clone_int_lay rfl slices_Clone_int_info (.int .i64 0) 8 (by kernel_rfl) (by kernel_rfl) (by kernel_rfl) (by kernel_rfl) (by decide) (by decide) (fun w => by kernel_rfl)

def slices_Index_int_sh : FSh := ⟨[(.one (.sl (.int .i64) false false)), (.one (.si .i64))], []⟩

def slices_Index_int_L2_sh : LSh := ⟨(fun ex => match ex with | .norm => [(0, none), (1, none), (7, none), (8, none)] | .exit i => if i = 0 then [] else [] | .ret => [(4, none)]), [(0, (.one (.sl (.int .i64) false false))), (1, (.one (.si .i64))), (7, (.one (.si .i64))), (8, (.one (.si .i64)))], [], [⟨.ret, [(4, (.one (.si .i64)))], []⟩, ⟨(.exit 0), [], []⟩], [], []⟩
noncomputable def slices_Index_int_L2_step : (List (Int) × Int × Int × Int) → T ((List (Int) × Int × Int × Int) ⊕ (Int ⊕ Unit)) := fun (s, v, t7, t8) =>
  (.test (decide (t8 < t7))
  (.test (decide ((0 ≤ t8) ∧ (t8 < ((List.length s) : Int))))
   (.sub (s[(Int.toNat t8)]?) fun z0 =>
    (.test (v == z0)
    (.ret (Sum.inr (Sum.inl t8)))
    (.ret (Sum.inl (s, (v, (t7, (w64 (t8 + 1)))))))))
   .fail)
  (.ret (Sum.inr (Sum.inr ()))))
noncomputable def slices_Index_int_L2 (v : (List (Int) × Int × Int × Int)) : Option (Int ⊕ Unit) := loopO (fun v => (slices_Index_int_L2_step v).run) v

def slices_Index_int_fo : List FO := [⟨[(.one (.si .i64))], []⟩]
noncomputable def slices_Index_int_t : (List (Int) × Int) → T Int := fun (s, v) =>
  (.sub (slices_Index_int_L2 (s, (v, (((List.length s) : Int), (0 : Int))))) fun z0 =>
  (.test (Sum.isLeft z0)
  (.sub (Sum.getLeft? z0) fun z1 =>
   (.ret z1))
  (.sub (Sum.getRight? z0) fun z2 =>
   (.ret (-1)))))
noncomputable def slices_Index_int (v : (List (Int) × Int)) : Option Int := (slices_Index_int_t v).run
noncomputable def slices_Index_int_E : TEnv := E0
theorem slices_Index_int_Eok : (slices_Index_int_E).OK := E0ok
noncomputable def slices_Index_int_told : Nat → Option SealT := fun id => if id = 2 then some (LSh.told slices_Index_int_L2_sh 0 (slices_Index_int_L2_step)) else none
theorem slices_Index_int_L2_ok : ToldOK Tryz.prog 0 (loopAt (bodyOf fn_slices_Index_int) [0]) (LSh.told slices_Index_int_L2_sh 0 (slices_Index_int_L2_step)) :=
  loop_ok (E := slices_Index_int_E) (slices_Index_int_Eok) (told := slices_Index_int_told) (l := slices_Index_int_L2_sh) (step := slices_Index_int_L2_step) (loopsOK_of (ls := []) (by kernel_rfl) trivial) (by kernel_rfl) (fun v => by kernel_rfl)
theorem slices_Index_int_ok : FOK Tryz.prog n_slices_Index_int slices_Index_int_sh slices_Index_int_fo slices_Index_int :=
  fn_ok (E := slices_Index_int_E) (slices_Index_int_Eok) (told := slices_Index_int_told) (fl := []) (c := bodyOf fn_slices_Index_int) (s := slices_Index_int_sh) (l := slices_Index_int_fo) (tree := slices_Index_int_t) fnat_slices_Index_int (by kernel_rfl) (by kernel_rfl) (by kernel_rfl) (loopsOK_of (ls := [loopAt (bodyOf fn_slices_Index_int) [0]]) (by kernel_rfl) ⟨.inr ⟨_, by kernel_rfl, slices_Index_int_L2_ok⟩, trivial⟩) (fun v => by kernel_rfl)

theorem slices_Index_int_eq (s : List Int) (v : Int) (hl : s.length < 4611686018427387904) : slices_Index_int (s, v) = some (idxI (fun x => v == x) s) := by
  have h := loop_find (step := fun v => (slices_Index_int_L2_step v).run) (xs := s) (fun x => v == x) (fun k => (s, (v, ((s.length : Int), (k : Int))))) (fun k => .inl (k : Int)) (.inr ())
    (fun k x hx => by
      have hlt := getElem?_lt hx
      have h1 : (k : Int) < (s.length : Int) := by omega
      have h2 : (0 : Int) ≤ k ∧ (k : Int) < (s.length : Int) := by omega
      simp only [slices_Index_int_L2_step, T.run, Int.toNat_natCast, hx, Option.bind_some, h1, h2, decide_true, if_true, and_self]
      rw [w64_id (z := (k : Int) + 1) (by omega) (by omega)]
      cases hv : (v == x) <;> simp [hv])
    (by simp [slices_Index_int_L2_step, T.run])
  rw [show ((0 : Nat) : Int) = 0 from rfl] at h
  simp only [slices_Index_int, slices_Index_int_t, T.run, slices_Index_int_L2]
  rw [h]
  simp only [idxI]
  cases hf : s.findIdx? (fun x => v == x) <;> simp [Sum.isLeft, hf]


def slices_Delete_int_sh : FSh := ⟨[.one (.rw 0 0), .one (.si .i64), .one (.si .i64)], [.row 0 (.int .i64)]⟩
def slices_Delete_int_fo : List FO := [⟨[.one (.rw 0 0)], [.row 0 (.int .i64)]⟩]
def slices_Delete_int (v : (Unit × Int × Int) × List Int) : Option (Unit × List Int) := if 0 ≤ v.1.2.1 ∧ v.1.2.1 < v.1.2.2 ∧ v.1.2.2 ≤ (v.2.length : Int) ∧ v.2.length ≤ 4611686018427387904 then some ((), v.2.take v.1.2.1.toNat ++ v.2.drop v.1.2.2.toNat) else none
def slices_Delete_int_ren : Shelf.Ren := ⟨fun _ => n_slices_Delete_int, fun t => if t = 0 then 0 else if t = 3 then 3 else if t = 4 then 4 else if t = 22 then 22 else 3, fun x => x⟩
theorem slices_Delete_int_lay : SlLaysE0.n45 Tryz.prog slices_Delete_int_ren :=
  { mixed := by kernel_rfl, f45 := ⟨"slices.Delete[[]int,int]", by kernel_rfl, by kernel_rfl⟩, t0 := by kernel_rfl, a0 := fun w => by kernel_rfl, z0 := fun w => by kernel_rfl, v0 := fun w => by kernel_rfl, t3 := by kernel_rfl, a3 := fun w => by kernel_rfl, z3 := fun w => by kernel_rfl, v3 := fun w => by kernel_rfl, t4 := by kernel_rfl, a4 := fun w => by kernel_rfl, z4 := fun w => by kernel_rfl, v4 := fun w => by kernel_rfl, t22 := by kernel_rfl, a22 := fun w => by kernel_rfl, z22 := fun w => by kernel_rfl, v22 := fun w => by kernel_rfl }
noncomputable def slices_Delete_int_info : TypeInfo := (Tryz.prog.info? 3).get (by kernel_rfl)
theorem slices_Delete_int_ok : FOK Tryz.prog n_slices_Delete_int slices_Delete_int_sh slices_Delete_int_fo slices_Delete_int :=
  delete_ok ⟨_, fnat_slices_Delete_int, by kernel_rfl, by kernel_rfl⟩ (ρr := slices_Delete_int_ren) rfl slices_Delete_int_lay (fun w => by kernel_rfl) (fun w => by kernel_rfl) (fun w => by kernel_rfl) slices_Delete_int_info (by kernel_rfl) (by kernel_rfl)

def math_bits_Len_sh : FSh := ⟨[.one (.si .u64)], []⟩
def math_bits_Len_fo : List FO := [⟨[.one (.si .i64)], []⟩]
def math_bits_Len (x : Int) : Option Int := if 0 ≤ x ∧ x ≤ 18446744073709551615 then some (Lib.bitLen x.toNat : Int) else none
def math_bits_Len_ren : Shelf.Ren := ⟨fun k => if k = 125 then n_math_bits_Len else if k = 128 then 81 else 82, fun t => if t = 3 then 3 else if t = 4 then 4 else if t = 5 then 5 else if t = 9 then 9 else if t = 46 then 70 else if t = 51 then 89 else 91, fun x => x⟩
theorem math_bits_Len_lay : Lays.n125 Tryz.prog math_bits_Len_ren :=
  { mixed := by kernel_rfl, f125 := by kernel_rfl, f128 := by kernel_rfl, f129 := by kernel_rfl, t3 := by kernel_rfl, a3 := fun w => by kernel_rfl, z3 := fun w => by kernel_rfl, v3 := fun w => by kernel_rfl, t4 := by kernel_rfl, a4 := fun w => by kernel_rfl, z4 := fun w => by kernel_rfl, v4 := fun w => by kernel_rfl, t5 := by kernel_rfl, a5 := fun w => by kernel_rfl, z5 := fun w => by kernel_rfl, v5 := fun w => by kernel_rfl, t9 := by kernel_rfl, a9 := fun w => by kernel_rfl, z9 := fun w => by kernel_rfl, v9 := fun w => by kernel_rfl, t46 := by kernel_rfl, a46 := fun w => by kernel_rfl, z46 := fun w => by kernel_rfl, v46 := fun w => by kernel_rfl, t51 := by kernel_rfl, a51 := fun w => by kernel_rfl, z51 := fun w => by kernel_rfl, v51 := fun w => by kernel_rfl, t53 := by kernel_rfl, a53 := fun w => by kernel_rfl, z53 := fun w => by kernel_rfl, v53 := fun w => by kernel_rfl }
theorem math_bits_Len_ok : FOK Tryz.prog n_math_bits_Len math_bits_Len_sh math_bits_Len_fo math_bits_Len :=
  bitsLen_ok ⟨_, fnat_math_bits_Len, by kernel_rfl, by kernel_rfl⟩ (ρr := math_bits_Len_ren) rfl math_bits_Len_lay

def cmp_isNaN_int_sh : FSh := ⟨[(.one (.si .i64))], []⟩

def cmp_isNaN_int_fo : List FO := [⟨[(.one .sb)], []⟩]
noncomputable def cmp_isNaN_int_t : Int → T Bool := fun x =>
  (.ret (x != x))
noncomputable def cmp_isNaN_int (v : Int) : Option Bool := (cmp_isNaN_int_t v).run
noncomputable def cmp_isNaN_int_E : TEnv := E0
theorem cmp_isNaN_int_Eok : (cmp_isNaN_int_E).OK := E0ok
noncomputable def cmp_isNaN_int_told : Nat → Option SealT := fun id => none
theorem cmp_isNaN_int_ok : FOK Tryz.prog n_cmp_isNaN_int cmp_isNaN_int_sh cmp_isNaN_int_fo cmp_isNaN_int :=
  fn_ok (E := cmp_isNaN_int_E) (cmp_isNaN_int_Eok) (told := cmp_isNaN_int_told) (fl := []) (c := bodyOf fn_cmp_isNaN_int) (s := cmp_isNaN_int_sh) (l := cmp_isNaN_int_fo) (tree := cmp_isNaN_int_t) fnat_cmp_isNaN_int (by kernel_rfl) (by kernel_rfl) (by kernel_rfl) (loopsOK_of (ls := []) (by kernel_rfl) trivial) (fun v => by kernel_rfl)

def cmp_Compare_int_sh : FSh := ⟨[(.one (.si .i64)), (.one (.si .i64))], []⟩

def cmp_Compare_int_fo : List FO := [⟨[(.one (.si .i64))], []⟩]
noncomputable def cmp_Compare_int_t : (Int × Int) → T Int := fun (x, y) =>
  (.sub (cmp_isNaN_int x) fun z0 =>
  (.sub (cmp_isNaN_int y) fun z1 =>
  (.test z0
  (.test z1
   (.ret (0 : Int))
   (.ret (-1)))
  (.test z1
   (.ret (1 : Int))
   (.test (decide (x < y))
    (.ret (-1))
    (.test (decide (x > y))
     (.ret (1 : Int))
     (.ret (0 : Int))))))))
noncomputable def cmp_Compare_int (v : (Int × Int)) : Option Int := (cmp_Compare_int_t v).run
noncomputable def cmp_Compare_int_E : TEnv := (E0.add1 n_cmp_isNaN_int cmp_isNaN_int_sh cmp_isNaN_int_fo cmp_isNaN_int)
theorem cmp_Compare_int_Eok : (cmp_Compare_int_E).OK := (E0ok.add1 cmp_isNaN_int_ok)
noncomputable def cmp_Compare_int_told : Nat → Option SealT := fun id => none
theorem cmp_Compare_int_ok : FOK Tryz.prog n_cmp_Compare_int cmp_Compare_int_sh cmp_Compare_int_fo cmp_Compare_int :=
  fn_ok (E := cmp_Compare_int_E) (cmp_Compare_int_Eok) (told := cmp_Compare_int_told) (fl := []) (c := bodyOf fn_cmp_Compare_int) (s := cmp_Compare_int_sh) (l := cmp_Compare_int_fo) (tree := cmp_Compare_int_t) fnat_cmp_Compare_int (by kernel_rfl) (by kernel_rfl) (by kernel_rfl) (loopsOK_of (ls := []) (by kernel_rfl) trivial) (fun v => by kernel_rfl)

theorem cmp_Compare_int_eq (a b : Int) : cmp_Compare_int (a, b) = some (if a < b then -1 else if b < a then 1 else 0) := by
  have h : ∀ x, cmp_isNaN_int x = some false := fun x => by simp [cmp_isNaN_int, cmp_isNaN_int_t, T.run]
  simp only [cmp_Compare_int, cmp_Compare_int_t, T.run, h, Option.bind_some]
  by_cases h1 : a < b
  · simp [h1]
  · by_cases h2 : b < a <;> simp [h1, h2]


def cmp_Or_int_sh : FSh := ⟨[(.one (.sl (.int .i64) false false))], []⟩

def cmp_Or_int_L3_sh : LSh := ⟨(fun ex => match ex with | .norm => [(3, none), (6, none), (7, none), (8, none)] | .exit i => if i = 0 then [(3, none)] else [] | .ret => [(2, none)]), [(3, (.one (.si .i64))), (6, (.one (.sl (.int .i64) false false))), (7, (.one (.si .i64))), (8, (.one (.si .i64)))], [], [⟨.ret, [(2, (.one (.si .i64)))], []⟩, ⟨(.exit 0), [(3, (.one (.si .i64)))], []⟩], [], []⟩
noncomputable def cmp_Or_int_L3_step : (Int × List (Int) × Int × Int) → T ((Int × List (Int) × Int × Int) ⊕ (Int ⊕ Int)) := fun (zero, t6, t7, t8) =>
  (.test (decide (t8 < t7))
  (.test (decide ((0 ≤ t8) ∧ (t8 < ((List.length t6) : Int))))
   (.sub (t6[(Int.toNat t8)]?) fun z0 =>
    (.test (z0 != zero)
    (.ret (Sum.inr (Sum.inl z0)))
    (.ret (Sum.inl (zero, (t6, (t7, (w64 (t8 + 1)))))))))
   .fail)
  (.ret (Sum.inr (Sum.inr zero))))
noncomputable def cmp_Or_int_L3 (v : (Int × List (Int) × Int × Int)) : Option (Int ⊕ Int) := loopO (fun v => (cmp_Or_int_L3_step v).run) v

def cmp_Or_int_fo : List FO := [⟨[(.one (.si .i64))], []⟩]
noncomputable def cmp_Or_int_t : List (Int) → T Int := fun vals =>
  (.sub (cmp_Or_int_L3 ((0 : Int), (vals, (((List.length vals) : Int), (0 : Int))))) fun z0 =>
  (.test (Sum.isLeft z0)
  (.sub (Sum.getLeft? z0) fun z1 =>
   (.ret z1))
  (.sub (Sum.getRight? z0) fun z2 =>
   (.ret z2))))
noncomputable def cmp_Or_int (v : List (Int)) : Option Int := (cmp_Or_int_t v).run
noncomputable def cmp_Or_int_E : TEnv := E0
theorem cmp_Or_int_Eok : (cmp_Or_int_E).OK := E0ok
noncomputable def cmp_Or_int_told : Nat → Option SealT := fun id => if id = 3 then some (LSh.told cmp_Or_int_L3_sh 0 (cmp_Or_int_L3_step)) else none
theorem cmp_Or_int_L3_ok : ToldOK Tryz.prog 0 (loopAt (bodyOf fn_cmp_Or_int) [0]) (LSh.told cmp_Or_int_L3_sh 0 (cmp_Or_int_L3_step)) :=
  loop_ok (E := cmp_Or_int_E) (cmp_Or_int_Eok) (told := cmp_Or_int_told) (l := cmp_Or_int_L3_sh) (step := cmp_Or_int_L3_step) (loopsOK_of (ls := []) (by kernel_rfl) trivial) (by kernel_rfl) (fun v => by kernel_rfl)
theorem cmp_Or_int_ok : FOK Tryz.prog n_cmp_Or_int cmp_Or_int_sh cmp_Or_int_fo cmp_Or_int :=
  fn_ok (E := cmp_Or_int_E) (cmp_Or_int_Eok) (told := cmp_Or_int_told) (fl := []) (c := bodyOf fn_cmp_Or_int) (s := cmp_Or_int_sh) (l := cmp_Or_int_fo) (tree := cmp_Or_int_t) fnat_cmp_Or_int (by kernel_rfl) (by kernel_rfl) (by kernel_rfl) (loopsOK_of (ls := [loopAt (bodyOf fn_cmp_Or_int) [0]]) (by kernel_rfl) ⟨.inr ⟨_, by kernel_rfl, cmp_Or_int_L3_ok⟩, trivial⟩) (fun v => by kernel_rfl)

theorem cmp_Or_int_two (a b : Int) : cmp_Or_int [a, b] = some (if a = 0 then b else a) := by
  simp only [cmp_Or_int, cmp_Or_int_t, T.run, cmp_Or_int_L3]
  rw [loopO_step]
  simp only [cmp_Or_int_L3_step, T.run]
  by_cases ha : a = 0
  · subst ha
    simp [w64_id (z := 1)]
    rw [loopO_step]
    simp only [cmp_Or_int_L3_step, T.run]
    by_cases hb : b = 0
    · subst hb
      simp [w64_id (z := 2)]
      rw [loopO_step]
      simp [cmp_Or_int_L3_step, T.run]
    · simp [hb]
  · simp [ha]


end Go.Proofs.W
