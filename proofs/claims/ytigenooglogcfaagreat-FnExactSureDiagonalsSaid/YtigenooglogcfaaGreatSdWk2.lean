/- Functions of the program, walked, and what they compute. -/
import Derived.Test.YtigenooglogcfaaGreatSdWk1
set_option linter.unusedVariables false
set_option linter.unusedSimpArgs false
set_option maxRecDepth 100000
set_option maxHeartbeats 4000000
namespace Go.Proofs.W
open Go Go.Gm Go.Proofs
open Go.RowKit Go.Shelf
def s_poLook_sh : FSh := ⟨[(.one (.si .i64)), (.one (.sl (.pair (.int .i64) (.int .i64)) false false)), (.one (.sl (.pair (.int .i64) (.int .i64)) false false)), (.one (.pf 0 0 0))], [(.rcd 0 [(.nl true true)])]⟩

def s_poLook_L7_sh : LSh := ⟨(fun ex => match ex with | .norm => [(0, none), (1, none), (2, none), (3, none), (8, none), (9, none), (10, none), (28, none), (29, none), (30, none), (35, none), (36, none), (37, none)] | .exit i => if i = 2 then [(0, none), (1, none), (2, none), (3, none), (8, none), (9, none), (10, none), (28, none), (29, none), (30, none)] else if i = 1 then [(0, none), (1, none), (2, none), (3, none), (28, none), (29, none), (30, none)] else if i = 0 then [] else [] | .ret => []), [(0, (.one (.si .i64))), (1, (.one (.sl (.pair (.int .i64) (.int .i64)) false false))), (2, (.one (.sl (.pair (.int .i64) (.int .i64)) false false))), (3, (.one (.pf 0 0 0))), (8, (.one (.si .i64))), (9, (.one (.pf 2 0 0))), (10, (.one .sb)), (28, (.one (.sl (.pair (.int .i64) (.int .i64)) false false))), (29, (.one (.si .i64))), (30, (.one (.si .i64))), (35, (.one (.sl (.pair (.int .i64) (.int .i64)) false false))), (36, (.one (.si .i64))), (37, (.one (.si .i64)))], [(.rcd 0 [(.rw 1 0)]), (.row 0 (.list true (.pair (.int .i64) (.int .i64)))), (.rcd 0 [(.si .i64), (.si .i64)])], [⟨(.exit 2), [(0, (.one (.si .i64))), (1, (.one (.sl (.pair (.int .i64) (.int .i64)) false false))), (2, (.one (.sl (.pair (.int .i64) (.int .i64)) false false))), (3, (.one (.pf 0 0 0))), (8, (.one (.si .i64))), (9, (.one (.pf 2 0 0))), (10, (.one .sb)), (28, (.one (.sl (.pair (.int .i64) (.int .i64)) false false))), (29, (.one (.si .i64))), (30, (.one (.si .i64)))], [(.rcd 0 [(.rw 1 0)]), (.row 0 (.list true (.pair (.int .i64) (.int .i64)))), (.rcd 0 [(.si .i64), (.si .i64)])]⟩], [], []⟩
noncomputable def s_poLook_L7_step : ((Int × List ((Int × Int)) × List ((Int × Int)) × Unit × Int × Unit × Bool × List ((Int × Int)) × Int × Int × List ((Int × Int)) × Int × Int) × (Unit × List (List ((Int × Int))) × (Int × Int))) → T (((Int × List ((Int × Int)) × List ((Int × Int)) × Unit × Int × Unit × Bool × List ((Int × Int)) × Int × Int × List ((Int × Int)) × Int × Int) × (Unit × List (List ((Int × Int))) × (Int × Int))) ⊕ ((Int × List ((Int × Int)) × List ((Int × Int)) × Unit × Int × Unit × Bool × List ((Int × Int)) × Int × Int) × (Unit × List (List ((Int × Int))) × (Int × Int)))) := fun ((n, all, begin, (), i, (), free, t28, t29, t30, t35, t36, t37), ((), out_r, (d_0, d_1))) =>
  (.test (decide (t37 < t36))
  (.test (decide ((0 ≤ t37) ∧ (t37 < ((List.length t35) : Int))))
   (.sub (t35[(Int.toNat t37)]?) fun z0 =>
    (.test free
    (.sub (s_poCross ((d_0, d_1), (z0.1, z0.2))) fun z1 =>
     (.test (decide ((0 = 0) ∧ ((List.length out_r) = (List.length out_r))))
     (.ret (Sum.inl ((n, (all, (begin, ((), (i, ((), ((! z1), (t28, (t29, (t30, (t35, (t36, (w64 (t37 + 1)))))))))))))), ((), (out_r, (d_0, d_1))))))
     .fail))
    (.test (decide ((0 = 0) ∧ ((List.length out_r) = (List.length out_r))))
     (.ret (Sum.inl ((n, (all, (begin, ((), (i, ((), (false, (t28, (t29, (t30, (t35, (t36, (w64 (t37 + 1)))))))))))))), ((), (out_r, (d_0, d_1))))))
     .fail)))
   .fail)
  (.test (decide ((0 = 0) ∧ ((List.length out_r) = (List.length out_r))))
   (.ret (Sum.inr ((n, (all, (begin, ((), (i, ((), (free, (t28, (t29, t30))))))))), ((), (out_r, (d_0, d_1))))))
   .fail))
noncomputable def s_poLook_L7 (v : ((Int × List ((Int × Int)) × List ((Int × Int)) × Unit × Int × Unit × Bool × List ((Int × Int)) × Int × Int × List ((Int × Int)) × Int × Int) × (Unit × List (List ((Int × Int))) × (Int × Int)))) : Option ((Int × List ((Int × Int)) × List ((Int × Int)) × Unit × Int × Unit × Bool × List ((Int × Int)) × Int × Int) × (Unit × List (List ((Int × Int))) × (Int × Int))) := loopO (fun v => (s_poLook_L7_step v).run) v

def s_poLook_L3_sh : LSh := ⟨(fun ex => match ex with | .norm => [(0, none), (1, none), (2, none), (3, none), (28, none), (29, none), (30, none)] | .exit i => if i = 0 then [] else [] | .ret => []), [(0, (.one (.si .i64))), (1, (.one (.sl (.pair (.int .i64) (.int .i64)) false false))), (2, (.one (.sl (.pair (.int .i64) (.int .i64)) false false))), (3, (.one (.pf 0 0 0))), (28, (.one (.sl (.pair (.int .i64) (.int .i64)) false false))), (29, (.one (.si .i64))), (30, (.one (.si .i64)))], [(.rcd 0 [(.rw 1 0)]), (.row 0 (.list true (.pair (.int .i64) (.int .i64))))], [⟨(.exit 0), [], [(.rcd 0 [(.rw 1 0)]), (.row 0 (.list true (.pair (.int .i64) (.int .i64))))]⟩], [(0, 0, (.list true (.pair (.int .i64) (.int .i64))))], []⟩
noncomputable def s_poLook_L3_step : ((Int × List ((Int × Int)) × List ((Int × Int)) × Unit × List ((Int × Int)) × Int × Int) × (Unit × List (List ((Int × Int))))) → T (((Int × List ((Int × Int)) × List ((Int × Int)) × Unit × List ((Int × Int)) × Int × Int) × (Unit × List (List ((Int × Int))))) ⊕ (Unit × (Unit × List (List ((Int × Int)))))) := fun ((n, all, begin, (), t28, t29, t30), ((), out_r)) =>
  (.test (decide (t30 < t29))
  (.test (decide ((0 ≤ t30) ∧ (t30 < ((List.length t28) : Int))))
   (.sub (t28[(Int.toNat t30)]?) fun z0 =>
    (.test (decide ((0 = 0) ∧ ((List.length out_r) = (List.length out_r))))
    (.sub (s_poLook_L7 ((n, (all, (begin, ((), (t30, ((), (true, (t28, (t29, (t30, (begin, (((List.length begin) : Int), (0 : Int))))))))))))), ((), (out_r, (z0.1, z0.2))))) fun z1 =>
     (.test z1.1.2.2.2.2.2.2.1
     (.test (decide (0 ≤ (w64 (z1.1.2.2.2.2.1 + 1))))
      (.test (decide (((Int.toNat (w64 (z1.1.2.2.2.2.1 + 1))) ≤ (List.length z1.1.2.1)) ∧ ((List.length z1.1.2.1) ≤ (List.length z1.1.2.1))))
       (.test true
        (.test (decide ((2 * ((0 + (List.length z1.1.2.2.1)) * 17)) ≤ 140737488355328))
         (.test (decide (1 ≤ (List.length (List.set (List.replicate 1 ((0 : Int), (0 : Int))) 0 (z1.2.2.2.1, z1.2.2.2.2)))))
          (.test (decide ((0 + (0 + (List.length z1.1.2.2.1))) ≤ (List.length ((win (List.replicate 0 ((0 : Int), (0 : Int))) 0 0) ++ z1.1.2.2.1))))
           (.test (decide ((2 * (((0 + (List.length z1.1.2.2.1)) + (List.length (win (List.set (List.replicate 1 ((0 : Int), (0 : Int))) 0 (z1.2.2.2.1, z1.2.2.2.2)) 0 1))) * 17)) ≤ 140737488355328))
            (.test (decide ((0 + ((0 + (List.length z1.1.2.2.1)) + (List.length (win (List.set (List.replicate 1 ((0 : Int), (0 : Int))) 0 (z1.2.2.2.1, z1.2.2.2.2)) 0 1)))) ≤ (List.length ((win ((win (List.replicate 0 ((0 : Int), (0 : Int))) 0 0) ++ z1.1.2.2.1) 0 (0 + (List.length z1.1.2.2.1))) ++ (win (List.set (List.replicate 1 ((0 : Int), (0 : Int))) 0 (z1.2.2.2.1, z1.2.2.2.2)) 0 1)))))
             (.test (decide ((0 = 0) ∧ ((List.length z1.2.2.1) = (List.length z1.2.2.1))))
              (.sub (s_poLook_v2 ((z1.1.1, ((win z1.1.2.1 (Int.toNat (w64 (z1.1.2.2.2.2.1 + 1))) ((List.length z1.1.2.1) - (Int.toNat (w64 (z1.1.2.2.2.2.1 + 1))))), ((win ((win ((win (List.replicate 0 ((0 : Int), (0 : Int))) 0 0) ++ z1.1.2.2.1) 0 (0 + (List.length z1.1.2.2.1))) ++ (win (List.set (List.replicate 1 ((0 : Int), (0 : Int))) 0 (z1.2.2.2.1, z1.2.2.2.2)) 0 1)) 0 ((0 + (List.length z1.1.2.2.1)) + (List.length (win (List.set (List.replicate 1 ((0 : Int), (0 : Int))) 0 (z1.2.2.2.1, z1.2.2.2.2)) 0 1)))), ()))), ((), z1.2.2.1))) fun z2 =>
               (.test (decide ((0 = 0) ∧ ((List.length z2.2.2) = (List.length z2.2.2))))
               (.ret (Sum.inl ((z1.1.1, (z1.1.2.1, (z1.1.2.2.1, ((), (z1.1.2.2.2.2.2.2.2.1, (z1.1.2.2.2.2.2.2.2.2.1, (w64 (z1.1.2.2.2.2.2.2.2.2.2 + 1)))))))), ((), z2.2.2))))
               .fail))
              .fail)
             .fail)
            .fail)
           .fail)
          .fail)
         .fail)
        .fail)
       .fail)
      .fail)
     (.test (decide ((0 = 0) ∧ ((List.length z1.2.2.1) = (List.length z1.2.2.1))))
      (.ret (Sum.inl ((z1.1.1, (z1.1.2.1, (z1.1.2.2.1, ((), (z1.1.2.2.2.2.2.2.2.1, (z1.1.2.2.2.2.2.2.2.2.1, (w64 (z1.1.2.2.2.2.2.2.2.2.2 + 1)))))))), ((), z1.2.2.1))))
      .fail)))
    .fail))
   .fail)
  (.test (decide ((0 = 0) ∧ ((List.length out_r) = (List.length out_r))))
   (.ret (Sum.inr ((), ((), out_r))))
   .fail))
noncomputable def s_poLook_L3 (v : ((Int × List ((Int × Int)) × List ((Int × Int)) × Unit × List ((Int × Int)) × Int × Int) × (Unit × List (List ((Int × Int)))))) : Option (Unit × (Unit × List (List ((Int × Int))))) := loopO (fun v => (s_poLook_L3_step v).run) v

def s_poLook_fo : List FO := [⟨[], [(.rcd 0 [(.rw 1 0)]), (.row 0 (.list true (.pair (.int .i64) (.int .i64))))]⟩]
noncomputable def s_poLook_t : ((Int × List ((Int × Int)) × List ((Int × Int)) × Unit) × Unit) → T (Unit × (Unit × List (List ((Int × Int))))) := fun ((n, all, begin, ()), ()) =>
  (.test (((List.length begin) : Int) == (w64 (n - 3)))
  (.test true
   (.test (decide ((2 * ((0 + (List.length begin)) * 17)) ≤ 140737488355328))
    (.test (decide ((0 + (0 + (List.length begin))) ≤ (List.length ((win (List.replicate 0 ((0 : Int), (0 : Int))) 0 0) ++ begin))))
     (.test (decide (1 ≤ (List.length (List.set (List.replicate 1 ([] : List (Int × Int))) 0 (win ((win (List.replicate 0 ((0 : Int), (0 : Int))) 0 0) ++ begin) 0 (0 + (List.length begin)))))))
      (.test (decide (¬ (((List.length (win (List.set (List.replicate 1 ([] : List (Int × Int))) 0 (win ((win (List.replicate 0 ((0 : Int), (0 : Int))) 0 0) ++ begin) 0 (0 + (List.length begin)))) 0 1)) = 0) ∧ (0 ≠ 0))))
       (.test (decide ((2 * ((0 + (List.length (win (List.set (List.replicate 1 ([] : List (Int × Int))) 0 (win ((win (List.replicate 0 ((0 : Int), (0 : Int))) 0 0) ++ begin) 0 (0 + (List.length begin)))) 0 1))) * 25)) ≤ 140737488355328))
        (.test (decide ((0 = 0) ∧ ((0 + (List.length (win (List.set (List.replicate 1 ([] : List (Int × Int))) 0 (win ((win (List.replicate 0 ((0 : Int), (0 : Int))) 0 0) ++ begin) 0 (0 + (List.length begin)))) 0 1))) = (List.length (([] : List (List (Int × Int))) ++ (win (List.set (List.replicate 1 ([] : List (Int × Int))) 0 (win ((win (List.replicate 0 ((0 : Int), (0 : Int))) 0 0) ++ begin) 0 (0 + (List.length begin)))) 0 1))))))
         (.ret ((), ((), (([] : List (List (Int × Int))) ++ (win (List.set (List.replicate 1 ([] : List (Int × Int))) 0 (win ((win (List.replicate 0 ((0 : Int), (0 : Int))) 0 0) ++ begin) 0 (0 + (List.length begin)))) 0 1)))))
         .fail)
        .fail)
       .fail)
      .fail)
     .fail)
    .fail)
   .fail)
  (.test true
   (.sub (s_poLook_L3 ((n, (all, (begin, ((), (all, (((List.length all) : Int), (0 : Int))))))), ((), ([] : List (List (Int × Int)))))) fun z0 =>
    (.test (decide ((0 = 0) ∧ ((List.length z0.2.2) = (List.length z0.2.2))))
    (.ret ((), ((), z0.2.2)))
    .fail))
   .fail))
noncomputable def s_poLook (v : ((Int × List ((Int × Int)) × List ((Int × Int)) × Unit) × Unit)) : Option (Unit × (Unit × List (List ((Int × Int))))) := (s_poLook_t v).run
noncomputable def s_poLook_E : TEnv := ((E0.add1 n_s_poCross s_poCross_sh s_poCross_fo s_poCross).add1 n_s_poLook s_poLook_v2_sh s_poLook_v2_fo s_poLook_v2)
theorem s_poLook_Eok : (s_poLook_E).OK := ((E0ok.add1 s_poCross_ok).add1 s_poLook_v2_ok)
noncomputable def s_poLook_told : Nat → Option SealT := fun id => if id = 7 then some (LSh.told s_poLook_L7_sh 1 (s_poLook_L7_step)) else if id = 3 then some (LSh.told s_poLook_L3_sh 1 (s_poLook_L3_step)) else none
theorem s_poLook_L7_ok : ToldOK Tryz.prog 1 (loopAt (bodyOf fn_s_poLook) [0, 0]) (LSh.told s_poLook_L7_sh 1 (s_poLook_L7_step)) :=
  loop_ok (E := s_poLook_E) (s_poLook_Eok) (told := s_poLook_told) (l := s_poLook_L7_sh) (step := s_poLook_L7_step) (loopsOK_of (ls := []) (by kernel_rfl) trivial) (by kernel_rfl) (fun v => by kernel_rfl)
theorem s_poLook_L3_ok : ToldOK Tryz.prog 1 (loopAt (bodyOf fn_s_poLook) [0]) (LSh.told s_poLook_L3_sh 1 (s_poLook_L3_step)) :=
  loop_ok (E := s_poLook_E) (s_poLook_Eok) (told := s_poLook_told) (l := s_poLook_L3_sh) (step := s_poLook_L3_step) (loopsOK_of (ls := [loopAt (bodyOf fn_s_poLook) [0, 0]]) (by kernel_rfl) ⟨.inr ⟨_, by kernel_rfl, s_poLook_L7_ok⟩, trivial⟩) (by kernel_rfl) (fun v => by kernel_rfl)
theorem s_poLook_ok : FOK Tryz.prog n_s_poLook s_poLook_sh s_poLook_fo s_poLook :=
  fn_ok (E := s_poLook_E) (s_poLook_Eok) (told := s_poLook_told) (fl := []) (c := bodyOf fn_s_poLook) (s := s_poLook_sh) (l := s_poLook_fo) (tree := s_poLook_t) fnat_s_poLook (by kernel_rfl) (by kernel_rfl) (by kernel_rfl) (loopsOK_of (ls := [loopAt (bodyOf fn_s_poLook) [0]]) (by kernel_rfl) ⟨.inr ⟨_, by kernel_rfl, s_poLook_L3_ok⟩, trivial⟩) (fun v => by kernel_rfl)

theorem s_poLook_free (n : Int) (all b : List Dg) (i t29 t30 : Int) (t28 : List Dg) (d : Dg) (out : List (List Dg)) (hb : b.length < 1000000) :
    s_poLook_L7 ((n, (all, (b, ((), (i, ((), (true, (t28, (t29, (t30, (b, ((b.length : Int), (0 : Int))))))))))))), ((), (out, d))) = some ((n, (all, (b, ((), (i, ((), (freeD d b, (t28, (t29, t30))))))))), ((), (out, d))) := by
  obtain ⟨d0, d1⟩ := d
  have key : ∀ m k (f : Bool), k + m = b.length → s_poLook_L7 ((n, (all, (b, ((), (i, ((), (f, (t28, (t29, (t30, (b, ((b.length : Int), (k : Int))))))))))))), ((), (out, (d0, d1)))) = some ((n, (all, (b, ((), (i, ((), ((f && !(b.drop k).any (crossD (d0, d1))), (t28, (t29, t30))))))))), ((), (out, (d0, d1)))) := by
    intro m
    induction m with
    | zero =>
      intro k f hk
      have : k = b.length := by omega
      subst this
      simp only [s_poLook_L7]
      exact loopO_done (by simp [s_poLook_L7_step, T.run])
    | succ m ih =>
      intro k f hk
      have hlt : k < b.length := by omega
      have c0 : (k : Int) < (b.length : Int) := by omega
      have c1 : (0 : Int) ≤ (k : Int) ∧ (k : Int) < (b.length : Int) := by omega
      have w1 : w64 ((k : Int) + 1) = ((k + 1 : Nat) : Int) := by rw [w64_id (by omega) (by omega)]; omega
      rw [drop_gD hlt, List.any_cons]
      have ih := ih (k + 1) (f && !crossD (d0, d1) (gD b k)) (by omega)
      simp only [s_poLook_L7] at ih ⊢
      have st : (s_poLook_L7_step ((n, (all, (b, ((), (i, ((), (f, (t28, (t29, (t30, (b, ((b.length : Int), (k : Int))))))))))))), ((), (out, (d0, d1))))).run =
          some (.inl ((n, (all, (b, ((), (i, ((), ((f && !crossD (d0, d1) (gD b k)), (t28, (t29, (t30, (b, ((b.length : Int), ((k + 1 : Nat) : Int))))))))))))), ((), (out, (d0, d1))))) := by
        cases f with
        | true => simp only [s_poLook_L7_step, T.run, c0, c1, decide_true, if_true, and_self, true_and, Int.toNat_natCast, gD_some hlt, Option.bind_some, s_poCross_eq, w1, Bool.true_and]
        | false => simp only [s_poLook_L7_step, T.run, c0, c1, decide_true, if_true, and_self, true_and, Int.toNat_natCast, gD_some hlt, Option.bind_some, w1, Bool.false_and, Bool.false_eq_true, if_false]
      rw [loopO_next st, ih]
      congr 2
      cases f <;> cases crossD (d0, d1) (gD b k) <;> simp
  have := key b.length 0 true (by omega)
  simpa [freeD] using this
theorem s_poLook_loop (n : Nat) (t b : List Dg) (hn : 3 ≤ n ∧ n ≤ 9) (ht : t.length ≤ 27) (hb : b.length < 50) :
    ∀ (m i : Nat) (out : List (List Dg)), i + m = t.length → out.length + 2 ^ m ≤ 1000000000 →
    s_poLook_L3 (((n : Int), (t, (b, ((), (t, ((t.length : Int), (i : Int))))))), ((), out)) = some ((), ((), out ++ goL (n - 3) (t.drop i) b))
  | 0, i, out, hi, ho => by
    have : i = t.length := by omega
    subst this
    rw [List.drop_length]
    simp only [s_poLook_L3, goL, List.append_nil]
    exact loopO_done (by simp [s_poLook_L3_step, T.run])
  | m + 1, i, out, hi, ho => by
    have hlt : i < t.length := by omega
    have c0 : (i : Int) < (t.length : Int) := by omega
    have c2 : (0 : Int) ≤ (i : Int) ∧ (i : Int) < (t.length : Int) := by omega
    have w1 : w64 ((i : Int) + 1) = ((i + 1 : Nat) : Int) := by rw [w64_id (by omega) (by omega)]; omega
    have hp : 2 ^ (m + 1) = 2 ^ m + 2 ^ m := by rw [Nat.pow_succ]; omega
    have hp0 : 1 ≤ 2 ^ m := Nat.one_le_two_pow
    have hm : m = t.length - (i + 1) := by omega
    have hfree := s_poLook_free (n : Int) t b (i : Int) (t.length : Int) (i : Int) t (gD t i) out (by omega)
    rw [drop_gD hlt, goL_cons]
    cases hf : freeD (gD t i) b with
    | false =>
      have ih := s_poLook_loop n t b hn ht hb m (i + 1) out (by omega) (by omega)
      rw [hf] at hfree
      simp only [Bool.false_eq_true, if_false, List.nil_append]
      simp only [s_poLook_L3] at ih ⊢
      rw [← ih]
      refine loopO_next ?_
      simp only [s_poLook_L3_step, T.run, c0, c2, decide_true, if_true, true_and, and_self, Int.toNat_natCast, gD_some hlt, Option.bind_some, hfree, Bool.false_eq_true, if_false, w1]
    | true =>
      have hll := look_pow (t := t) (b := b ++ [gD t i]) (i := i) (k := n - 3) hm
      have hrec : s_poLook_v2 (((n : Int), (t.drop (i + 1), (b ++ [gD t i], ()))), ((), out)) = some ((), ((), out ++ lookL (n - 3) (t.drop (i + 1)) (b ++ [gD t i]))) :=
        s_poLook_v2_eq n hn recLim (t.drop (i + 1)) (b ++ [gD t i]) out (by rw [List.length_drop]; omega) (by rw [List.length_drop]; unfold recLim; omega) (by rw [List.length_drop, List.length_append, List.length_cons, List.length_nil]; omega) (by rw [List.length_drop, ← hm]; omega)
      have ih := s_poLook_loop n t b hn ht hb m (i + 1) (out ++ lookL (n - 3) (t.drop (i + 1)) (b ++ [gD t i])) (by omega) (by rw [List.length_append]; omega)
      rw [hf] at hfree
      simp only [if_true]
      rw [← List.append_assoc]
      simp only [s_poLook_L3] at ih ⊢
      rw [← ih]
      refine loopO_next ?_
      have c1 : (0 : Int) ≤ ((i + 1 : Nat) : Int) := by omega
      have c3 : i + 1 ≤ t.length ∧ t.length ≤ t.length := by omega
      have c4 : 2 * ((0 + b.length) * 17) ≤ 140737488355328 := by omega
      have c5 : 2 * ((0 + b.length + 1) * 17) ≤ 140737488355328 := by omega
      have hw0 : win ([] : List Dg) 0 0 = [] := rfl
      have hw1 : win b 0 (0 + b.length) = b := by rw [Nat.zero_add]; exact win_all _
      have hl1 : (b ++ [gD t i]).length = 0 + b.length + 1 := by simp
      have hw2 : win (b ++ [gD t i]) 0 (0 + b.length + 1) = b ++ [gD t i] := by rw [← hl1]; exact win_all _
      have hw3 : win t (i + 1) (t.length - (i + 1)) = t.drop (i + 1) := by unfold win; rw [List.take_of_length_le (by rw [List.length_drop]; omega)]
      simp only [s_poLook_L3_step, T.run, c0, c1, c2, c3, c4, c5, decide_true, if_true, true_and, and_self, Int.toNat_natCast, gD_some hlt, Option.bind_some, hfree, w1, List.replicate_zero, hw0, List.nil_append, hw1, win_one, List.length_cons, List.length_nil, hw2, hw3, hrec, List.length_set, List.length_replicate, Nat.le_refl, List.length_append]
      simp
theorem s_poLook_eq (n : Nat) (hn : 3 ≤ n ∧ n ≤ 9) (t : List Dg) (ht : t.length ≤ 27) : s_poLook (((n : Int), (t, (([] : List Dg), ()))), ()) = some ((), ((), lookL (n - 3) t [])) := by
  have w0 : w64 ((n : Int) - 3) = ((n - 3 : Nat) : Int) := by rw [w64_id (by omega) (by omega)]; omega
  simp only [s_poLook, s_poLook_t, T.run, w0]
  by_cases hl : n = 3
  · subst hl
    have hw0 : win ([] : List Dg) 0 0 = [] := rfl
    have hone : win (List.set (List.replicate 1 ([] : List Dg)) 0 ([] : List Dg)) 0 1 = [[]] := rfl
    have hw9 : win ([[]] : List (List Dg)) 0 1 = [[]] := rfl
    simp [lookL, hw0, hw9]
  · have e : ((([] : List Dg).length : Int) == ((n - 3 : Nat) : Int)) = false := by simp; omega
    unfold lookL
    have hne : ¬ ([] : List Dg).length = n - 3 := by simp; omega
    rw [if_neg hne]
    have hp : 2 ^ t.length ≤ 2 ^ 27 := Nat.pow_le_pow_right (by omega) ht
    have h27 : (2 : Nat) ^ 27 = 134217728 := by decide
    have h3 := s_poLook_loop n t [] hn ht (by simp) t.length 0 [] (by omega) (by simp only [List.length_nil]; omega)
    rw [List.drop_zero, Int.natCast_zero, List.nil_append] at h3
    simp only [e, Bool.false_eq_true, if_false, decide_true, if_true, h3, Option.bind_some, true_and]


def s_poAll_sh : FSh := ⟨[(.one (.si .i64))], []⟩

def s_poAll_L6_sh : LSh := ⟨(fun ex => match ex with | .norm => [(0, none), (3, none), (4, none), (5, none)] | .exit i => if i = 2 then [(0, none), (3, none), (4, none)] else if i = 1 then [(0, none), (3, none), (4, none)] else if i = 0 then [(0, none), (3, none)] else [] | .ret => [(2, none)]), [(0, (.one (.si .i64))), (3, (.one (.rw 0 0))), (4, (.one (.si .i64))), (5, (.one (.si .i64)))], [(.row 0 (.pair (.int .i64) (.int .i64)))], [⟨(.exit 2), [(0, (.one (.si .i64))), (3, (.one (.rw 0 0))), (4, (.one (.si .i64)))], [(.row 0 (.pair (.int .i64) (.int .i64)))]⟩], [], []⟩
noncomputable def s_poAll_L6_step : ((Int × Unit × Int × Int) × List ((Int × Int))) → T (((Int × Unit × Int × Int) × List ((Int × Int))) ⊕ ((Int × Unit × Int) × List ((Int × Int)))) := fun ((n, (), a, b), all) =>
  (.test (decide (b < n))
  (.sub (s_poDiagonal (n, (a, b))) fun z0 =>
   (.test z0
   (.test (decide (1 ≤ (List.length (List.set (List.replicate 1 ((0 : Int), (0 : Int))) 0 (a, b)))))
    (.test (decide ((0 + (List.length all)) ≤ (List.length all)))
     (.test (decide ((2 * (((List.length all) + (List.length (win (List.set (List.replicate 1 ((0 : Int), (0 : Int))) 0 (a, b)) 0 1))) * 17)) ≤ 140737488355328))
      (.test (decide ((0 = 0) ∧ (((List.length all) + (List.length (win (List.set (List.replicate 1 ((0 : Int), (0 : Int))) 0 (a, b)) 0 1))) = (List.length ((win all 0 (List.length all)) ++ (win (List.set (List.replicate 1 ((0 : Int), (0 : Int))) 0 (a, b)) 0 1))))))
       (.ret (Sum.inl ((n, ((), (a, (w64 (b + 1))))), ((win all 0 (List.length all)) ++ (win (List.set (List.replicate 1 ((0 : Int), (0 : Int))) 0 (a, b)) 0 1)))))
       .fail)
      .fail)
     .fail)
    .fail)
   (.test (decide ((0 = 0) ∧ ((List.length all) = (List.length all))))
    (.ret (Sum.inl ((n, ((), (a, (w64 (b + 1))))), all)))
    .fail)))
  (.test (decide ((0 = 0) ∧ ((List.length all) = (List.length all))))
   (.ret (Sum.inr ((n, ((), a)), all)))
   .fail))
noncomputable def s_poAll_L6 (v : ((Int × Unit × Int × Int) × List ((Int × Int)))) : Option ((Int × Unit × Int) × List ((Int × Int))) := loopO (fun v => (s_poAll_L6_step v).run) v

def s_poAll_L3_sh : LSh := ⟨(fun ex => match ex with | .norm => [(0, none), (3, none), (4, none)] | .exit i => if i = 0 then [(0, none), (3, none)] else [] | .ret => [(2, none)]), [(0, (.one (.si .i64))), (3, (.one (.rw 0 0))), (4, (.one (.si .i64)))], [(.row 0 (.pair (.int .i64) (.int .i64)))], [⟨(.exit 0), [(0, (.one (.si .i64))), (3, (.one (.rw 0 0)))], [(.row 0 (.pair (.int .i64) (.int .i64)))]⟩], [], []⟩
noncomputable def s_poAll_L3_step : ((Int × Unit × Int) × List ((Int × Int))) → T (((Int × Unit × Int) × List ((Int × Int))) ⊕ ((Int × Unit) × List ((Int × Int)))) := fun ((n, (), a), all) =>
  (.test (decide (a < n))
  (.test (decide ((0 = 0) ∧ ((List.length all) = (List.length all))))
   (.sub (s_poAll_L6 ((n, ((), (a, (w64 (a + 2))))), all)) fun z0 =>
    (.test (decide ((0 = 0) ∧ ((List.length z0.2) = (List.length z0.2))))
    (.ret (Sum.inl ((z0.1.1, ((), (w64 (z0.1.2.2 + 1)))), z0.2)))
    .fail))
   .fail)
  (.test (decide ((0 = 0) ∧ ((List.length all) = (List.length all))))
   (.ret (Sum.inr ((n, ()), all)))
   .fail))
noncomputable def s_poAll_L3 (v : ((Int × Unit × Int) × List ((Int × Int)))) : Option ((Int × Unit) × List ((Int × Int))) := loopO (fun v => (s_poAll_L3_step v).run) v

def s_poAll_fo : List FO := [⟨[(.one (.rw 0 0))], [(.row 0 (.list true (.pair (.int .i64) (.int .i64))))]⟩]
noncomputable def s_poAll_t : Int → T (Unit × List (List ((Int × Int)))) := fun n =>
  (.test true
  (.sub (s_poAll_L3 ((n, ((), (0 : Int))), ([] : List (Int × Int)))) fun z0 =>
   (.test (decide ((0 + (List.length z0.2)) ≤ (List.length z0.2)))
   (.sub (s_poLook ((z0.1.1, ((win z0.2 0 (List.length z0.2)), (([] : List (Int × Int)), ()))), ())) fun z1 =>
    (.test (decide ((0 = 0) ∧ ((List.length z1.2.2) = (List.length z1.2.2))))
    (.ret ((), z1.2.2))
    .fail))
   .fail))
  .fail)
noncomputable def s_poAll (v : Int) : Option (Unit × List (List ((Int × Int)))) := (s_poAll_t v).run
noncomputable def s_poAll_E : TEnv := ((E0.add1 n_s_poDiagonal s_poDiagonal_sh s_poDiagonal_fo s_poDiagonal).add1 n_s_poLook s_poLook_sh s_poLook_fo s_poLook)
theorem s_poAll_Eok : (s_poAll_E).OK := ((E0ok.add1 s_poDiagonal_ok).add1 s_poLook_ok)
noncomputable def s_poAll_told : Nat → Option SealT := fun id => if id = 6 then some (LSh.told s_poAll_L6_sh 0 (s_poAll_L6_step)) else if id = 3 then some (LSh.told s_poAll_L3_sh 0 (s_poAll_L3_step)) else none
theorem s_poAll_L6_ok : ToldOK Tryz.prog 0 (loopAt (bodyOf fn_s_poAll) [0, 0]) (LSh.told s_poAll_L6_sh 0 (s_poAll_L6_step)) :=
  loop_ok (E := s_poAll_E) (s_poAll_Eok) (told := s_poAll_told) (l := s_poAll_L6_sh) (step := s_poAll_L6_step) (loopsOK_of (ls := []) (by kernel_rfl) trivial) (by kernel_rfl) (fun v => by kernel_rfl)
theorem s_poAll_L3_ok : ToldOK Tryz.prog 0 (loopAt (bodyOf fn_s_poAll) [0]) (LSh.told s_poAll_L3_sh 0 (s_poAll_L3_step)) :=
  loop_ok (E := s_poAll_E) (s_poAll_Eok) (told := s_poAll_told) (l := s_poAll_L3_sh) (step := s_poAll_L3_step) (loopsOK_of (ls := [loopAt (bodyOf fn_s_poAll) [0, 0]]) (by kernel_rfl) ⟨.inr ⟨_, by kernel_rfl, s_poAll_L6_ok⟩, trivial⟩) (by kernel_rfl) (fun v => by kernel_rfl)
theorem s_poAll_ok : FOK Tryz.prog n_s_poAll s_poAll_sh s_poAll_fo s_poAll :=
  fn_ok (E := s_poAll_E) (s_poAll_Eok) (told := s_poAll_told) (fl := []) (c := bodyOf fn_s_poAll) (s := s_poAll_sh) (l := s_poAll_fo) (tree := s_poAll_t) fnat_s_poAll (by kernel_rfl) (by kernel_rfl) (by kernel_rfl) (loopsOK_of (ls := [loopAt (bodyOf fn_s_poAll) [0]]) (by kernel_rfl) ⟨.inr ⟨_, by kernel_rfl, s_poAll_L3_ok⟩, trivial⟩) (fun v => by kernel_rfl)

theorem s_poAll_row (n a : Nat) (hn : 3 ≤ n ∧ n ≤ 9) : ∀ (m b : Nat) (out : List Dg), b + m = n → out.length + m ≤ 1000000 →
    s_poAll_L6 (((n : Int), ((), ((a : Int), (b : Int)))), out) = some (((n : Int), ((), (a : Int))), out ++ rowD n a b)
  | 0, b, out, hb, ho => by
    have : b = n := by omega
    subst this
    rw [rowD_end, List.append_nil]
    simp only [s_poAll_L6]
    exact loopO_done (by simp [s_poAll_L6_step, T.run])
  | m + 1, b, out, hb, ho => by
    have c0 : (b : Int) < (n : Int) := by omega
    have w1 : w64 ((b : Int) + 1) = ((b + 1 : Nat) : Int) := by rw [w64_id (by omega) (by omega)]; omega
    have c1 : 2 * ((out.length + 1) * 17) ≤ 140737488355328 := by omega
    have hd := s_poDiagonal_eq (n : Int) ((a : Int), (b : Int)) (by omega) (by omega)
    rw [rowD_step (by omega : b < n)]
    cases hg : inDg n ((a : Int), (b : Int)) with
    | true =>
      have ih := s_poAll_row n a hn m (b + 1) (out ++ [((a : Int), (b : Int))]) (by omega) (by simp; omega)
      simp only [s_poAll_L6] at ih ⊢
      rw [hg] at hd
      have st : (s_poAll_L6_step (((n : Int), ((), ((a : Int), (b : Int)))), out)).run = some (.inl (((n : Int), ((), ((a : Int), ((b + 1 : Nat) : Int)))), out ++ [((a : Int), (b : Int))])) := by
        simp only [s_poAll_L6_step, T.run, c0, hd, decide_true, if_true, Option.bind_some, win_one, win_all, List.length_cons, List.length_nil, Nat.zero_add, c1, w1, List.length_set, List.length_replicate, Nat.le_refl, List.length_append, true_and]
      rw [loopO_next st, ih]
      simp
    | false =>
      have ih := s_poAll_row n a hn m (b + 1) out (by omega) (by omega)
      simp only [s_poAll_L6] at ih ⊢
      rw [hg] at hd
      have st : (s_poAll_L6_step (((n : Int), ((), ((a : Int), (b : Int)))), out)).run = some (.inl (((n : Int), ((), ((a : Int), ((b + 1 : Nat) : Int)))), out)) := by
        simp only [s_poAll_L6_step, T.run, c0, hd, decide_true, if_true, Option.bind_some, Bool.false_eq_true, if_false, w1, true_and]
      rw [loopO_next st, ih]
      simp
theorem s_poAll_rows (n : Nat) (hn : 3 ≤ n ∧ n ≤ 9) : ∀ (m a : Nat) (out : List Dg), a + m = n → out.length ≤ 1000 * a →
    s_poAll_L3 (((n : Int), ((), (a : Int))), out) = some (((n : Int), ()), out ++ rowsD n a)
  | 0, a, out, ha, ho => by
    have : a = n := by omega
    subst this
    rw [rowsD_end, List.append_nil]
    simp only [s_poAll_L3]
    exact loopO_done (by simp [s_poAll_L3_step, T.run])
  | m + 1, a, out, ha, ho => by
    have c0 : (a : Int) < (n : Int) := by omega
    have w1 : w64 ((a : Int) + 1) = ((a + 1 : Nat) : Int) := by rw [w64_id (by omega) (by omega)]; omega
    have w2 : w64 ((a : Int) + 2) = ((a + 2 : Nat) : Int) := by rw [w64_id (by omega) (by omega)]; omega
    have hr : s_poAll_L6 (((n : Int), ((), ((a : Int), ((a + 2 : Nat) : Int)))), out) = some (((n : Int), ((), (a : Int))), out ++ rowD n a 0) := by
      by_cases h : a + 2 ≤ n
      · have hr := s_poAll_row n a hn (n - (a + 2)) (a + 2) out (by omega) (by omega)
        rwa [← rowD_front n a (a + 2) (by omega)] at hr
      · rw [rowD_front n a (a + 1) (by omega), show a + 1 = n by omega, rowD_end, List.append_nil]
        simp only [s_poAll_L6]
        have : ¬ (((a + 2 : Nat) : Int) < (n : Int)) := by omega
        exact loopO_done (by simp only [s_poAll_L6_step, T.run, this]; simp)
    have hl := rowD_len n a 0
    have ih := s_poAll_rows n hn m (a + 1) (out ++ rowD n a 0) (by omega) (by rw [List.length_append]; omega)
    rw [rowsD_step (by omega : a < n), ← List.append_assoc]
    simp only [s_poAll_L3] at ih ⊢
    rw [← ih]
    refine loopO_next ?_
    simp only [s_poAll_L3_step, T.run, c0, decide_true, if_true, true_and, w1, w2, hr, Option.bind_some]
theorem s_poAll_eq (n : Nat) (hn : 3 ≤ n ∧ n ≤ 9) : s_poAll (n : Int) = some ((), allT n) := by
  have h := s_poAll_rows n hn n 0 [] (by omega) (by simp)
  have e : rowsD n 0 = dgL n := by unfold rowsD; rw [List.drop_zero, dgL_rows]
  rw [e, List.nil_append, Int.natCast_zero] at h
  simp only [s_poAll, s_poAll_t, T.run, decide_true, if_true, h, Option.bind_some, Nat.zero_add, Nat.le_refl, win_all, s_poLook_eq n hn (dgL n) (dgL_len n hn.2)]
  rfl


def s_poQuiddity_sh : FSh := ⟨[(.one (.si .i64)), (.one (.sl (.pair (.int .i64) (.int .i64)) false false))], []⟩

def s_poQuiddity_L3_sh : LSh := ⟨(fun ex => match ex with | .norm => [(1, none), (5, none), (12, none), (13, none)] | .exit i => if i = 0 then [(1, none), (5, none)] else [] | .ret => [(4, none)]), [(1, (.one (.sl (.pair (.int .i64) (.int .i64)) false false))), (5, (.one (.rw 0 0))), (12, (.one (.si .i64))), (13, (.one (.si .i64)))], [(.row 0 (.int .i64))], [⟨(.exit 0), [(1, (.one (.sl (.pair (.int .i64) (.int .i64)) false false))), (5, (.one (.rw 0 0)))], [(.row 0 (.int .i64))]⟩], [], []⟩
noncomputable def s_poQuiddity_L3_step : ((List ((Int × Int)) × Unit × Int × Int) × List (Int)) → T (((List ((Int × Int)) × Unit × Int × Int) × List (Int)) ⊕ ((List ((Int × Int)) × Unit) × List (Int))) := fun ((ds, (), t12, t13), out) =>
  (.test (decide (t13 < t12))
  (.test (decide ((0 ≤ t13) ∧ (t13 < ((List.length out) : Int))))
   (.sub (out[(0 + (Int.toNat t13))]?) fun z0 =>
    (.test (decide ((0 = 0) ∧ ((List.length out) = (List.length (List.set out (0 + (Int.toNat t13)) (1 : Int))))))
    (.ret (Sum.inl ((ds, ((), (t12, (w64 (t13 + 1))))), (List.set out (0 + (Int.toNat t13)) (1 : Int)))))
    .fail))
   .fail)
  (.test (decide ((0 = 0) ∧ ((List.length out) = (List.length out))))
   (.ret (Sum.inr ((ds, ()), out)))
   .fail))
noncomputable def s_poQuiddity_L3 (v : ((List ((Int × Int)) × Unit × Int × Int) × List (Int))) : Option ((List ((Int × Int)) × Unit) × List (Int)) := loopO (fun v => (s_poQuiddity_L3_step v).run) v

def s_poQuiddity_L8_sh : LSh := ⟨(fun ex => match ex with | .norm => [(5, none), (20, none), (21, none), (22, none)] | .exit i => if i = 2 then [(5, none)] else [] | .ret => [(4, none)]), [(5, (.one (.rw 0 0))), (20, (.one (.sl (.pair (.int .i64) (.int .i64)) false false))), (21, (.one (.si .i64))), (22, (.one (.si .i64)))], [(.row 0 (.int .i64))], [⟨(.exit 2), [(5, (.one (.rw 0 0)))], [(.row 0 (.int .i64))]⟩], [], []⟩
noncomputable def s_poQuiddity_L8_step : ((Unit × List ((Int × Int)) × Int × Int) × List (Int)) → T (((Unit × List ((Int × Int)) × Int × Int) × List (Int)) ⊕ (Unit × List (Int))) := fun (((), t20, t21, t22), out) =>
  (.test (decide (t22 < t21))
  (.test (decide ((0 ≤ t22) ∧ (t22 < ((List.length t20) : Int))))
   (.sub (t20[(Int.toNat t22)]?) fun z0 =>
    (.test (decide ((0 ≤ z0.1) ∧ (z0.1 < ((List.length out) : Int))))
    (.sub (out[(0 + (Int.toNat z0.1))]?) fun z1 =>
     (.test (decide ((0 ≤ z0.1) ∧ (z0.1 < ((List.length out) : Int))))
     (.sub (out[(0 + (Int.toNat z0.1))]?) fun z2 =>
      (.test (decide ((0 ≤ z0.2) ∧ (z0.2 < ((List.length out) : Int))))
      (.sub ((List.set out (0 + (Int.toNat z0.1)) (w64 (z1 + 1)))[(0 + (Int.toNat z0.2))]?) fun z3 =>
       (.test (decide ((0 ≤ z0.2) ∧ (z0.2 < ((List.length out) : Int))))
       (.sub ((List.set out (0 + (Int.toNat z0.1)) (w64 (z1 + 1)))[(0 + (Int.toNat z0.2))]?) fun z4 =>
        (.test (decide ((0 = 0) ∧ ((List.length out) = (List.length (List.set (List.set out (0 + (Int.toNat z0.1)) (w64 (z1 + 1))) (0 + (Int.toNat z0.2)) (w64 (z3 + 1)))))))
        (.ret (Sum.inl (((), (t20, (t21, (w64 (t22 + 1))))), (List.set (List.set out (0 + (Int.toNat z0.1)) (w64 (z1 + 1))) (0 + (Int.toNat z0.2)) (w64 (z3 + 1))))))
        .fail))
       .fail))
      .fail))
     .fail))
    .fail))
   .fail)
  (.test (decide ((0 = 0) ∧ ((List.length out) = (List.length out))))
   (.ret (Sum.inr ((), out)))
   .fail))
noncomputable def s_poQuiddity_L8 (v : ((Unit × List ((Int × Int)) × Int × Int) × List (Int))) : Option (Unit × List (Int)) := loopO (fun v => (s_poQuiddity_L8_step v).run) v

def s_poQuiddity_fo : List FO := [⟨[(.one (.rw 0 0))], [(.row 0 (.int .i64))]⟩]
noncomputable def s_poQuiddity_t : (Int × List ((Int × Int))) → T (Unit × List (Int)) := fun (n, ds) =>
  (.test (decide ((0 ≤ n) ∧ ((n ≤ n) ∧ (((Int.toNat n) * 9) ≤ 140737488355328))))
  (.test (decide ((0 = 0) ∧ ((Int.toNat n) = (List.length (List.replicate (Int.toNat n) (0 : Int))))))
   (.sub (s_poQuiddity_L3 ((ds, ((), (((Int.toNat n) : Int), (0 : Int)))), (List.replicate (Int.toNat n) (0 : Int)))) fun z0 =>
    (.test (decide ((0 = 0) ∧ ((List.length z0.2) = (List.length z0.2))))
    (.sub (s_poQuiddity_L8 (((), (z0.1.1, (((List.length z0.1.1) : Int), (0 : Int)))), z0.2)) fun z1 =>
     (.test (decide ((0 = 0) ∧ ((List.length z1.2) = (List.length z1.2))))
     (.ret ((), z1.2))
     .fail))
    .fail))
   .fail)
  .fail)
noncomputable def s_poQuiddity (v : (Int × List ((Int × Int)))) : Option (Unit × List (Int)) := (s_poQuiddity_t v).run
noncomputable def s_poQuiddity_E : TEnv := E0
theorem s_poQuiddity_Eok : (s_poQuiddity_E).OK := E0ok
noncomputable def s_poQuiddity_told : Nat → Option SealT := fun id => if id = 3 then some (LSh.told s_poQuiddity_L3_sh 0 (s_poQuiddity_L3_step)) else if id = 8 then some (LSh.told s_poQuiddity_L8_sh 0 (s_poQuiddity_L8_step)) else none
theorem s_poQuiddity_L3_ok : ToldOK Tryz.prog 0 (loopAt (bodyOf fn_s_poQuiddity) [0]) (LSh.told s_poQuiddity_L3_sh 0 (s_poQuiddity_L3_step)) :=
  loop_ok (E := s_poQuiddity_E) (s_poQuiddity_Eok) (told := s_poQuiddity_told) (l := s_poQuiddity_L3_sh) (step := s_poQuiddity_L3_step) (loopsOK_of (ls := []) (by kernel_rfl) trivial) (by kernel_rfl) (fun v => by kernel_rfl)
theorem s_poQuiddity_L8_ok : ToldOK Tryz.prog 0 (loopAt (bodyOf fn_s_poQuiddity) [1]) (LSh.told s_poQuiddity_L8_sh 0 (s_poQuiddity_L8_step)) :=
  loop_ok (E := s_poQuiddity_E) (s_poQuiddity_Eok) (told := s_poQuiddity_told) (l := s_poQuiddity_L8_sh) (step := s_poQuiddity_L8_step) (loopsOK_of (ls := []) (by kernel_rfl) trivial) (by kernel_rfl) (fun v => by kernel_rfl)
theorem s_poQuiddity_ok : FOK Tryz.prog n_s_poQuiddity s_poQuiddity_sh s_poQuiddity_fo s_poQuiddity :=
  fn_ok (E := s_poQuiddity_E) (s_poQuiddity_Eok) (told := s_poQuiddity_told) (fl := []) (c := bodyOf fn_s_poQuiddity) (s := s_poQuiddity_sh) (l := s_poQuiddity_fo) (tree := s_poQuiddity_t) fnat_s_poQuiddity (by kernel_rfl) (by kernel_rfl) (by kernel_rfl) (loopsOK_of (ls := [loopAt (bodyOf fn_s_poQuiddity) [0], loopAt (bodyOf fn_s_poQuiddity) [1]]) (by kernel_rfl) ⟨.inr ⟨_, by kernel_rfl, s_poQuiddity_L3_ok⟩, ⟨.inr ⟨_, by kernel_rfl, s_poQuiddity_L8_ok⟩, trivial⟩⟩) (fun v => by kernel_rfl)

theorem s_poQuiddity_eq (n : Nat) (ds : List Dg) (hn : 1 ≤ n ∧ n ≤ 1000000) (hl : ds.length < 1000000) (h : ∀ d ∈ ds, 0 ≤ d.1 ∧ d.1 < d.2 ∧ d.2 < (n : Int)) : s_poQuiddity ((n : Int), ds) = some ((), quid n ds) := by
  have hones : ∀ m k, k + m = n → s_poQuiddity_L3 ((ds, ((), ((n : Int), (k : Int)))), List.replicate k 1 ++ List.replicate (n - k) 0) = some ((ds, ()), List.replicate n 1) := by
    intro m
    induction m with
    | zero =>
      intro k hk
      have : k = n := by omega
      subst this
      rw [Nat.sub_self, List.replicate_zero, List.append_nil]
      simp only [s_poQuiddity_L3]
      exact loopO_done (by simp [s_poQuiddity_L3_step, T.run])
    | succ m ih =>
      intro k hk
      have ih := ih (k + 1) (by omega)
      simp only [s_poQuiddity_L3] at ih ⊢
      rw [← ih]
      refine loopO_next ?_
      have hlen : (List.replicate k (1 : Int) ++ List.replicate (n - k) 0).length = n := by simp; omega
      have c0 : (k : Int) < (n : Int) := by omega
      have c1 : (0 : Int) ≤ (k : Int) ∧ (k : Int) < (n : Int) := by omega
      have w1 : w64 ((k : Int) + 1) = ((k + 1 : Nat) : Int) := by rw [w64_id (by omega) (by omega)]; omega
      have hs : (List.replicate k (1 : Int) ++ List.replicate (n - k) 0).set k 1 = List.replicate (k + 1) 1 ++ List.replicate (n - (k + 1)) 0 := by
        rw [List.set_append_right _ _ (by simp), List.length_replicate, Nat.sub_self, show n - k = (n - (k + 1)) + 1 by omega, List.replicate_succ, List.set_cons_zero, List.replicate_succ', List.append_assoc]
        rfl
      have g0 : ∃ x, (List.replicate k (1 : Int) ++ List.replicate (n - k) 0)[k]? = some x := ⟨_, List.getElem?_eq_getElem (by rw [hlen]; omega)⟩
      obtain ⟨x, g0⟩ := g0
      simp only [s_poQuiddity_L3_step, T.run, hlen, c0, c1, decide_true, if_true, and_self, Int.toNat_natCast, Nat.zero_add, g0, Option.bind_some, hs, w1, List.length_set, true_and]
      have hlen2 : n = (List.replicate (k + 1) (1 : Int) ++ List.replicate (n - (k + 1)) 0).length := by simp; omega
      rw [← hlen2]
      simp
  have hl' := loop_fold (step := fun v => (s_poQuiddity_L8_step v).run) (xs := ds) (fun k (s : List Int) => s.length = n ∧ ∀ p, p < n → 0 ≤ s.getD p 0 ∧ s.getD p 0 ≤ k + 1) (fun k s => (((), (ds, ((ds.length : Int), (k : Int)))), s)) bumpD (fun s => ((), s))
    (fun k s d hP hd => by
      obtain ⟨hs, hb⟩ := hP
      have hlt := getElem?_lt hd
      obtain ⟨q1, q2, q3⟩ := h d (List.mem_of_getElem? hd)
      refine ⟨?_, by rw [bumpD_length, hs], fun p hp => ?_⟩
      · have c0 : (k : Int) < (ds.length : Int) := by omega
        have c1 : (0 : Int) ≤ (k : Int) ∧ (k : Int) < (ds.length : Int) := by omega
        have w1 : w64 ((k : Int) + 1) = ((k + 1 : Nat) : Int) := by rw [w64_id (by omega) (by omega)]; omega
        have c2 : 0 ≤ d.1 ∧ d.1 < (s.length : Int) := by omega
        have c3 : 0 ≤ d.2 ∧ d.2 < (s.length : Int) := by omega
        have b1 := hb d.1.toNat (by omega)
        have b2 := hb d.2.toNat (by omega)
        have g1 : s[d.1.toNat]? = some (s.getD d.1.toNat 0) := by rw [List.getD_eq_getElem?_getD, List.getElem?_eq_getElem (by omega)]; rfl
        have g2 : s[d.2.toNat]? = some (s.getD d.2.toNat 0) := by rw [List.getD_eq_getElem?_getD, List.getElem?_eq_getElem (by omega)]; rfl
        have w2 : w64 (s.getD d.1.toNat 0 + 1) = s.getD d.1.toNat 0 + 1 := w64_id (by omega) (by omega)
        have w3 : w64 (s.getD d.2.toNat 0 + 1) = s.getD d.2.toNat 0 + 1 := w64_id (by omega) (by omega)
        have g3 : (s.set d.1.toNat (s.getD d.1.toNat 0 + 1))[d.2.toNat]? = some (s.getD d.2.toNat 0) := by rw [List.getElem?_set_ne (by omega)]; exact g2
        simp only [s_poQuiddity_L8_step, T.run, c0, c1, c2, c3, decide_true, if_true, and_self, Int.toNat_natCast, hd, Option.bind_some, Nat.zero_add, g1, w2, g3, w3, w1]
        simp [bumpD]
      · rw [bumpD_get q1 q2 (by omega) (by omega)]
        have := hb p hp
        have : 0 ≤ cntD d p ∧ cntD d p ≤ 1 := by unfold cntD; split <;> split <;> omega
        omega)
    (fun s hs => by simp [s_poQuiddity_L8_step, T.run])
    (List.replicate n 1) ⟨by simp, fun p hp => by rw [List.getD_eq_getElem?_getD, List.getElem?_replicate, if_pos hp]; simp⟩
  have hq : ds.foldl bumpD (List.replicate n 1) = quid n ds := by
    obtain ⟨f1, f2⟩ := bump_fold n ds (List.replicate n 1) (by simp) h
    refine List.ext_getElem (by rw [f1]; simp [quid]) fun p hp _ => ?_
    have := f2 p (by omega)
    rw [List.getD_eq_getElem?_getD, List.getElem?_eq_getElem hp, List.getD_eq_getElem?_getD, List.getElem?_replicate, if_pos (by omega)] at this
    simp only [Option.getD_some] at this
    rw [this]
    simp [quid]
  have h0 := hones n 0 (by omega)
  rw [List.replicate_zero, List.nil_append, Nat.sub_zero] at h0
  simp only [Int.natCast_zero] at hl' h0
  have c0 : (0 : Int) ≤ (n : Int) ∧ (n : Int) ≤ (n : Int) ∧ n * 9 ≤ 140737488355328 := by omega
  simp only [s_poQuiddity, s_poQuiddity_t, T.run, Int.toNat_natCast, c0, and_self, decide_true, if_true, List.length_replicate, true_and, h0, Option.bind_some, s_poQuiddity_L8]
  rw [hl'.1, hq]
  simp


def s_caListBefore_sh : FSh := ⟨[(.one (.sl (.int .i64) false false)), (.one (.sl (.int .i64) false false))], []⟩

def s_caListBefore_L2_sh : LSh := ⟨(fun ex => match ex with | .norm => [(0, none), (1, none), (7, none), (8, none)] | .exit i => if i = 0 then [] else [] | .ret => [(4, none)]), [(0, (.one (.sl (.int .i64) false false))), (1, (.one (.sl (.int .i64) false false))), (7, (.one (.si .i64))), (8, (.one (.si .i64)))], [], [⟨.ret, [(4, (.one .sb))], []⟩, ⟨(.exit 0), [], []⟩], [], []⟩
noncomputable def s_caListBefore_L2_step : (List (Int) × List (Int) × Int × Int) → T ((List (Int) × List (Int) × Int × Int) ⊕ (Bool ⊕ Unit)) := fun (a, b, t7, t8) =>
  (.test (decide (t8 < t7))
  (.test (decide ((0 ≤ t8) ∧ (t8 < ((List.length a) : Int))))
   (.sub (a[(Int.toNat t8)]?) fun z0 =>
    (.test (decide ((0 ≤ t8) ∧ (t8 < ((List.length b) : Int))))
    (.sub (b[(Int.toNat t8)]?) fun z1 =>
     (.test (z0 != z1)
     (.test (decide ((0 ≤ t8) ∧ (t8 < ((List.length a) : Int))))
      (.sub (a[(Int.toNat t8)]?) fun z2 =>
       (.test (decide ((0 ≤ t8) ∧ (t8 < ((List.length b) : Int))))
       (.sub (b[(Int.toNat t8)]?) fun z3 =>
        (.ret (Sum.inr (Sum.inl (decide (z2 < z3))))))
       .fail))
      .fail)
     (.ret (Sum.inl (a, (b, (t7, (w64 (t8 + 1)))))))))
    .fail))
   .fail)
  (.ret (Sum.inr (Sum.inr ()))))
noncomputable def s_caListBefore_L2 (v : (List (Int) × List (Int) × Int × Int)) : Option (Bool ⊕ Unit) := loopO (fun v => (s_caListBefore_L2_step v).run) v

def s_caListBefore_fo : List FO := [⟨[(.one .sb)], []⟩]
noncomputable def s_caListBefore_t : (List (Int) × List (Int)) → T Bool := fun (a, b) =>
  (.sub (s_caListBefore_L2 (a, (b, (((List.length a) : Int), (0 : Int))))) fun z0 =>
  (.test (Sum.isLeft z0)
  (.sub (Sum.getLeft? z0) fun z1 =>
   (.ret z1))
  (.sub (Sum.getRight? z0) fun z2 =>
   (.ret false))))
noncomputable def s_caListBefore (v : (List (Int) × List (Int))) : Option Bool := (s_caListBefore_t v).run
noncomputable def s_caListBefore_E : TEnv := E0
theorem s_caListBefore_Eok : (s_caListBefore_E).OK := E0ok
noncomputable def s_caListBefore_told : Nat → Option SealT := fun id => if id = 2 then some (LSh.told s_caListBefore_L2_sh 0 (s_caListBefore_L2_step)) else none
theorem s_caListBefore_L2_ok : ToldOK Tryz.prog 0 (loopAt (bodyOf fn_s_caListBefore) [0]) (LSh.told s_caListBefore_L2_sh 0 (s_caListBefore_L2_step)) :=
  loop_ok (E := s_caListBefore_E) (s_caListBefore_Eok) (told := s_caListBefore_told) (l := s_caListBefore_L2_sh) (step := s_caListBefore_L2_step) (loopsOK_of (ls := []) (by kernel_rfl) trivial) (by kernel_rfl) (fun v => by kernel_rfl)
theorem s_caListBefore_ok : FOK Tryz.prog n_s_caListBefore s_caListBefore_sh s_caListBefore_fo s_caListBefore :=
  fn_ok (E := s_caListBefore_E) (s_caListBefore_Eok) (told := s_caListBefore_told) (fl := []) (c := bodyOf fn_s_caListBefore) (s := s_caListBefore_sh) (l := s_caListBefore_fo) (tree := s_caListBefore_t) fnat_s_caListBefore (by kernel_rfl) (by kernel_rfl) (by kernel_rfl) (loopsOK_of (ls := [loopAt (bodyOf fn_s_caListBefore) [0]]) (by kernel_rfl) ⟨.inr ⟨_, by kernel_rfl, s_caListBefore_L2_ok⟩, trivial⟩) (fun v => by kernel_rfl)

theorem s_caListBefore_eq (a b : List Int) (h : a.length = b.length) (hl : a.length < 1000000) : s_caListBefore (a, b) = some (ltL a b) := by
  have key : ∀ m k, k + m = a.length → s_caListBefore_L2 (a, (b, ((a.length : Int), (k : Int)))) = some (if ltL (a.drop k) (b.drop k) then .inl true else match (List.range a.length).drop k |>.find? (fun p => a.getD p 0 != b.getD p 0) with | some _ => .inl false | none => .inr ()) := by
    intro m
    induction m with
    | zero =>
      intro k hk
      have : k = a.length := by omega
      subst this
      rw [List.drop_length, h, List.drop_length]
      simp only [s_caListBefore_L2]
      refine loopO_done ?_
      rw [List.drop_of_length_le (by simp)]
      simp [s_caListBefore_L2_step, T.run, ltL]
    | succ m ih =>
      intro k hk
      have hlt : k < a.length := by omega
      have ih := ih (k + 1) (by omega)
      have c0 : (k : Int) < (a.length : Int) := by omega
      have c1 : (0 : Int) ≤ (k : Int) ∧ (k : Int) < (a.length : Int) := by omega
      have c2 : (0 : Int) ≤ (k : Int) ∧ (k : Int) < (b.length : Int) := by omega
      have w1 : w64 ((k : Int) + 1) = ((k + 1 : Nat) : Int) := by rw [w64_id (by omega) (by omega)]; omega
      have g1 := set_getD hlt
      have g2 := set_getD (show k < b.length by omega)
      have hd := ltL_drop h hlt
      rw [List.drop_eq_getElem_cons (l := List.range a.length) (i := k) (by simpa using hlt), List.find?_cons, List.getElem_range]
      simp only [s_caListBefore_L2] at ih ⊢
      by_cases he : a.getD k 0 = b.getD k 0
      · have e2 : (a.getD k 0 != b.getD k 0) = false := by simp only [he]; simp
        rw [if_neg (fun hne => hne he)] at hd
        rw [hd, e2]
        simp only []
        rw [← ih]
        refine loopO_next ?_
        simp only [s_caListBefore_L2_step, T.run, c0, c1, c2, decide_true, if_true, and_self, Int.toNat_natCast, g1, g2, Option.bind_some, e2, Bool.false_eq_true, if_false, w1]
      · have e2 : (a.getD k 0 != b.getD k 0) = true := by rw [bne_iff_ne]; exact he
        rw [if_pos he] at hd
        rw [hd, e2]
        simp only []
        refine loopO_done ?_
        simp only [s_caListBefore_L2_step, T.run, c0, c1, c2, decide_true, if_true, and_self, Int.toNat_natCast, g1, g2, Option.bind_some, e2]
        by_cases hlt2 : a.getD k 0 < b.getD k 0 <;> simp only [hlt2, decide_true, decide_false, if_true, Bool.false_eq_true, if_false]
  have h0 := key a.length 0 (by omega)
  simp only [Int.natCast_zero, List.drop_zero] at h0
  simp only [s_caListBefore, s_caListBefore_t, T.run, h0, Option.bind_some]
  cases ltL a b with
  | true => simp
  | false =>
    simp only [Bool.false_eq_true, if_false]
    cases (List.range a.length).find? (fun p => a.getD p 0 != b.getD p 0) <;> simp


def s_caQuiddities_sh : FSh := ⟨[(.one (.si .i64))], []⟩

def s_caQuiddities_L7_sh : LSh := ⟨(fun ex => match ex with | .norm => [(0, none), (3, none), (6, none), (7, none), (10, none), (11, none), (12, none)] | .exit i => if i = 2 then [(0, none), (3, none), (6, none), (7, none), (10, none), (11, none), (12, none)] else if i = 1 then [(0, none), (3, none), (10, none), (11, none), (12, none)] else if i = 0 then [(3, none)] else [] | .ret => [(2, none)]), [(0, (.one (.si .i64))), (3, (.one (.rw 0 0))), (6, (.one (.rw 1 0))), (7, (.one (.si .i64))), (10, (.one (.rw 2 0))), (11, (.one (.si .i64))), (12, (.one (.si .i64)))], [(.row 0 (.list true (.int .i64))), (.row 0 (.int .i64)), (.row 0 (.list true (.pair (.int .i64) (.int .i64))))], [⟨(.exit 2), [(0, (.one (.si .i64))), (3, (.one (.rw 0 0))), (6, (.one (.rw 1 0))), (7, (.one (.si .i64))), (10, (.one (.rw 2 0))), (11, (.one (.si .i64))), (12, (.one (.si .i64)))], [(.row 0 (.list true (.int .i64))), (.row 0 (.int .i64)), (.row 0 (.list true (.pair (.int .i64) (.int .i64))))]⟩], [], []⟩
noncomputable def s_caQuiddities_L7_step : ((Int × Unit × Unit × Int × Unit × Int × Int) × (List (List (Int)) × List (Int) × List (List ((Int × Int))))) → T (((Int × Unit × Unit × Int × Unit × Int × Int) × (List (List (Int)) × List (Int) × List (List ((Int × Int))))) ⊕ ((Int × Unit × Unit × Int × Unit × Int × Int) × (List (List (Int)) × List (Int) × List (List ((Int × Int)))))) := fun ((n, (), (), k, (), t11, t12), (out, q, t10)) =>
  (.test (decide (k > 0))
  (.test (decide ((0 ≤ (w64 (k - 1))) ∧ ((w64 (k - 1)) < ((List.length out) : Int))))
   (.sub (out[(0 + (Int.toNat (w64 (k - 1))))]?) fun z0 =>
    (.test (decide ((0 + (List.length q)) ≤ (List.length q)))
    (.sub (s_caListBefore ((win q 0 (List.length q)), z0)) fun z1 =>
     (.test z1
     (.test (decide ((0 = 0) ∧ ((List.length out) = (List.length out))))
      (.test (decide ((0 = 0) ∧ ((List.length q) = (List.length q))))
       (.test (decide ((0 = 0) ∧ ((List.length t10) = (List.length t10))))
        (.ret (Sum.inl ((n, ((), ((), ((w64 (k - 1)), ((), (t11, t12)))))), (out, (q, t10)))))
        .fail)
       .fail)
      .fail)
     (.test (decide ((0 = 0) ∧ ((List.length out) = (List.length out))))
      (.test (decide ((0 = 0) ∧ ((List.length q) = (List.length q))))
       (.test (decide ((0 = 0) ∧ ((List.length t10) = (List.length t10))))
        (.ret (Sum.inr ((n, ((), ((), (k, ((), (t11, t12)))))), (out, (q, t10)))))
        .fail)
       .fail)
      .fail)))
    .fail))
   .fail)
  (.test (decide ((0 = 0) ∧ ((List.length out) = (List.length out))))
   (.test (decide ((0 = 0) ∧ ((List.length q) = (List.length q))))
    (.test (decide ((0 = 0) ∧ ((List.length t10) = (List.length t10))))
     (.ret (Sum.inr ((n, ((), ((), (k, ((), (t11, t12)))))), (out, (q, t10)))))
     .fail)
    .fail)
   .fail))
noncomputable def s_caQuiddities_L7 (v : ((Int × Unit × Unit × Int × Unit × Int × Int) × (List (List (Int)) × List (Int) × List (List ((Int × Int)))))) : Option ((Int × Unit × Unit × Int × Unit × Int × Int) × (List (List (Int)) × List (Int) × List (List ((Int × Int))))) := loopO (fun v => (s_caQuiddities_L7_step v).run) v

def s_caQuiddities_L3_sh : LSh := ⟨(fun ex => match ex with | .norm => [(0, none), (3, none), (10, none), (11, none), (12, none)] | .exit i => if i = 0 then [(3, none)] else [] | .ret => [(2, none)]), [(0, (.one (.si .i64))), (3, (.one (.rw 0 0))), (10, (.one (.rw 1 0))), (11, (.one (.si .i64))), (12, (.one (.si .i64)))], [(.row 0 (.list true (.int .i64))), (.row 0 (.list true (.pair (.int .i64) (.int .i64))))], [⟨(.exit 0), [(3, (.one (.rw 0 0)))], [(.row 0 (.list true (.int .i64)))]⟩], [], []⟩
noncomputable def s_caQuiddities_L3_step : ((Int × Unit × Unit × Int × Int) × (List (List (Int)) × List (List ((Int × Int))))) → T (((Int × Unit × Unit × Int × Int) × (List (List (Int)) × List (List ((Int × Int))))) ⊕ (Unit × List (List (Int)))) := fun ((n, (), (), t11, t12), (out, t10)) =>
  (.test (decide (t12 < t11))
  (.test (decide ((0 ≤ t12) ∧ (t12 < ((List.length t10) : Int))))
   (.sub (t10[(0 + (Int.toNat t12))]?) fun z0 =>
    (.sub (s_poQuiddity (n, z0)) fun z1 =>
    (.test (decide ((0 = 0) ∧ ((List.length out) = (List.length out))))
    (.test (decide ((0 = 0) ∧ ((List.length z1.2) = (List.length z1.2))))
     (.test (decide ((0 = 0) ∧ ((List.length t10) = (List.length t10))))
      (.sub (s_caQuiddities_L7 ((n, ((), ((), (((List.length out) : Int), ((), (t11, t12)))))), (out, (z1.2, t10)))) fun z2 =>
       (.test (decide (0 ≤ z2.1.2.2.2.1))
       (.test (decide ((0 ≤ (Int.toNat z2.1.2.2.2.1)) ∧ ((Int.toNat z2.1.2.2.2.1) ≤ (List.length z2.2.1))))
        (.test (decide ((0 + ((Int.toNat z2.1.2.2.2.1) - 0)) ≤ (List.length z2.2.1)))
         (.test true
          (.test (decide ((2 * ((0 + (List.length (win z2.2.1 0 ((Int.toNat z2.1.2.2.2.1) - 0)))) * 25)) ≤ 140737488355328))
           (.test (decide ((0 + (List.length z2.2.2.1)) ≤ (List.length z2.2.2.1)))
            (.test (decide (1 ≤ (List.length (List.set (List.replicate 1 ([] : List (Int))) 0 (win z2.2.2.1 0 (List.length z2.2.2.1))))))
             (.test (decide ((0 + (0 + (List.length (win z2.2.1 0 ((Int.toNat z2.1.2.2.2.1) - 0))))) ≤ (List.length ((win (List.replicate 0 ([] : List (Int))) 0 0) ++ (win z2.2.1 0 ((Int.toNat z2.1.2.2.2.1) - 0))))))
              (.test (decide ((2 * (((0 + (List.length (win z2.2.1 0 ((Int.toNat z2.1.2.2.2.1) - 0)))) + (List.length (win (List.set (List.replicate 1 ([] : List (Int))) 0 (win z2.2.2.1 0 (List.length z2.2.2.1))) 0 1))) * 25)) ≤ 140737488355328))
               (.test (decide (0 ≤ z2.1.2.2.2.1))
                (.test (decide (((Int.toNat z2.1.2.2.2.1) ≤ (List.length z2.2.1)) ∧ ((List.length z2.2.1) ≤ (List.length z2.2.1))))
                 (.test (decide (((0 + (Int.toNat z2.1.2.2.2.1)) + ((List.length z2.2.1) - (Int.toNat z2.1.2.2.2.1))) ≤ (List.length z2.2.1)))
                  (.test (decide ((0 + ((0 + (List.length (win z2.2.1 0 ((Int.toNat z2.1.2.2.2.1) - 0)))) + (List.length (win (List.set (List.replicate 1 ([] : List (Int))) 0 (win z2.2.2.1 0 (List.length z2.2.2.1))) 0 1)))) ≤ (List.length ((win ((win (List.replicate 0 ([] : List (Int))) 0 0) ++ (win z2.2.1 0 ((Int.toNat z2.1.2.2.2.1) - 0))) 0 (0 + (List.length (win z2.2.1 0 ((Int.toNat z2.1.2.2.2.1) - 0))))) ++ (win (List.set (List.replicate 1 ([] : List (Int))) 0 (win z2.2.2.1 0 (List.length z2.2.2.1))) 0 1)))))
                   (.test (decide ((2 * ((((0 + (List.length (win z2.2.1 0 ((Int.toNat z2.1.2.2.2.1) - 0)))) + (List.length (win (List.set (List.replicate 1 ([] : List (Int))) 0 (win z2.2.2.1 0 (List.length z2.2.2.1))) 0 1))) + (List.length (win z2.2.1 (0 + (Int.toNat z2.1.2.2.2.1)) ((List.length z2.2.1) - (Int.toNat z2.1.2.2.2.1))))) * 25)) ≤ 140737488355328))
                    (.test (decide ((0 = 0) ∧ ((((0 + (List.length (win z2.2.1 0 ((Int.toNat z2.1.2.2.2.1) - 0)))) + (List.length (win (List.set (List.replicate 1 ([] : List (Int))) 0 (win z2.2.2.1 0 (List.length z2.2.2.1))) 0 1))) + (List.length (win z2.2.1 (0 + (Int.toNat z2.1.2.2.2.1)) ((List.length z2.2.1) - (Int.toNat z2.1.2.2.2.1))))) = (List.length ((win ((win ((win (List.replicate 0 ([] : List (Int))) 0 0) ++ (win z2.2.1 0 ((Int.toNat z2.1.2.2.2.1) - 0))) 0 (0 + (List.length (win z2.2.1 0 ((Int.toNat z2.1.2.2.2.1) - 0))))) ++ (win (List.set (List.replicate 1 ([] : List (Int))) 0 (win z2.2.2.1 0 (List.length z2.2.2.1))) 0 1)) 0 ((0 + (List.length (win z2.2.1 0 ((Int.toNat z2.1.2.2.2.1) - 0)))) + (List.length (win (List.set (List.replicate 1 ([] : List (Int))) 0 (win z2.2.2.1 0 (List.length z2.2.2.1))) 0 1)))) ++ (win z2.2.1 (0 + (Int.toNat z2.1.2.2.2.1)) ((List.length z2.2.1) - (Int.toNat z2.1.2.2.2.1))))))))
                     (.test (decide ((0 = 0) ∧ ((List.length z2.2.2.2) = (List.length z2.2.2.2))))
                      (.ret (Sum.inl ((z2.1.1, ((), ((), (z2.1.2.2.2.2.2.1, (w64 (z2.1.2.2.2.2.2.2 + 1)))))), (((win ((win ((win (List.replicate 0 ([] : List (Int))) 0 0) ++ (win z2.2.1 0 ((Int.toNat z2.1.2.2.2.1) - 0))) 0 (0 + (List.length (win z2.2.1 0 ((Int.toNat z2.1.2.2.2.1) - 0))))) ++ (win (List.set (List.replicate 1 ([] : List (Int))) 0 (win z2.2.2.1 0 (List.length z2.2.2.1))) 0 1)) 0 ((0 + (List.length (win z2.2.1 0 ((Int.toNat z2.1.2.2.2.1) - 0)))) + (List.length (win (List.set (List.replicate 1 ([] : List (Int))) 0 (win z2.2.2.1 0 (List.length z2.2.2.1))) 0 1)))) ++ (win z2.2.1 (0 + (Int.toNat z2.1.2.2.2.1)) ((List.length z2.2.1) - (Int.toNat z2.1.2.2.2.1)))), z2.2.2.2))))
                      .fail)
                     .fail)
                    .fail)
                   .fail)
                  .fail)
                 .fail)
                .fail)
               .fail)
              .fail)
             .fail)
            .fail)
           .fail)
          .fail)
         .fail)
        .fail)
       .fail))
      .fail)
     .fail)
    .fail)))
   .fail)
  (.test (decide ((0 = 0) ∧ ((List.length out) = (List.length out))))
   (.ret (Sum.inr ((), out)))
   .fail))
noncomputable def s_caQuiddities_L3 (v : ((Int × Unit × Unit × Int × Int) × (List (List (Int)) × List (List ((Int × Int)))))) : Option (Unit × List (List (Int))) := loopO (fun v => (s_caQuiddities_L3_step v).run) v

def s_caQuiddities_fo : List FO := [⟨[(.one (.rw 0 0))], [(.row 0 (.list true (.int .i64)))]⟩]
noncomputable def s_caQuiddities_t : Int → T (Unit × List (List (Int))) := fun n =>
  (.sub (s_poAll n) fun z0 =>
  (.test (decide ((0 = 0) ∧ (0 = (List.length ([] : List (List Int))))))
  (.test (decide ((0 = 0) ∧ ((List.length z0.2) = (List.length z0.2))))
   (.sub (s_caQuiddities_L3 ((n, ((), ((), (((List.length z0.2) : Int), (0 : Int))))), (([] : List (List Int)), z0.2))) fun z1 =>
    (.test (decide ((0 = 0) ∧ ((List.length z1.2) = (List.length z1.2))))
    (.ret ((), z1.2))
    .fail))
   .fail)
  .fail))
noncomputable def s_caQuiddities (v : Int) : Option (Unit × List (List (Int))) := (s_caQuiddities_t v).run
noncomputable def s_caQuiddities_E : TEnv := (((E0.add1 n_s_poAll s_poAll_sh s_poAll_fo s_poAll).add1 n_s_poQuiddity s_poQuiddity_sh s_poQuiddity_fo s_poQuiddity).add1 n_s_caListBefore s_caListBefore_sh s_caListBefore_fo s_caListBefore)
theorem s_caQuiddities_Eok : (s_caQuiddities_E).OK := (((E0ok.add1 s_poAll_ok).add1 s_poQuiddity_ok).add1 s_caListBefore_ok)
noncomputable def s_caQuiddities_told : Nat → Option SealT := fun id => if id = 7 then some (LSh.told s_caQuiddities_L7_sh 0 (s_caQuiddities_L7_step)) else if id = 3 then some (LSh.told s_caQuiddities_L3_sh 0 (s_caQuiddities_L3_step)) else none
theorem s_caQuiddities_L7_ok : ToldOK Tryz.prog 0 (loopAt (bodyOf fn_s_caQuiddities) [0, 0]) (LSh.told s_caQuiddities_L7_sh 0 (s_caQuiddities_L7_step)) :=
  loop_ok (E := s_caQuiddities_E) (s_caQuiddities_Eok) (told := s_caQuiddities_told) (l := s_caQuiddities_L7_sh) (step := s_caQuiddities_L7_step) (loopsOK_of (ls := []) (by kernel_rfl) trivial) (by kernel_rfl) (fun v => by kernel_rfl)
theorem s_caQuiddities_L3_ok : ToldOK Tryz.prog 0 (loopAt (bodyOf fn_s_caQuiddities) [0]) (LSh.told s_caQuiddities_L3_sh 0 (s_caQuiddities_L3_step)) :=
  loop_ok (E := s_caQuiddities_E) (s_caQuiddities_Eok) (told := s_caQuiddities_told) (l := s_caQuiddities_L3_sh) (step := s_caQuiddities_L3_step) (loopsOK_of (ls := [loopAt (bodyOf fn_s_caQuiddities) [0, 0]]) (by kernel_rfl) ⟨.inr ⟨_, by kernel_rfl, s_caQuiddities_L7_ok⟩, trivial⟩) (by kernel_rfl) (fun v => by kernel_rfl)
theorem s_caQuiddities_ok : FOK Tryz.prog n_s_caQuiddities s_caQuiddities_sh s_caQuiddities_fo s_caQuiddities :=
  fn_ok (E := s_caQuiddities_E) (s_caQuiddities_Eok) (told := s_caQuiddities_told) (fl := []) (c := bodyOf fn_s_caQuiddities) (s := s_caQuiddities_sh) (l := s_caQuiddities_fo) (tree := s_caQuiddities_t) fnat_s_caQuiddities (by kernel_rfl) (by kernel_rfl) (by kernel_rfl) (loopsOK_of (ls := [loopAt (bodyOf fn_s_caQuiddities) [0]]) (by kernel_rfl) ⟨.inr ⟨_, by kernel_rfl, s_caQuiddities_L3_ok⟩, trivial⟩) (fun v => by kernel_rfl)

theorem s_caQuiddities_place (n : Int) (q : List Int) (out : List (List Int)) (t10 : List (List Dg)) (t11 t12 : Int) (hl : out.length < 1000000000) (hq : q.length < 1000000) (ho : ∀ x ∈ out, x.length = q.length) :
    ∀ k, k ≤ out.length → s_caQuiddities_L7 ((n, ((), ((), ((k : Int), ((), (t11, t12)))))), (out, (q, t10))) = some ((n, ((), ((), ((placeL q out k : Int), ((), (t11, t12)))))), (out, (q, t10)))
  | 0, hk => by
    simp only [s_caQuiddities_L7, placeL]
    exact loopO_done (by simp [s_caQuiddities_L7_step, T.run])
  | k + 1, hk => by
    have c0 : ((k + 1 : Nat) : Int) > 0 := by omega
    have c1 : (0 : Int) ≤ (k : Int) ∧ (k : Int) < (out.length : Int) := by omega
    have w1 : w64 (((k + 1 : Nat) : Int) - 1) = (k : Int) := by rw [w64_id (by omega) (by omega)]; omega
    have g1 := gL_some (show k < out.length by omega)
    have hb := s_caListBefore_eq q (gL out k) (ho _ (List.mem_of_getElem? g1)).symm hq
    unfold placeL
    cases hlt : ltL q (gL out k) with
    | true =>
      rw [hlt] at hb
      have ih := s_caQuiddities_place n q out t10 t11 t12 hl hq ho k (by omega)
      simp only [s_caQuiddities_L7, if_true] at ih ⊢
      rw [← ih]
      refine loopO_next ?_
      simp only [s_caQuiddities_L7_step, T.run, c0, c1, w1, decide_true, if_true, and_self, true_and, Int.toNat_natCast, Nat.zero_add, g1, Option.bind_some, Nat.le_refl, win_all, hb]
    | false =>
      rw [hlt] at hb
      simp only [s_caQuiddities_L7, Bool.false_eq_true, if_false]
      refine loopO_done ?_
      simp only [s_caQuiddities_L7_step, T.run, c0, c1, w1, decide_true, if_true, and_self, true_and, Int.toNat_natCast, Nat.zero_add, g1, Option.bind_some, Nat.le_refl, win_all, hb, Bool.false_eq_true, if_false]
theorem s_caQuiddities_eq (n : Nat) (hn : 3 ≤ n ∧ n ≤ 9) : s_caQuiddities (n : Int) = some ((), allQ n) := by
  have hlen := allT_len n hn.2
  have h := loop_fold (step := fun v => (s_caQuiddities_L3_step v).run) (xs := allT n) (fun k (s : List (List Int)) => s.length = k ∧ ∀ x ∈ s, x.length = n) (fun k s => (((n : Int), ((), ((), (((allT n).length : Int), (k : Int))))), (s, allT n))) (fun s ds => insL s (quid n ds)) (fun s => ((), s))
    (fun k s ds hP hds => by
      obtain ⟨hs, hx⟩ := hP
      have hlt := getElem?_lt hds
      obtain ⟨q1, q2⟩ := allT_in hn (List.mem_of_getElem? hds)
      have hq := s_poQuiddity_eq n ds ⟨by omega, by omega⟩ (by omega) q2
      have hpl := s_caQuiddities_place (n : Int) (quid n ds) s (allT n) ((allT n).length : Int) (k : Int) (by omega) (by rw [quid_length]; omega) (fun x hx' => by rw [hx x hx', quid_length]) s.length (Nat.le_refl _)
      have hp1 := (placeL_spec (quid n ds) s s.length).1
      refine ⟨?_, by rw [insL_length, hs], fun x hx' => ?_⟩
      · have c0 : (k : Int) < ((allT n).length : Int) := by omega
        have c1 : (0 : Int) ≤ (k : Int) ∧ (k : Int) < ((allT n).length : Int) := by omega
        have w1 : w64 ((k : Int) + 1) = ((k + 1 : Nat) : Int) := by rw [w64_id (by omega) (by omega)]; omega
        have hins : insL s (quid n ds) = s.take (placeL (quid n ds) s s.length) ++ quid n ds :: s.drop (placeL (quid n ds) s s.length) := rfl
        rw [hins]
        generalize placeL (quid n ds) s s.length = m at *
        have t1 : win s 0 (m - 0) = s.take m := win_take _ _
        have t2 : win (s.take m) 0 m = s.take m := by rw [win_take, List.take_take, Nat.min_self]
        have t3 : win s m (s.length - m) = s.drop m := by unfold win; rw [List.take_of_length_le (by simp)]
        have l1 : (s.take m).length = m := by simp; omega
        have l2 : (s.drop m).length = s.length - m := by simp
        have t4 : win ([] : List (List Int)) 0 0 = [] := rfl
        have l3 : (s.take m ++ [quid n ds]).length = m + 1 := by simp; omega
        have t5 : win (s.take m ++ [quid n ds]) 0 (m + 1) = s.take m ++ [quid n ds] := by rw [← l3]; exact win_all _
        have e : s.take m ++ [quid n ds] ++ s.drop m = s.take m ++ quid n ds :: s.drop m := by simp
        have l4 : (s.take m ++ quid n ds :: s.drop m).length = s.length + 1 := by simp; omega
        have n1 : (0 : Int) ≤ (m : Int) := by omega
        have n2 : 0 ≤ m ∧ m ≤ s.length := by omega
        have n3 : m ≤ s.length := by omega
        have n4 : 2 * ((m + 1 + (s.length - m)) * 25) ≤ 140737488355328 := by omega
        have n5 : 2 * (m * 25) ≤ 140737488355328 := by omega
        have n6 : 2 * ((m + 1) * 25) ≤ 140737488355328 := by omega
        have n7 : m + (s.length - m) ≤ s.length := by omega
        have n8 : m + 1 + (s.length - m) = s.length + 1 := by omega
        have n9 : m ≤ s.length ∧ s.length ≤ s.length := by omega
        have hone : win (List.set (List.replicate 1 ([] : List Int)) 0 (quid n ds)) 0 1 = [quid n ds] := rfl
        simp only [s_caQuiddities_L3_step, T.run, c0, c1, decide_true, if_true, and_self, true_and, Int.toNat_natCast, Nat.zero_add, hds, Option.bind_some, hq, hpl, n1, n2, n3, t1, l1, n5, List.replicate_zero, t4, List.nil_append, t2, win_all, hone, List.length_cons, List.length_nil, List.length_set, List.length_replicate, Nat.le_refl, n6, n7, n9, t3, l2, l3, t5, n4, e, l4, n8, w1]
        rw [if_pos (decide_eq_true (by omega)), if_pos (decide_eq_true (by omega))]
      · rcases List.mem_cons.1 ((insL_perm s (quid n ds)).mem_iff.1 hx') with rfl | h
        · exact quid_length n ds
        · exact hx x h)
    (fun s hs => by simp [s_caQuiddities_L3_step, T.run])
    [] ⟨rfl, by simp⟩
  have hfold : (allT n).foldl (fun s ds => insL s (quid n ds)) [] = allQ n := by
    unfold allQ
    rw [← insL_sortL, List.foldl_map]
  simp only [Int.natCast_zero] at h
  simp only [s_caQuiddities, s_caQuiddities_t, T.run, s_poAll_eq n hn, Option.bind_some, List.length_nil, true_and, decide_true, if_true, s_caQuiddities_L3, h.1, hfold]


def s_pzFits_sh : FSh := ⟨[(.ag [(.sl (.int .i64) false false)]), (.one (.sl (.int .i64) false false))], []⟩

def s_pzFits_L4_sh : LSh := ⟨(fun ex => match ex with | .norm => [(1, none), (14, none), (15, none), (16, none)] | .exit i => if i = 0 then [] else [] | .ret => [(4, none)]), [(1, (.one (.sl (.int .i64) false false))), (14, (.one (.sl (.int .i64) false false))), (15, (.one (.si .i64))), (16, (.one (.si .i64)))], [], [⟨.ret, [(4, (.one .sb))], []⟩, ⟨(.exit 0), [], []⟩], [], []⟩
noncomputable def s_pzFits_L4_step : (List (Int) × List (Int) × Int × Int) → T ((List (Int) × List (Int) × Int × Int) ⊕ (Bool ⊕ Unit)) := fun (quiddity, t14, t15, t16) =>
  (.test (decide (t16 < t15))
  (.test (decide ((0 ≤ t16) ∧ (t16 < ((List.length t14) : Int))))
   (.sub (t14[(Int.toNat t16)]?) fun z0 =>
    (.test (z0 != 0)
    (.test (decide ((0 ≤ t16) ∧ (t16 < ((List.length quiddity) : Int))))
     (.sub (quiddity[(Int.toNat t16)]?) fun z1 =>
      (.test (z0 != z1)
      (.ret (Sum.inr (Sum.inl false)))
      (.ret (Sum.inl (quiddity, (t14, (t15, (w64 (t16 + 1)))))))))
     .fail)
    (.ret (Sum.inl (quiddity, (t14, (t15, (w64 (t16 + 1)))))))))
   .fail)
  (.ret (Sum.inr (Sum.inr ()))))
noncomputable def s_pzFits_L4 (v : (List (Int) × List (Int) × Int × Int)) : Option (Bool ⊕ Unit) := loopO (fun v => (s_pzFits_L4_step v).run) v

def s_pzFits_fo : List FO := [⟨[(.one .sb)], []⟩]
noncomputable def s_pzFits_t : (List (Int) × List (Int)) → T Bool := fun (p_0, quiddity) =>
  (.test (((List.length quiddity) : Int) != ((List.length p_0) : Int))
  (.ret false)
  (.sub (s_pzFits_L4 (quiddity, (p_0, (((List.length p_0) : Int), (0 : Int))))) fun z0 =>
   (.test (Sum.isLeft z0)
   (.sub (Sum.getLeft? z0) fun z1 =>
    (.ret z1))
   (.sub (Sum.getRight? z0) fun z2 =>
    (.ret true)))))
noncomputable def s_pzFits (v : (List (Int) × List (Int))) : Option Bool := (s_pzFits_t v).run
noncomputable def s_pzFits_E : TEnv := E0
theorem s_pzFits_Eok : (s_pzFits_E).OK := E0ok
noncomputable def s_pzFits_told : Nat → Option SealT := fun id => if id = 4 then some (LSh.told s_pzFits_L4_sh 0 (s_pzFits_L4_step)) else none
theorem s_pzFits_L4_ok : ToldOK Tryz.prog 0 (loopAt (bodyOf fn_s_pzFits) [0]) (LSh.told s_pzFits_L4_sh 0 (s_pzFits_L4_step)) :=
  loop_ok (E := s_pzFits_E) (s_pzFits_Eok) (told := s_pzFits_told) (l := s_pzFits_L4_sh) (step := s_pzFits_L4_step) (loopsOK_of (ls := []) (by kernel_rfl) trivial) (by kernel_rfl) (fun v => by kernel_rfl)
theorem s_pzFits_ok : FOK Tryz.prog n_s_pzFits s_pzFits_sh s_pzFits_fo s_pzFits :=
  fn_ok (E := s_pzFits_E) (s_pzFits_Eok) (told := s_pzFits_told) (fl := []) (c := bodyOf fn_s_pzFits) (s := s_pzFits_sh) (l := s_pzFits_fo) (tree := s_pzFits_t) fnat_s_pzFits (by kernel_rfl) (by kernel_rfl) (by kernel_rfl) (loopsOK_of (ls := [loopAt (bodyOf fn_s_pzFits) [0]]) (by kernel_rfl) ⟨.inr ⟨_, by kernel_rfl, s_pzFits_L4_ok⟩, trivial⟩) (fun v => by kernel_rfl)

theorem s_pzFits_eq (p q : List Int) (hl : p.length < 4611686018427387904) : s_pzFits (p, q) = some (fits p q) := by
  simp only [s_pzFits, s_pzFits_t, T.run, fits]
  by_cases he : p.length = q.length
  · have h := loop_any (step := fun v => (s_pzFits_L4_step v).run) (xs := p.zip q) (fun x => !(x.1 == 0 || x.1 == x.2)) (fun k => (q, (p, ((p.length : Int), (k : Int))))) (.inl false) (.inr ())
      (fun k x hx => by
        obtain ⟨x1, x2⟩ := x
        rw [List.getElem?_zip_eq_some] at hx
        obtain ⟨h1, h2⟩ := hx
        simp only at h1 h2
        have hk := getElem?_lt h1
        have hk2 := getElem?_lt h2
        have c0 : (k : Int) < (p.length : Int) := by omega
        have c1 : (0 : Int) ≤ (k : Int) ∧ (k : Int) < (p.length : Int) := by omega
        have c2 : (0 : Int) ≤ (k : Int) ∧ (k : Int) < (q.length : Int) := by omega
        have w1 : w64 ((k : Int) + 1) = ((k + 1 : Nat) : Int) := by rw [w64_id (by omega) (by omega)]; omega
        simp only [s_pzFits_L4_step, T.run, c0, c1, c2, decide_true, if_true, and_self, Int.toNat_natCast, h1, h2, Option.bind_some, w1]
        by_cases e0 : x1 = 0 <;> by_cases e1 : x1 = x2 <;> simp [e0, e1])
      (by simp [s_pzFits_L4_step, T.run, he])
    simp only [Int.natCast_zero] at h
    have hne : ((q.length : Int) != (p.length : Int)) = false := by simp [he]
    simp only [s_pzFits_L4, h, hne, decide_eq_true he]
    cases (p.zip q).any (fun x => !(x.1 == 0 || x.1 == x.2)) <;> simp
  · have hne : ((q.length : Int) != (p.length : Int)) = true := by simp; omega
    simp [hne, he]


def s_pzAll_sh : FSh := ⟨[(.ag [(.sl (.int .i64) false false)])], []⟩

def s_pzAll_L5_sh : LSh := ⟨(fun ex => match ex with | .norm => [(1, none), (4, none), (13, none), (14, none), (15, none)] | .exit i => if i = 0 then [(4, none)] else [] | .ret => [(2, none), (3, none)]), [(1, (.one (.pf 0 0 0))), (4, (.one (.rw 1 0))), (13, (.one (.rw 2 0))), (14, (.one (.si .i64))), (15, (.one (.si .i64)))], [(.rcd 0 [(.sl (.int .i64) false false)]), (.row 0 (.list true (.int .i64))), (.row 0 (.list true (.int .i64)))], [⟨(.exit 0), [(4, (.one (.rw 0 0)))], [(.row 0 (.list true (.int .i64)))]⟩], [], []⟩
noncomputable def s_pzAll_L5_step : ((Unit × Unit × Unit × Int × Int) × (List (Int) × List (List (Int)) × List (List (Int)))) → T (((Unit × Unit × Unit × Int × Int) × (List (Int) × List (List (Int)) × List (List (Int)))) ⊕ (Unit × List (List (Int)))) := fun (((), (), (), t14, t15), (p_0, out, t13)) =>
  (.test (decide (t15 < t14))
  (.test (decide ((0 ≤ t15) ∧ (t15 < ((List.length t13) : Int))))
   (.sub (t13[(0 + (Int.toNat t15))]?) fun z0 =>
    (.sub (s_pzFits (p_0, z0)) fun z1 =>
    (.test z1
    (.test (decide (1 ≤ (List.length (List.set (List.replicate 1 ([] : List (Int))) 0 z0))))
     (.test (decide ((0 + (List.length out)) ≤ (List.length out)))
      (.test (decide ((2 * (((List.length out) + (List.length (win (List.set (List.replicate 1 ([] : List (Int))) 0 z0) 0 1))) * 25)) ≤ 140737488355328))
       (.test (decide ((0 = 0) ∧ (((List.length out) + (List.length (win (List.set (List.replicate 1 ([] : List (Int))) 0 z0) 0 1))) = (List.length ((win out 0 (List.length out)) ++ (win (List.set (List.replicate 1 ([] : List (Int))) 0 z0) 0 1))))))
        (.test (decide ((0 = 0) ∧ ((List.length t13) = (List.length t13))))
         (.ret (Sum.inl (((), ((), ((), (t14, (w64 (t15 + 1)))))), (p_0, (((win out 0 (List.length out)) ++ (win (List.set (List.replicate 1 ([] : List (Int))) 0 z0) 0 1)), t13)))))
         .fail)
        .fail)
       .fail)
      .fail)
     .fail)
    (.test (decide ((0 = 0) ∧ ((List.length out) = (List.length out))))
     (.test (decide ((0 = 0) ∧ ((List.length t13) = (List.length t13))))
      (.ret (Sum.inl (((), ((), ((), (t14, (w64 (t15 + 1)))))), (p_0, (out, t13)))))
      .fail)
     .fail))))
   .fail)
  (.test (decide ((0 = 0) ∧ ((List.length out) = (List.length out))))
   (.ret (Sum.inr ((), out)))
   .fail))
noncomputable def s_pzAll_L5 (v : ((Unit × Unit × Unit × Int × Int) × (List (Int) × List (List (Int)) × List (List (Int))))) : Option (Unit × List (List (Int))) := loopO (fun v => (s_pzAll_L5_step v).run) v

def s_pzAll_fo : List FO := [⟨[(.one (.rw 0 0)), (.one .sb)], [(.row 0 (.list true (.int .i64)))]⟩]
noncomputable def s_pzAll_t : List (Int) → T ((Unit × Bool) × List (List (Int))) := fun p_0 =>
  (.sub (s_pzGood p_0) fun z0 =>
  (.test (! z0)
  (.test true
   (.ret (((), false), ([] : List (List Int))))
   .fail)
  (.sub (s_caQuiddities ((List.length p_0) : Int)) fun z1 =>
   (.test (decide ((0 = 0) ∧ (0 = (List.length ([] : List (List Int))))))
   (.test (decide ((0 = 0) ∧ ((List.length z1.2) = (List.length z1.2))))
    (.sub (s_pzAll_L5 (((), ((), ((), (((List.length z1.2) : Int), (0 : Int))))), (p_0, (([] : List (List Int)), z1.2)))) fun z2 =>
     (.test (decide (((List.length z2.2) : Int) > 300))
     (.test true
      (.ret (((), false), ([] : List (List Int))))
      .fail)
     (.test (decide ((0 = 0) ∧ ((List.length z2.2) = (List.length z2.2))))
      (.ret (((), true), z2.2))
      .fail)))
    .fail)
   .fail))))
noncomputable def s_pzAll (v : List (Int)) : Option ((Unit × Bool) × List (List (Int))) := (s_pzAll_t v).run
noncomputable def s_pzAll_E : TEnv := (((E0.add1 n_s_pzGood s_pzGood_sh s_pzGood_fo s_pzGood).add1 n_s_caQuiddities s_caQuiddities_sh s_caQuiddities_fo s_caQuiddities).add1 n_s_pzFits s_pzFits_sh s_pzFits_fo s_pzFits)
theorem s_pzAll_Eok : (s_pzAll_E).OK := (((E0ok.add1 s_pzGood_ok).add1 s_caQuiddities_ok).add1 s_pzFits_ok)
noncomputable def s_pzAll_told : Nat → Option SealT := fun id => if id = 5 then some (LSh.told s_pzAll_L5_sh 0 (s_pzAll_L5_step)) else none
theorem s_pzAll_L5_ok : ToldOK Tryz.prog 0 (loopAt (bodyOf fn_s_pzAll) [0]) (LSh.told s_pzAll_L5_sh 0 (s_pzAll_L5_step)) :=
  loop_ok (E := s_pzAll_E) (s_pzAll_Eok) (told := s_pzAll_told) (l := s_pzAll_L5_sh) (step := s_pzAll_L5_step) (loopsOK_of (ls := []) (by kernel_rfl) trivial) (by kernel_rfl) (fun v => by kernel_rfl)
theorem s_pzAll_ok : FOK Tryz.prog n_s_pzAll s_pzAll_sh s_pzAll_fo s_pzAll :=
  fn_ok (E := s_pzAll_E) (s_pzAll_Eok) (told := s_pzAll_told) (fl := []) (c := bodyOf fn_s_pzAll) (s := s_pzAll_sh) (l := s_pzAll_fo) (tree := s_pzAll_t) fnat_s_pzAll (by kernel_rfl) (by kernel_rfl) (by kernel_rfl) (loopsOK_of (ls := [loopAt (bodyOf fn_s_pzAll) [0]]) (by kernel_rfl) ⟨.inr ⟨_, by kernel_rfl, s_pzAll_L5_ok⟩, trivial⟩) (fun v => by kernel_rfl)

theorem s_pzAll_eq (p : List Int) (hl : p.length < 4611686018427387904) : s_pzAll p = some (((), (solR p).1), (solR p).2) := by
  rw [s_pzAll, s_pzAll_t, T.run_sub, s_pzGood_eq p hl, Option.bind_some, T.run_test]
  unfold solR
  cases hp : isPz p with
  | false => simp [T.run]
  | true =>
    have hpl := isPz_len hp
    have hq := allQ_len p.length hpl.2
    have key : ∀ (t : List (List Int)), t.length ≤ 134217728 → ∀ m k (s : List (List Int)), k + m = t.length → s.length ≤ k → s_pzAll_L5 (((), ((), ((), ((t.length : Int), (k : Int))))), (p, (s, t))) = some ((), s ++ (t.drop k).filter (fits p)) := by
      intro t ht m
      induction m with
      | zero =>
        intro k s hk hs
        have : k = t.length := by omega
        subst this
        rw [List.drop_length, List.filter_nil, List.append_nil]
        simp only [s_pzAll_L5]
        exact loopO_done (by simp [s_pzAll_L5_step, T.run])
      | succ m ih =>
        intro k s hk hs
        have hlt : k < t.length := by omega
        have hds := List.getElem?_eq_getElem hlt
        have c0 : (k : Int) < (t.length : Int) := by omega
        have c1 : (0 : Int) ≤ (k : Int) ∧ (k : Int) < (t.length : Int) := by omega
        have w1 : w64 ((k : Int) + 1) = ((k + 1 : Nat) : Int) := by rw [w64_id (by omega) (by omega)]; omega
        have c2 : 2 * ((s.length + 1) * 25) ≤ 140737488355328 := by omega
        have hidx : t[0 + (k : Int).toNat]? = some t[k] := by rw [Int.toNat_natCast, Nat.zero_add]; exact hds
        have hff := s_pzFits_eq p t[k] hl
        rw [List.drop_eq_getElem_cons hlt, List.filter_cons]
        cases hf : fits p t[k] with
        | true =>
          have ih := ih (k + 1) (s ++ [t[k]]) (by omega) (by simp; omega)
          have e : s ++ t[k] :: (t.drop (k + 1)).filter (fits p) = s ++ [t[k]] ++ (t.drop (k + 1)).filter (fits p) := by simp
          simp only [if_true]
          rw [e]
          simp only [s_pzAll_L5] at ih ⊢
          rw [← ih]
          refine loopO_next ?_
          rw [hf] at hff
          have hone : win (List.set (List.replicate 1 ([] : List Int)) 0 t[k]) 0 1 = [t[k]] := rfl
          simp only [s_pzAll_L5_step, T.run_test, T.run_sub, T.run_ret, T.run_fail]
          rw [if_pos (decide_eq_true c0), if_pos (decide_eq_true c1), hidx, Option.bind_some, hff, Option.bind_some, if_pos rfl]
          simp only [Nat.zero_add, Nat.le_refl, win_all, hone, List.length_cons, List.length_nil, List.length_set, List.length_replicate, c2, w1, List.length_append, decide_true, if_true, and_self]
        | false =>
          have ih := ih (k + 1) s (by omega) (by omega)
          simp only [Bool.false_eq_true, if_false]
          simp only [s_pzAll_L5] at ih ⊢
          rw [← ih]
          refine loopO_next ?_
          rw [hf] at hff
          simp only [s_pzAll_L5_step, T.run_test, T.run_sub, T.run_ret, T.run_fail]
          rw [if_pos (decide_eq_true c0), if_pos (decide_eq_true c1), hidx, Option.bind_some, hff, Option.bind_some, if_neg Bool.false_ne_true]
          simp only [w1, decide_true, if_true, and_self]
    have h5 := key (allQ p.length) hq (allQ p.length).length 0 [] (by omega) (by simp)
    rw [List.drop_zero, List.nil_append, Int.natCast_zero] at h5
    have hsl : (allQ p.length).filter (fits p) = solL p := rfl
    rw [hsl] at h5
    rw [if_neg (by simp), T.run_sub, s_caQuiddities_eq p.length hpl, Option.bind_some, T.run_test, if_pos (by simp), T.run_test, if_pos (by simp), T.run_sub, h5, Option.bind_some]
    generalize solL p = r
    simp only [T.run_test, T.run_ret, T.run_fail]
    by_cases h3 : r.length ≤ 300
    · have c : ¬ ((r.length : Int) > 300) := by omega
      simp [c, h3]
    · have c : (r.length : Int) > 300 := by omega
      simp [c, h3]


def s_l1Own_sh : FSh := ⟨[(.one (.sl (.int .i64) false false))], []⟩

def s_l1Own_fo : List FO := [⟨[(.one (.rw 0 0))], [(.row 0 (.int .i64))]⟩]
noncomputable def s_l1Own_t : List (Int) → T (Unit × List (Int)) := fun l =>
  (.test true
  (.test (decide ((2 * ((0 + (List.length l)) * 9)) ≤ 140737488355328))
   (.test (decide ((0 = 0) ∧ ((0 + (List.length l)) = (List.length ((win (List.replicate 0 (0 : Int)) 0 0) ++ l)))))
    (.ret ((), ((win (List.replicate 0 (0 : Int)) 0 0) ++ l)))
    .fail)
   .fail)
  .fail)
noncomputable def s_l1Own (v : List (Int)) : Option (Unit × List (Int)) := (s_l1Own_t v).run
noncomputable def s_l1Own_E : TEnv := E0
theorem s_l1Own_Eok : (s_l1Own_E).OK := E0ok
noncomputable def s_l1Own_told : Nat → Option SealT := fun id => none
theorem s_l1Own_ok : FOK Tryz.prog n_s_l1Own s_l1Own_sh s_l1Own_fo s_l1Own :=
  fn_ok (E := s_l1Own_E) (s_l1Own_Eok) (told := s_l1Own_told) (fl := []) (c := bodyOf fn_s_l1Own) (s := s_l1Own_sh) (l := s_l1Own_fo) (tree := s_l1Own_t) fnat_s_l1Own (by kernel_rfl) (by kernel_rfl) (by kernel_rfl) (loopsOK_of (ls := []) (by kernel_rfl) trivial) (fun v => by kernel_rfl)

theorem s_l1Own_eq (l : List Int) (hl : l.length < 1000000000000) : s_l1Own l = some ((), l) := by
  have h : 2 * (l.length * 9) ≤ 140737488355328 := by omega
  have hw : win ([] : List Int) 0 0 = [] := rfl
  simp [s_l1Own, s_l1Own_t, T.run, hw, h]


def s_l1Least_sh : FSh := ⟨[(.one (.si .i64)), (.one (.si .i64))], []⟩

def s_l1Least_fo : List FO := [⟨[(.one (.si .i64))], []⟩]
noncomputable def s_l1Least_t : (Int × Int) → T Int := fun (a, b) =>
  (.test (decide (a < b))
  (.ret a)
  (.ret b))
noncomputable def s_l1Least (v : (Int × Int)) : Option Int := (s_l1Least_t v).run
noncomputable def s_l1Least_E : TEnv := E0
theorem s_l1Least_Eok : (s_l1Least_E).OK := E0ok
noncomputable def s_l1Least_told : Nat → Option SealT := fun id => none
theorem s_l1Least_ok : FOK Tryz.prog n_s_l1Least s_l1Least_sh s_l1Least_fo s_l1Least :=
  fn_ok (E := s_l1Least_E) (s_l1Least_Eok) (told := s_l1Least_told) (fl := []) (c := bodyOf fn_s_l1Least) (s := s_l1Least_sh) (l := s_l1Least_fo) (tree := s_l1Least_t) fnat_s_l1Least (by kernel_rfl) (by kernel_rfl) (by kernel_rfl) (loopsOK_of (ls := []) (by kernel_rfl) trivial) (fun v => by kernel_rfl)

def s_l1Most_sh : FSh := ⟨[(.one (.si .i64)), (.one (.si .i64))], []⟩

def s_l1Most_fo : List FO := [⟨[(.one (.si .i64))], []⟩]
noncomputable def s_l1Most_t : (Int × Int) → T Int := fun (a, b) =>
  (.test (decide (a > b))
  (.ret a)
  (.ret b))
noncomputable def s_l1Most (v : (Int × Int)) : Option Int := (s_l1Most_t v).run
noncomputable def s_l1Most_E : TEnv := E0
theorem s_l1Most_Eok : (s_l1Most_E).OK := E0ok
noncomputable def s_l1Most_told : Nat → Option SealT := fun id => none
theorem s_l1Most_ok : FOK Tryz.prog n_s_l1Most s_l1Most_sh s_l1Most_fo s_l1Most :=
  fn_ok (E := s_l1Most_E) (s_l1Most_Eok) (told := s_l1Most_told) (fl := []) (c := bodyOf fn_s_l1Most) (s := s_l1Most_sh) (l := s_l1Most_fo) (tree := s_l1Most_t) fnat_s_l1Most (by kernel_rfl) (by kernel_rfl) (by kernel_rfl) (loopsOK_of (ls := []) (by kernel_rfl) trivial) (fun v => by kernel_rfl)

def s_poLess_sh : FSh := ⟨[(.ag [(.si .i64), (.si .i64)]), (.ag [(.si .i64), (.si .i64)])], []⟩

def s_poLess_fo : List FO := [⟨[(.one .sb)], []⟩]
noncomputable def s_poLess_t : ((Int × Int) × (Int × Int)) → T Bool := fun ((d_0, d_1), (e_0, e_1)) =>
  (.test (decide (d_0 < e_0))
  (.ret true)
  (.test (d_0 == e_0)
   (.ret (decide (d_1 < e_1)))
   (.ret false)))
noncomputable def s_poLess (v : ((Int × Int) × (Int × Int))) : Option Bool := (s_poLess_t v).run
noncomputable def s_poLess_E : TEnv := E0
theorem s_poLess_Eok : (s_poLess_E).OK := E0ok
noncomputable def s_poLess_told : Nat → Option SealT := fun id => none
theorem s_poLess_ok : FOK Tryz.prog n_s_poLess s_poLess_sh s_poLess_fo s_poLess :=
  fn_ok (E := s_poLess_E) (s_poLess_Eok) (told := s_poLess_told) (fl := []) (c := bodyOf fn_s_poLess) (s := s_poLess_sh) (l := s_poLess_fo) (tree := s_poLess_t) fnat_s_poLess (by kernel_rfl) (by kernel_rfl) (by kernel_rfl) (loopsOK_of (ls := []) (by kernel_rfl) trivial) (fun v => by kernel_rfl)

theorem s_poLess_eq (d e : Dg) : s_poLess (d, e) = some (ltD d e) := by
  obtain ⟨a, b⟩ := d
  obtain ⟨c, f⟩ := e
  simp only [s_poLess, s_poLess_t, T.run, ltD]
  by_cases h1 : a < c
  · simp [h1]
  · by_cases h2 : a = c
    · subst h2; simp [h1]
    · simp [h1, h2]


def s_poSorted_sh : FSh := ⟨[(.one (.sl (.pair (.int .i64) (.int .i64)) false false))], []⟩

def s_poSorted_L6_sh : LSh := ⟨(fun ex => match ex with | .norm => [(3, none), (5, none), (6, none), (8, none), (9, none), (10, none)] | .exit i => if i = 2 then [(3, none), (5, none), (6, none), (8, none), (9, none), (10, none)] else if i = 1 then [(3, none), (8, none), (9, none), (10, none)] else if i = 0 then [(3, none)] else [] | .ret => [(2, none)]), [(3, (.one (.rw 0 0))), (5, (.one (.pf 1 0 0))), (6, (.one (.si .i64))), (8, (.one (.sl (.pair (.int .i64) (.int .i64)) false false))), (9, (.one (.si .i64))), (10, (.one (.si .i64)))], [(.row 0 (.pair (.int .i64) (.int .i64))), (.rcd 0 [(.si .i64), (.si .i64)])], [⟨(.exit 2), [(3, (.one (.rw 0 0))), (5, (.one (.pf 1 0 0))), (6, (.one (.si .i64))), (8, (.one (.sl (.pair (.int .i64) (.int .i64)) false false))), (9, (.one (.si .i64))), (10, (.one (.si .i64)))], [(.row 0 (.pair (.int .i64) (.int .i64))), (.rcd 0 [(.si .i64), (.si .i64)])]⟩], [], []⟩
noncomputable def s_poSorted_L6_step : ((Unit × Unit × Int × List ((Int × Int)) × Int × Int) × (List ((Int × Int)) × (Int × Int))) → T (((Unit × Unit × Int × List ((Int × Int)) × Int × Int) × (List ((Int × Int)) × (Int × Int))) ⊕ ((Unit × Unit × Int × List ((Int × Int)) × Int × Int) × (List ((Int × Int)) × (Int × Int)))) := fun (((), (), k, t8, t9, t10), (out, (d_0, d_1))) =>
  (.test (decide (k < ((List.length out) : Int)))
  (.test (decide ((0 ≤ k) ∧ (k < ((List.length out) : Int))))
   (.sub (out[(0 + (Int.toNat k))]?) fun z0 =>
    (.sub (s_poLess ((z0.1, z0.2), (d_0, d_1))) fun z1 =>
    (.test z1
    (.test (decide ((0 = 0) ∧ ((List.length out) = (List.length out))))
     (.ret (Sum.inl (((), ((), ((w64 (k + 1)), (t8, (t9, t10))))), (out, (d_0, d_1)))))
     .fail)
    (.test (decide ((0 = 0) ∧ ((List.length out) = (List.length out))))
     (.ret (Sum.inr (((), ((), (k, (t8, (t9, t10))))), (out, (d_0, d_1)))))
     .fail))))
   .fail)
  (.test (decide ((0 = 0) ∧ ((List.length out) = (List.length out))))
   (.ret (Sum.inr (((), ((), (k, (t8, (t9, t10))))), (out, (d_0, d_1)))))
   .fail))
noncomputable def s_poSorted_L6 (v : ((Unit × Unit × Int × List ((Int × Int)) × Int × Int) × (List ((Int × Int)) × (Int × Int)))) : Option ((Unit × Unit × Int × List ((Int × Int)) × Int × Int) × (List ((Int × Int)) × (Int × Int))) := loopO (fun v => (s_poSorted_L6_step v).run) v

def s_poSorted_L3_sh : LSh := ⟨(fun ex => match ex with | .norm => [(3, none), (8, none), (9, none), (10, none)] | .exit i => if i = 0 then [(3, none)] else [] | .ret => [(2, none)]), [(3, (.one (.rw 0 0))), (8, (.one (.sl (.pair (.int .i64) (.int .i64)) false false))), (9, (.one (.si .i64))), (10, (.one (.si .i64)))], [(.row 0 (.pair (.int .i64) (.int .i64)))], [⟨(.exit 0), [(3, (.one (.rw 0 0)))], [(.row 0 (.pair (.int .i64) (.int .i64)))]⟩], [], []⟩
noncomputable def s_poSorted_L3_step : ((Unit × List ((Int × Int)) × Int × Int) × List ((Int × Int))) → T (((Unit × List ((Int × Int)) × Int × Int) × List ((Int × Int))) ⊕ (Unit × List ((Int × Int)))) := fun (((), t8, t9, t10), out) =>
  (.test (decide (t10 < t9))
  (.test (decide ((0 ≤ t10) ∧ (t10 < ((List.length t8) : Int))))
   (.sub (t8[(Int.toNat t10)]?) fun z0 =>
    (.test (decide ((0 = 0) ∧ ((List.length out) = (List.length out))))
    (.sub (s_poSorted_L6 (((), ((), ((0 : Int), (t8, (t9, t10))))), (out, (z0.1, z0.2)))) fun z1 =>
     (.test (decide (0 ≤ z1.1.2.2.1))
     (.test (decide ((0 ≤ (Int.toNat z1.1.2.2.1)) ∧ ((Int.toNat z1.1.2.2.1) ≤ (List.length z1.2.1))))
      (.test (decide ((0 + ((Int.toNat z1.1.2.2.1) - 0)) ≤ (List.length z1.2.1)))
       (.test true
        (.test (decide ((2 * ((0 + (List.length (win z1.2.1 0 ((Int.toNat z1.1.2.2.1) - 0)))) * 17)) ≤ 140737488355328))
         (.test (decide (1 ≤ (List.length (List.set (List.replicate 1 ((0 : Int), (0 : Int))) 0 (z1.2.2.1, z1.2.2.2)))))
          (.test (decide ((0 + (0 + (List.length (win z1.2.1 0 ((Int.toNat z1.1.2.2.1) - 0))))) ≤ (List.length ((win (List.replicate 0 ((0 : Int), (0 : Int))) 0 0) ++ (win z1.2.1 0 ((Int.toNat z1.1.2.2.1) - 0))))))
           (.test (decide ((2 * (((0 + (List.length (win z1.2.1 0 ((Int.toNat z1.1.2.2.1) - 0)))) + (List.length (win (List.set (List.replicate 1 ((0 : Int), (0 : Int))) 0 (z1.2.2.1, z1.2.2.2)) 0 1))) * 17)) ≤ 140737488355328))
            (.test (decide (0 ≤ z1.1.2.2.1))
             (.test (decide (((Int.toNat z1.1.2.2.1) ≤ (List.length z1.2.1)) ∧ ((List.length z1.2.1) ≤ (List.length z1.2.1))))
              (.test (decide (((0 + (Int.toNat z1.1.2.2.1)) + ((List.length z1.2.1) - (Int.toNat z1.1.2.2.1))) ≤ (List.length z1.2.1)))
               (.test (decide ((0 + ((0 + (List.length (win z1.2.1 0 ((Int.toNat z1.1.2.2.1) - 0)))) + (List.length (win (List.set (List.replicate 1 ((0 : Int), (0 : Int))) 0 (z1.2.2.1, z1.2.2.2)) 0 1)))) ≤ (List.length ((win ((win (List.replicate 0 ((0 : Int), (0 : Int))) 0 0) ++ (win z1.2.1 0 ((Int.toNat z1.1.2.2.1) - 0))) 0 (0 + (List.length (win z1.2.1 0 ((Int.toNat z1.1.2.2.1) - 0))))) ++ (win (List.set (List.replicate 1 ((0 : Int), (0 : Int))) 0 (z1.2.2.1, z1.2.2.2)) 0 1)))))
                (.test (decide ((2 * ((((0 + (List.length (win z1.2.1 0 ((Int.toNat z1.1.2.2.1) - 0)))) + (List.length (win (List.set (List.replicate 1 ((0 : Int), (0 : Int))) 0 (z1.2.2.1, z1.2.2.2)) 0 1))) + (List.length (win z1.2.1 (0 + (Int.toNat z1.1.2.2.1)) ((List.length z1.2.1) - (Int.toNat z1.1.2.2.1))))) * 17)) ≤ 140737488355328))
                 (.test (decide ((0 = 0) ∧ ((((0 + (List.length (win z1.2.1 0 ((Int.toNat z1.1.2.2.1) - 0)))) + (List.length (win (List.set (List.replicate 1 ((0 : Int), (0 : Int))) 0 (z1.2.2.1, z1.2.2.2)) 0 1))) + (List.length (win z1.2.1 (0 + (Int.toNat z1.1.2.2.1)) ((List.length z1.2.1) - (Int.toNat z1.1.2.2.1))))) = (List.length ((win ((win ((win (List.replicate 0 ((0 : Int), (0 : Int))) 0 0) ++ (win z1.2.1 0 ((Int.toNat z1.1.2.2.1) - 0))) 0 (0 + (List.length (win z1.2.1 0 ((Int.toNat z1.1.2.2.1) - 0))))) ++ (win (List.set (List.replicate 1 ((0 : Int), (0 : Int))) 0 (z1.2.2.1, z1.2.2.2)) 0 1)) 0 ((0 + (List.length (win z1.2.1 0 ((Int.toNat z1.1.2.2.1) - 0)))) + (List.length (win (List.set (List.replicate 1 ((0 : Int), (0 : Int))) 0 (z1.2.2.1, z1.2.2.2)) 0 1)))) ++ (win z1.2.1 (0 + (Int.toNat z1.1.2.2.1)) ((List.length z1.2.1) - (Int.toNat z1.1.2.2.1))))))))
                  (.ret (Sum.inl (((), (z1.1.2.2.2.1, (z1.1.2.2.2.2.1, (w64 (z1.1.2.2.2.2.2 + 1))))), ((win ((win ((win (List.replicate 0 ((0 : Int), (0 : Int))) 0 0) ++ (win z1.2.1 0 ((Int.toNat z1.1.2.2.1) - 0))) 0 (0 + (List.length (win z1.2.1 0 ((Int.toNat z1.1.2.2.1) - 0))))) ++ (win (List.set (List.replicate 1 ((0 : Int), (0 : Int))) 0 (z1.2.2.1, z1.2.2.2)) 0 1)) 0 ((0 + (List.length (win z1.2.1 0 ((Int.toNat z1.1.2.2.1) - 0)))) + (List.length (win (List.set (List.replicate 1 ((0 : Int), (0 : Int))) 0 (z1.2.2.1, z1.2.2.2)) 0 1)))) ++ (win z1.2.1 (0 + (Int.toNat z1.1.2.2.1)) ((List.length z1.2.1) - (Int.toNat z1.1.2.2.1)))))))
                  .fail)
                 .fail)
                .fail)
               .fail)
              .fail)
             .fail)
            .fail)
           .fail)
          .fail)
         .fail)
        .fail)
       .fail)
      .fail)
     .fail))
    .fail))
   .fail)
  (.test (decide ((0 = 0) ∧ ((List.length out) = (List.length out))))
   (.ret (Sum.inr ((), out)))
   .fail))
noncomputable def s_poSorted_L3 (v : ((Unit × List ((Int × Int)) × Int × Int) × List ((Int × Int)))) : Option (Unit × List ((Int × Int))) := loopO (fun v => (s_poSorted_L3_step v).run) v

def s_poSorted_fo : List FO := [⟨[(.one (.rw 0 0))], [(.row 0 (.pair (.int .i64) (.int .i64)))]⟩]
noncomputable def s_poSorted_t : List ((Int × Int)) → T (Unit × List ((Int × Int))) := fun ds =>
  (.test true
  (.sub (s_poSorted_L3 (((), (ds, (((List.length ds) : Int), (0 : Int)))), ([] : List (Int × Int)))) fun z0 =>
   (.test (decide ((0 = 0) ∧ ((List.length z0.2) = (List.length z0.2))))
   (.ret ((), z0.2))
   .fail))
  .fail)
noncomputable def s_poSorted (v : List ((Int × Int))) : Option (Unit × List ((Int × Int))) := (s_poSorted_t v).run
noncomputable def s_poSorted_E : TEnv := (E0.add1 n_s_poLess s_poLess_sh s_poLess_fo s_poLess)
theorem s_poSorted_Eok : (s_poSorted_E).OK := (E0ok.add1 s_poLess_ok)
noncomputable def s_poSorted_told : Nat → Option SealT := fun id => if id = 6 then some (LSh.told s_poSorted_L6_sh 0 (s_poSorted_L6_step)) else if id = 3 then some (LSh.told s_poSorted_L3_sh 0 (s_poSorted_L3_step)) else none
theorem s_poSorted_L6_ok : ToldOK Tryz.prog 0 (loopAt (bodyOf fn_s_poSorted) [0, 0]) (LSh.told s_poSorted_L6_sh 0 (s_poSorted_L6_step)) :=
  loop_ok (E := s_poSorted_E) (s_poSorted_Eok) (told := s_poSorted_told) (l := s_poSorted_L6_sh) (step := s_poSorted_L6_step) (loopsOK_of (ls := []) (by kernel_rfl) trivial) (by kernel_rfl) (fun v => by kernel_rfl)
theorem s_poSorted_L3_ok : ToldOK Tryz.prog 0 (loopAt (bodyOf fn_s_poSorted) [0]) (LSh.told s_poSorted_L3_sh 0 (s_poSorted_L3_step)) :=
  loop_ok (E := s_poSorted_E) (s_poSorted_Eok) (told := s_poSorted_told) (l := s_poSorted_L3_sh) (step := s_poSorted_L3_step) (loopsOK_of (ls := [loopAt (bodyOf fn_s_poSorted) [0, 0]]) (by kernel_rfl) ⟨.inr ⟨_, by kernel_rfl, s_poSorted_L6_ok⟩, trivial⟩) (by kernel_rfl) (fun v => by kernel_rfl)
theorem s_poSorted_ok : FOK Tryz.prog n_s_poSorted s_poSorted_sh s_poSorted_fo s_poSorted :=
  fn_ok (E := s_poSorted_E) (s_poSorted_Eok) (told := s_poSorted_told) (fl := []) (c := bodyOf fn_s_poSorted) (s := s_poSorted_sh) (l := s_poSorted_fo) (tree := s_poSorted_t) fnat_s_poSorted (by kernel_rfl) (by kernel_rfl) (by kernel_rfl) (loopsOK_of (ls := [loopAt (bodyOf fn_s_poSorted) [0]]) (by kernel_rfl) ⟨.inr ⟨_, by kernel_rfl, s_poSorted_L3_ok⟩, trivial⟩) (fun v => by kernel_rfl)

theorem s_poSorted_place (d : Dg) (out : List Dg) (t8 : List Dg) (a b : Int) (hl : out.length < 1000000) :
    ∃ k : Nat, k ≤ out.length ∧ out.take k ++ d :: out.drop k = insD d out ∧ s_poSorted_L6 (((), ((), ((0 : Int), (t8, (a, b))))), (out, d)) = some (((), ((), ((k : Int), (t8, (a, b))))), (out, d)) := by
  obtain ⟨k, h1, h2, h3, h4, h5⟩ := take_while_idx d out
  refine ⟨k, h1, by unfold insD; rw [h2, h3], ?_⟩
  obtain ⟨d0, d1⟩ := d
  have key : ∀ n j, j + n = k → s_poSorted_L6 (((), ((), ((j : Int), (t8, (a, b))))), (out, (d0, d1))) = some (((), ((), ((k : Int), (t8, (a, b))))), (out, (d0, d1))) := by
    intro n
    induction n with
    | zero =>
      intro j hj
      have : j = k := by omega
      subst this
      simp only [s_poSorted_L6]
      refine loopO_done ?_
      by_cases hk : j < out.length
      · have c0 : (j : Int) < (out.length : Int) := by omega
        have c1 : (0 : Int) ≤ (j : Int) ∧ (j : Int) < (out.length : Int) := by omega
        simp only [s_poSorted_L6_step, T.run, c0, c1, decide_true, if_true, Int.toNat_natCast, Nat.zero_add, gD_some hk, Option.bind_some, s_poLess_eq, h5 hk, and_self]
        simp
      · have c0 : ¬ ((j : Int) < (out.length : Int)) := by omega
        simp only [s_poSorted_L6_step, T.run, c0, decide_false]
        simp
    | succ n ih =>
      intro j hj
      have hk : j < out.length := by omega
      have ih := ih (j + 1) (by omega)
      simp only [s_poSorted_L6] at ih ⊢
      rw [← ih]
      refine loopO_next ?_
      have c0 : (j : Int) < (out.length : Int) := by omega
      have c1 : (0 : Int) ≤ (j : Int) ∧ (j : Int) < (out.length : Int) := by omega
      have w1 : w64 ((j : Int) + 1) = ((j + 1 : Nat) : Int) := by rw [w64_id (by omega) (by omega)]; omega
      simp only [s_poSorted_L6_step, T.run, c0, c1, decide_true, if_true, Int.toNat_natCast, Nat.zero_add, gD_some hk, Option.bind_some, s_poLess_eq, h4 j (by omega), and_self, w1]
  simpa using key k 0 (by omega)
theorem insD_length (d : Dg) (l : List Dg) : (insD d l).length = l.length + 1 := by simpa using (insD_perm d l).length_eq
theorem s_poSorted_eq (l : List Dg) (hl : l.length < 100000) : s_poSorted l = some ((), sortD l) := by
  have h := loop_fold (step := fun v => (s_poSorted_L3_step v).run) (xs := l) (fun k (s : List Dg) => s.length = k) (fun k s => (((), (l, ((l.length : Int), (k : Int)))), s)) (fun out d => insD d out) (fun s => ((), s))
    (fun k s d hk hd => by
      have hlt := getElem?_lt hd
      have c0 : (k : Int) < (l.length : Int) := by omega
      have c1 : (0 : Int) ≤ (k : Int) ∧ (k : Int) < (l.length : Int) := by omega
      have w1 : w64 ((k : Int) + 1) = ((k + 1 : Nat) : Int) := by rw [w64_id (by omega) (by omega)]; omega
      obtain ⟨m, m1, m2, m3⟩ := s_poSorted_place d s l (l.length : Int) (k : Int) (by omega)
      refine ⟨?_, by rw [insD_length, hk]⟩
      have t1 : win s 0 (m - 0) = s.take m := win_take _ _
      have t2 : win (s.take m) 0 m = s.take m := by rw [win_take, List.take_take, Nat.min_self]
      have t3 : win s m (s.length - m) = s.drop m := by unfold win; rw [List.take_of_length_le (by simp)]
      have l1 : (s.take m).length = m := by simp; omega
      have l2 : (s.drop m).length = s.length - m := by simp
      have t4 : win ([] : List Dg) 0 0 = [] := rfl
      have l3 : (s.take m ++ [d]).length = m + 1 := by simp; omega
      have t5 : win (s.take m ++ [d]) 0 (m + 1) = s.take m ++ [d] := by rw [← l3]; exact win_all _
      have e : s.take m ++ [d] ++ s.drop m = insD d s := by rw [← m2]; simp
      simp only [s_poSorted_L3_step, T.run, c0, c1, decide_true, if_true, Int.toNat_natCast, Option.bind_some, and_self, hd, m3, win_one, List.replicate_zero, t1, t4, List.nil_append, l1, Nat.zero_add, t2, t3, l2, List.length_cons, List.length_nil, t5, e]
      have n1 : (0 : Int) ≤ (m : Int) := by omega
      have n2 : m - 0 ≤ s.length := by omega
      have n3 : m ≤ s.length := m1
      have n4 : 2 * ((m + 1 + (s.length - m)) * 17) ≤ 140737488355328 := by omega
      have n5 : 2 * (m * 17) ≤ 140737488355328 := by omega
      have n6 : 2 * ((m + 1) * 17) ≤ 140737488355328 := by omega
      have n7 : m + (s.length - m) ≤ s.length := by omega
      have n8 : m + 1 + (s.length - m) = s.length + 1 := by omega
      simp [n1, n2, n3, n4, n5, n6, n7, n8, w1, insD_length, l1]
      omega)
    (fun s hs => by simp [s_poSorted_L3_step, T.run])
    [] rfl
  simp only [Int.natCast_zero] at h
  simp only [s_poSorted, s_poSorted_t, T.run, s_poSorted_L3, h.1, Option.bind_some]
  simp [sortD]


end Go.Proofs.W
