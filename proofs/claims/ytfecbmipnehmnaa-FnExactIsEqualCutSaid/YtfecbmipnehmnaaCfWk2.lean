/- Functions of the program, walked, and what they compute. -/
import Derived.Test.YtfecbmipnehmnaaCfWk1
set_option linter.unusedVariables false
set_option linter.unusedSimpArgs false
set_option maxRecDepth 100000
set_option maxHeartbeats 4000000
namespace Go.Proofs.W
open Go Go.Gm Go.Proofs
open Go.RowKit Go.Shelf
def s_cuGood_sh : FSh := ⟨[(.one (.si .i64)), (.one (.sl (.pair (.int .i64) (.int .i64)) false false))], []⟩

def s_cuGood_L9_sh : LSh := ⟨(fun ex => match ex with | .norm => [(0, none), (1, none), (6, none), (19, none), (20, none), (21, none), (46, none), (47, none), (48, none)] | .exit i => if i = 2 then [(0, none), (1, none), (19, none), (20, none), (21, none)] else if i = 1 then [(0, none), (1, none), (19, none), (20, none), (21, none)] else if i = 0 then [] else [] | .ret => [(4, none)]), [(0, (.one (.si .i64))), (1, (.one (.sl (.pair (.int .i64) (.int .i64)) false false))), (6, (.one (.pf 0 0 0))), (19, (.one (.sl (.pair (.int .i64) (.int .i64)) false false))), (20, (.one (.si .i64))), (21, (.one (.si .i64))), (46, (.one (.sl (.pair (.int .i64) (.int .i64)) false false))), (47, (.one (.si .i64))), (48, (.one (.si .i64)))], [(.rcd 0 [(.si .i64), (.si .i64)])], [⟨.ret, [(4, (.one .sb))], []⟩, ⟨(.exit 2), [(0, (.one (.si .i64))), (1, (.one (.sl (.pair (.int .i64) (.int .i64)) false false))), (19, (.one (.sl (.pair (.int .i64) (.int .i64)) false false))), (20, (.one (.si .i64))), (21, (.one (.si .i64)))], []⟩], [], []⟩
noncomputable def s_cuGood_L9_step : ((Int × List ((Int × Int)) × Unit × List ((Int × Int)) × Int × Int × List ((Int × Int)) × Int × Int) × (Int × Int)) → T (((Int × List ((Int × Int)) × Unit × List ((Int × Int)) × Int × Int × List ((Int × Int)) × Int × Int) × (Int × Int)) ⊕ (Bool ⊕ (Int × List ((Int × Int)) × List ((Int × Int)) × Int × Int))) := fun ((n, ds, (), t19, t20, t21, t46, t47, t48), (d_0, d_1)) =>
  (.test (decide (t48 < t47))
  (.test (decide ((0 ≤ t48) ∧ (t48 < ((List.length t46) : Int))))
   (.sub (t46[(Int.toNat t48)]?) fun z0 =>
    (.sub (s_poCross ((d_0, d_1), (z0.1, z0.2))) fun z1 =>
    (.test z1
    (.ret (Sum.inr (Sum.inl false)))
    (.ret (Sum.inl ((n, (ds, ((), (t19, (t20, (t21, (t46, (t47, (w64 (t48 + 1)))))))))), (d_0, d_1)))))))
   .fail)
  (.ret (Sum.inr (Sum.inr (n, (ds, (t19, (t20, t21))))))))
noncomputable def s_cuGood_L9 (v : ((Int × List ((Int × Int)) × Unit × List ((Int × Int)) × Int × Int × List ((Int × Int)) × Int × Int) × (Int × Int))) : Option (Bool ⊕ (Int × List ((Int × Int)) × List ((Int × Int)) × Int × Int)) := loopO (fun v => (s_cuGood_L9_step v).run) v

def s_cuGood_L4_sh : LSh := ⟨(fun ex => match ex with | .norm => [(0, none), (1, none), (19, none), (20, none), (21, none)] | .exit i => if i = 0 then [] else [] | .ret => [(4, none)]), [(0, (.one (.si .i64))), (1, (.one (.sl (.pair (.int .i64) (.int .i64)) false false))), (19, (.one (.sl (.pair (.int .i64) (.int .i64)) false false))), (20, (.one (.si .i64))), (21, (.one (.si .i64)))], [], [⟨.ret, [(4, (.one .sb))], []⟩, ⟨(.exit 0), [], []⟩], [], []⟩
noncomputable def s_cuGood_L4_step : (Int × List ((Int × Int)) × List ((Int × Int)) × Int × Int) → T ((Int × List ((Int × Int)) × List ((Int × Int)) × Int × Int) ⊕ (Bool ⊕ Unit)) := fun (n, ds, t19, t20, t21) =>
  (.test (decide (t21 < t20))
  (.test (decide ((0 ≤ t21) ∧ (t21 < ((List.length t19) : Int))))
   (.sub (t19[(Int.toNat t21)]?) fun z0 =>
    (.sub (s_poDiagonal (n, (z0.1, z0.2))) fun z1 =>
    (.test (! z1)
    (.ret (Sum.inr (Sum.inl false)))
    (.test (decide (t21 > 0))
     (.test (decide ((0 ≤ (w64 (t21 - 1))) ∧ ((w64 (t21 - 1)) < ((List.length ds) : Int))))
      (.sub (ds[(Int.toNat (w64 (t21 - 1)))]?) fun z2 =>
       (.sub (s_poLess ((z2.1, z2.2), (z0.1, z0.2))) fun z3 =>
       (.test (! z3)
       (.ret (Sum.inr (Sum.inl false)))
       (.test (decide (0 ≤ t21))
        (.test (decide ((0 ≤ (Int.toNat t21)) ∧ ((Int.toNat t21) ≤ (List.length ds))))
         (.sub (s_cuGood_L9 ((n, (ds, ((), (t19, (t20, (t21, ((win ds 0 ((Int.toNat t21) - 0)), (((List.length (win ds 0 ((Int.toNat t21) - 0))) : Int), (0 : Int))))))))), (z0.1, z0.2))) fun z4 =>
          (.test (Sum.isLeft z4)
          (.sub (Sum.getLeft? z4) fun z5 =>
           (.ret (Sum.inr (Sum.inl z5))))
          (.sub (Sum.getRight? z4) fun z6 =>
           (.ret (Sum.inl (z6.1, (z6.2.1, (z6.2.2.1, (z6.2.2.2.1, (w64 (z6.2.2.2.2 + 1)))))))))))
         .fail)
        .fail))))
      .fail)
     (.test (decide (0 ≤ t21))
      (.test (decide ((0 ≤ (Int.toNat t21)) ∧ ((Int.toNat t21) ≤ (List.length ds))))
       (.sub (s_cuGood_L9 ((n, (ds, ((), (t19, (t20, (t21, ((win ds 0 ((Int.toNat t21) - 0)), (((List.length (win ds 0 ((Int.toNat t21) - 0))) : Int), (0 : Int))))))))), (z0.1, z0.2))) fun z7 =>
        (.test (Sum.isLeft z7)
        (.sub (Sum.getLeft? z7) fun z8 =>
         (.ret (Sum.inr (Sum.inl z8))))
        (.sub (Sum.getRight? z7) fun z9 =>
         (.ret (Sum.inl (z9.1, (z9.2.1, (z9.2.2.1, (z9.2.2.2.1, (w64 (z9.2.2.2.2 + 1)))))))))))
       .fail)
      .fail)))))
   .fail)
  (.ret (Sum.inr (Sum.inr ()))))
noncomputable def s_cuGood_L4 (v : (Int × List ((Int × Int)) × List ((Int × Int)) × Int × Int)) : Option (Bool ⊕ Unit) := loopO (fun v => (s_cuGood_L4_step v).run) v

def s_cuGood_fo : List FO := [⟨[(.one .sb)], []⟩]
noncomputable def s_cuGood_t : (Int × List ((Int × Int))) → T Bool := fun (n, ds) =>
  (.sub (s_poIs n) fun z0 =>
  (.test (! z0)
  (.ret false)
  (.test (decide (((List.length ds) : Int) > (w64 (n - 3))))
   (.ret false)
   (.sub (s_cuGood_L4 (n, (ds, (ds, (((List.length ds) : Int), (0 : Int)))))) fun z1 =>
    (.test (Sum.isLeft z1)
    (.sub (Sum.getLeft? z1) fun z2 =>
     (.ret z2))
    (.sub (Sum.getRight? z1) fun z3 =>
     (.ret true)))))))
noncomputable def s_cuGood (v : (Int × List ((Int × Int)))) : Option Bool := (s_cuGood_t v).run
noncomputable def s_cuGood_E : TEnv := ((((E0.add1 n_s_poIs s_poIs_sh s_poIs_fo s_poIs).add1 n_s_poDiagonal s_poDiagonal_sh s_poDiagonal_fo s_poDiagonal).add1 n_s_poLess s_poLess_sh s_poLess_fo s_poLess).add1 n_s_poCross s_poCross_sh s_poCross_fo s_poCross)
theorem s_cuGood_Eok : (s_cuGood_E).OK := ((((E0ok.add1 s_poIs_ok).add1 s_poDiagonal_ok).add1 s_poLess_ok).add1 s_poCross_ok)
noncomputable def s_cuGood_told : Nat → Option SealT := fun id => if id = 9 then some (LSh.told s_cuGood_L9_sh 0 (s_cuGood_L9_step)) else if id = 4 then some (LSh.told s_cuGood_L4_sh 0 (s_cuGood_L4_step)) else none
theorem s_cuGood_L9_ok : ToldOK Try.prog 0 (loopAt (bodyOf fn_s_cuGood) [0, 0]) (LSh.told s_cuGood_L9_sh 0 (s_cuGood_L9_step)) :=
  loop_ok (E := s_cuGood_E) (s_cuGood_Eok) (told := s_cuGood_told) (l := s_cuGood_L9_sh) (step := s_cuGood_L9_step) (loopsOK_of (ls := []) (by kernel_rfl) trivial) (by kernel_rfl) (fun v => by kernel_rfl)
theorem s_cuGood_L4_ok : ToldOK Try.prog 0 (loopAt (bodyOf fn_s_cuGood) [0]) (LSh.told s_cuGood_L4_sh 0 (s_cuGood_L4_step)) :=
  loop_ok (E := s_cuGood_E) (s_cuGood_Eok) (told := s_cuGood_told) (l := s_cuGood_L4_sh) (step := s_cuGood_L4_step) (loopsOK_of (ls := [loopAt (bodyOf fn_s_cuGood) [0, 0]]) (by kernel_rfl) ⟨.inr ⟨_, by kernel_rfl, s_cuGood_L9_ok⟩, trivial⟩) (by kernel_rfl) (fun v => by kernel_rfl)
theorem s_cuGood_ok : FOK Try.prog n_s_cuGood s_cuGood_sh s_cuGood_fo s_cuGood :=
  fn_ok (E := s_cuGood_E) (s_cuGood_Eok) (told := s_cuGood_told) (fl := []) (c := bodyOf fn_s_cuGood) (s := s_cuGood_sh) (l := s_cuGood_fo) (tree := s_cuGood_t) fnat_s_cuGood (by kernel_rfl) (by kernel_rfl) (by kernel_rfl) (loopsOK_of (ls := [loopAt (bodyOf fn_s_cuGood) [0]]) (by kernel_rfl) ⟨.inr ⟨_, by kernel_rfl, s_cuGood_L4_ok⟩, trivial⟩) (fun v => by kernel_rfl)

theorem s_cuGood_L9_eq (n : Int) (ds t19 xs : List Dg) (t20 t21 : Int) (d : Dg) (hl : xs.length < 4611686018427387904) :
    s_cuGood_L9 ((n, (ds, ((), (t19, (t20, (t21, (xs, ((xs.length : Int), (0 : Int))))))))), d) = some (if xs.any (crossD d) then .inl false else .inr (n, (ds, (t19, (t20, t21))))) := by
  obtain ⟨a, b⟩ := d
  have h := loop_any (step := fun v => (s_cuGood_L9_step v).run) (xs := xs) (crossD (a, b)) (fun k => ((n, (ds, ((), (t19, (t20, (t21, (xs, ((xs.length : Int), (k : Int))))))))), (a, b))) (.inl false) (.inr (n, (ds, (t19, (t20, t21)))))
    (fun k x hx => by
      have hlt := getElem?_lt hx
      have w1 : w64 ((k : Int) + 1) = ((k + 1 : Nat) : Int) := by rw [w64_id (by omega) (by omega)]; omega
      rw [s_cuGood_L9_step, T.run_test, if_pos (decide_eq_true (by omega)), T.run_test, if_pos (decide_eq_true (by omega)), T.run_sub, Int.toNat_natCast, hx, Option.bind_some, T.run_sub, s_poCross_eq, Option.bind_some, T.run_test, w1]
      cases crossD (a, b) x <;> rfl)
    (by rw [s_cuGood_L9_step, T.run_test, if_neg (by simp), T.run_ret])
  simp only [Int.natCast_zero] at h
  exact h
theorem s_cuGood_eq (n : Int) (ds : List Dg) (hl : ds.length < 4611686018427387904) : s_cuGood (n, ds) = some (isCut n ds) := by
  rw [s_cuGood, s_cuGood_t, T.run_sub, s_poIs, s_poIs_t, T.run_sub, s_l1In_eq, Option.bind_some, T.run_ret, Option.bind_some, T.run_test, isCut]
  cases hn : inB 3 12 n with
  | false => rfl
  | true =>
    rw [inB_iff] at hn
    have w3 : w64 (n - 3) = n - 3 := w64_id (by omega) (by omega)
    rw [if_neg (by simp), T.run_test, w3]
    by_cases he : (ds.length : Int) ≤ n - 3
    · have h := loop_any (step := fun v => (s_cuGood_L4_step v).run) (xs := List.range ds.length) (badT n ds) (fun k => (n, (ds, (ds, ((ds.length : Int), (k : Int)))))) (.inl false) (.inr ())
        (fun k x hx => by
          obtain ⟨hk, e⟩ := List.getElem?_eq_some_iff.1 hx
          simp only [List.getElem_range] at e
          subst e
          rw [List.length_range] at hk
          have g0 := gD_some hk
          have w1 : w64 ((k : Int) + 1) = ((k + 1 : Nat) : Int) := by rw [w64_id (by omega) (by omega)]; omega
          have tw : win ds 0 (k - 0) = ds.take k := win_take _ _
          have hcr := s_cuGood_L9_eq n ds ds (ds.take k) (ds.length : Int) (k : Int) (gD ds k) (by simp; omega)
          have hcr' : s_cuGood_L9 ((n, (ds, ((), (ds, ((ds.length : Int), ((k : Int), ((ds.take k), (((ds.take k).length : Int), (0 : Int))))))))), ((gD ds k).1, (gD ds k).2)) = _ := hcr
          have hdg : s_poDiagonal (n, ((gD ds k).1, (gD ds k).2)) = some (inDg n (gD ds k)) := s_poDiagonal_eq n (gD ds k) (by omega) (by omega)
          rw [s_cuGood_L4_step, T.run_test, if_pos (decide_eq_true (by omega)), T.run_test, if_pos (decide_eq_true (by omega)), T.run_sub, Int.toNat_natCast, g0, Option.bind_some, T.run_sub, hdg, Option.bind_some, T.run_test, badT]
          cases hd : inDg n (gD ds k) with
          | false => rfl
          | true =>
            rw [if_neg (by simp), T.run_test]
            by_cases hk0 : 0 < k
            · have w2 : w64 ((k : Int) - 1) = ((k - 1 : Nat) : Int) := by rw [w64_id (by omega) (by omega)]; omega
              have g1 := gD_some (show k - 1 < ds.length by omega)
              have hls : s_poLess (((gD ds (k - 1)).1, (gD ds (k - 1)).2), ((gD ds k).1, (gD ds k).2)) = some (ltD (gD ds (k - 1)) (gD ds k)) := s_poLess_eq _ _
              rw [if_pos (decide_eq_true (by omega)), T.run_test, w2, if_pos (decide_eq_true (by omega)), T.run_sub, Int.toNat_natCast, g1, Option.bind_some, T.run_sub, hls, Option.bind_some, T.run_test, decide_eq_true hk0]
              cases ltD (gD ds (k - 1)) (gD ds k) with
              | false => rfl
              | true =>
                rw [if_neg (by simp), T.run_test, if_pos (decide_eq_true (by omega)), T.run_test, if_pos (decide_eq_true (by omega)), T.run_sub, tw, hcr', Option.bind_some, T.run_test, ← w1]
                cases (ds.take k).any (crossD (gD ds k)) <;> rfl
            · rw [if_neg (by rw [decide_eq_true_eq]; omega), T.run_test, if_pos (decide_eq_true (by omega)), T.run_test, if_pos (decide_eq_true (by omega)), T.run_sub, tw, hcr', Option.bind_some, T.run_test, decide_eq_false hk0, ← w1]
              cases (ds.take k).any (crossD (gD ds k)) <;> rfl)
        (by rw [s_cuGood_L4_step, T.run_test, if_neg (by simp), T.run_ret])
      simp only [Int.natCast_zero] at h
      rw [if_neg (by rw [decide_eq_true_eq]; omega), T.run_sub, s_cuGood_L4, h, Option.bind_some, T.run_test, decide_eq_true he]
      cases (List.range ds.length).any (badT n ds) <;> rfl
    · rw [if_pos (decide_eq_true (by omega)), T.run_ret, decide_eq_false he]
      rfl


def s_poJoined_sh : FSh := ⟨[(.one (.si .i64)), (.one (.sl (.pair (.int .i64) (.int .i64)) false false)), (.one (.si .i64)), (.one (.si .i64))], []⟩

def s_poJoined_L4_sh : LSh := ⟨(fun ex => match ex with | .norm => [(2, none), (3, none), (23, none), (24, none), (25, none)] | .exit i => if i = 0 then [] else [] | .ret => [(8, none)]), [(2, (.one (.si .i64))), (3, (.one (.si .i64))), (23, (.one (.sl (.pair (.int .i64) (.int .i64)) false false))), (24, (.one (.si .i64))), (25, (.one (.si .i64)))], [], [⟨.ret, [(8, (.one .sb))], []⟩, ⟨(.exit 0), [], []⟩], [], []⟩
noncomputable def s_poJoined_L4_step : (Int × Int × List ((Int × Int)) × Int × Int) → T ((Int × Int × List ((Int × Int)) × Int × Int) ⊕ (Bool ⊕ Unit)) := fun (a, b, t23, t24, t25) =>
  (.test (decide (t25 < t24))
  (.test (decide ((0 ≤ t25) ∧ (t25 < ((List.length t23) : Int))))
   (.sub (t23[(Int.toNat t25)]?) fun z0 =>
    (.test (z0.1 == a)
    (.test (z0.2 == b)
     (.ret (Sum.inr (Sum.inl true)))
     (.ret (Sum.inl (a, (b, (t23, (t24, (w64 (t25 + 1)))))))))
    (.ret (Sum.inl (a, (b, (t23, (t24, (w64 (t25 + 1))))))))))
   .fail)
  (.ret (Sum.inr (Sum.inr ()))))
noncomputable def s_poJoined_L4 (v : (Int × Int × List ((Int × Int)) × Int × Int)) : Option (Bool ⊕ Unit) := loopO (fun v => (s_poJoined_L4_step v).run) v

def s_poJoined_fo : List FO := [⟨[(.one .sb)], []⟩]
noncomputable def s_poJoined_t : (Int × List ((Int × Int)) × Int × Int) → T Bool := fun (n, ds, a, b) =>
  (.test ((w64 (b - a)) == 1)
  (.ret true)
  (.test ((w64 (b - a)) == (w64 (n - 1)))
   (.ret true)
   (.sub (s_poJoined_L4 (a, (b, (ds, (((List.length ds) : Int), (0 : Int)))))) fun z0 =>
    (.test (Sum.isLeft z0)
    (.sub (Sum.getLeft? z0) fun z1 =>
     (.ret z1))
    (.sub (Sum.getRight? z0) fun z2 =>
     (.ret false))))))
noncomputable def s_poJoined (v : (Int × List ((Int × Int)) × Int × Int)) : Option Bool := (s_poJoined_t v).run
noncomputable def s_poJoined_E : TEnv := E0
theorem s_poJoined_Eok : (s_poJoined_E).OK := E0ok
noncomputable def s_poJoined_told : Nat → Option SealT := fun id => if id = 4 then some (LSh.told s_poJoined_L4_sh 0 (s_poJoined_L4_step)) else none
theorem s_poJoined_L4_ok : ToldOK Try.prog 0 (loopAt (bodyOf fn_s_poJoined) [0]) (LSh.told s_poJoined_L4_sh 0 (s_poJoined_L4_step)) :=
  loop_ok (E := s_poJoined_E) (s_poJoined_Eok) (told := s_poJoined_told) (l := s_poJoined_L4_sh) (step := s_poJoined_L4_step) (loopsOK_of (ls := []) (by kernel_rfl) trivial) (by kernel_rfl) (fun v => by kernel_rfl)
theorem s_poJoined_ok : FOK Try.prog n_s_poJoined s_poJoined_sh s_poJoined_fo s_poJoined :=
  fn_ok (E := s_poJoined_E) (s_poJoined_Eok) (told := s_poJoined_told) (fl := []) (c := bodyOf fn_s_poJoined) (s := s_poJoined_sh) (l := s_poJoined_fo) (tree := s_poJoined_t) fnat_s_poJoined (by kernel_rfl) (by kernel_rfl) (by kernel_rfl) (loopsOK_of (ls := [loopAt (bodyOf fn_s_poJoined) [0]]) (by kernel_rfl) ⟨.inr ⟨_, by kernel_rfl, s_poJoined_L4_ok⟩, trivial⟩) (fun v => by kernel_rfl)

theorem s_poJoined_eq (n : Nat) (ds : List Dg) (a b : Int) (hn : n ≤ 12) (ha : 0 ≤ a ∧ a ≤ 12) (hb : 0 ≤ b ∧ b ≤ 12) (hl : ds.length < 1000000) : s_poJoined ((n : Int), (ds, (a, b))) = some (joinD n ds a b) := by
  have w1 : w64 (b - a) = b - a := w64_id (by omega) (by omega)
  have w2 : w64 ((n : Int) - 1) = (n : Int) - 1 := w64_id (by omega) (by omega)
  have h := loop_any (step := fun v => (s_poJoined_L4_step v).run) (xs := ds) (fun d => decide ((a, b) = d)) (fun k => (a, (b, (ds, ((ds.length : Int), (k : Int)))))) (.inl true) (.inr ())
    (fun k x hx => by
      have hlt := getElem?_lt hx
      obtain ⟨x, y⟩ := x
      have w1 : w64 ((k : Int) + 1) = ((k + 1 : Nat) : Int) := by rw [w64_id (by omega) (by omega)]; omega
      rw [s_poJoined_L4_step, T.run_test, if_pos (decide_eq_true (by omega)), T.run_test, if_pos (decide_eq_true (by omega)), T.run_sub, Int.toNat_natCast, hx, Option.bind_some, T.run_test, w1]
      by_cases c1 : x = a
      · subst c1
        rw [if_pos (by simp), T.run_test]
        by_cases c2 : y = b
        · subst c2
          rw [if_pos (by simp), T.run_ret]
          simp
        · rw [if_neg (by simpa using c2), T.run_ret, if_neg (by simp; exact fun e => c2 e.symm)]
      · rw [if_neg (by simpa using c1), T.run_ret, if_neg (by simp; exact fun e => absurd e.symm c1)])
    (by rw [s_poJoined_L4_step, T.run_test, if_neg (by simp), T.run_ret])
  simp only [Int.natCast_zero] at h
  have e : ds.any (fun d => decide ((a, b) = d)) = decide ((a, b) ∈ ds) := by
    rw [Bool.eq_iff_iff, List.any_eq_true, decide_eq_true_eq]
    constructor
    · rintro ⟨d, hd, e⟩; rw [decide_eq_true_eq] at e; rw [e]; exact hd
    · exact fun h => ⟨_, h, by simp⟩
  rw [s_poJoined, s_poJoined_t, T.run_test, w1, w2, joinD]
  by_cases c1 : b - a = 1
  · rw [if_pos (by simpa using c1), T.run_ret, decide_eq_true c1]; rfl
  · rw [if_neg (by simpa using c1), T.run_test, decide_eq_false c1]
    by_cases c2 : b - a = (n : Int) - 1
    · rw [if_pos (by simpa using c2), T.run_ret, decide_eq_true c2]; rfl
    · rw [if_neg (by simpa using c2), T.run_sub, s_poJoined_L4, h, Option.bind_some, T.run_test, decide_eq_false c2, e]
      cases decide ((a, b) ∈ ds) <;> rfl


def s_cuLess_sh : FSh := ⟨[(.one (.sl (.int .i64) false false)), (.one (.sl (.int .i64) false false))], []⟩

def s_cuLess_L2_sh : LSh := ⟨(fun ex => match ex with | .norm => [(0, none), (1, none), (5, none)] | .exit i => if i = 0 then [(0, none), (1, none)] else [] | .ret => [(4, none)]), [(0, (.one (.sl (.int .i64) false false))), (1, (.one (.sl (.int .i64) false false))), (5, (.one (.si .i64)))], [], [⟨.ret, [(4, (.one .sb))], []⟩, ⟨(.exit 0), [(0, (.one (.sl (.int .i64) false false))), (1, (.one (.sl (.int .i64) false false)))], []⟩], [], []⟩
noncomputable def s_cuLess_L2_step : (List (Int) × List (Int) × Int) → T ((List (Int) × List (Int) × Int) ⊕ (Bool ⊕ (List (Int) × List (Int)))) := fun (a, b, i) =>
  (.test (decide (i < ((List.length a) : Int)))
  (.test (decide (i < ((List.length b) : Int)))
   (.test (decide ((0 ≤ i) ∧ (i < ((List.length a) : Int))))
    (.sub (a[(Int.toNat i)]?) fun z0 =>
     (.test (decide ((0 ≤ i) ∧ (i < ((List.length b) : Int))))
     (.sub (b[(Int.toNat i)]?) fun z1 =>
      (.test (z0 != z1)
      (.test (decide ((0 ≤ i) ∧ (i < ((List.length a) : Int))))
       (.sub (a[(Int.toNat i)]?) fun z2 =>
        (.test (decide ((0 ≤ i) ∧ (i < ((List.length b) : Int))))
        (.sub (b[(Int.toNat i)]?) fun z3 =>
         (.ret (Sum.inr (Sum.inl (decide (z2 < z3))))))
        .fail))
       .fail)
      (.ret (Sum.inl (a, (b, (w64 (i + 1))))))))
     .fail))
    .fail)
   (.ret (Sum.inr (Sum.inr (a, b)))))
  (.ret (Sum.inr (Sum.inr (a, b)))))
noncomputable def s_cuLess_L2 (v : (List (Int) × List (Int) × Int)) : Option (Bool ⊕ (List (Int) × List (Int))) := loopO (fun v => (s_cuLess_L2_step v).run) v

def s_cuLess_fo : List FO := [⟨[(.one .sb)], []⟩]
noncomputable def s_cuLess_t : (List (Int) × List (Int)) → T Bool := fun (a, b) =>
  (.sub (s_cuLess_L2 (a, (b, (0 : Int)))) fun z0 =>
  (.test (Sum.isLeft z0)
  (.sub (Sum.getLeft? z0) fun z1 =>
   (.ret z1))
  (.sub (Sum.getRight? z0) fun z2 =>
   (.ret (decide (((List.length z2.1) : Int) < ((List.length z2.2) : Int)))))))
noncomputable def s_cuLess (v : (List (Int) × List (Int))) : Option Bool := (s_cuLess_t v).run
noncomputable def s_cuLess_E : TEnv := E0
theorem s_cuLess_Eok : (s_cuLess_E).OK := E0ok
noncomputable def s_cuLess_told : Nat → Option SealT := fun id => if id = 2 then some (LSh.told s_cuLess_L2_sh 0 (s_cuLess_L2_step)) else none
theorem s_cuLess_L2_ok : ToldOK Try.prog 0 (loopAt (bodyOf fn_s_cuLess) [0]) (LSh.told s_cuLess_L2_sh 0 (s_cuLess_L2_step)) :=
  loop_ok (E := s_cuLess_E) (s_cuLess_Eok) (told := s_cuLess_told) (l := s_cuLess_L2_sh) (step := s_cuLess_L2_step) (loopsOK_of (ls := []) (by kernel_rfl) trivial) (by kernel_rfl) (fun v => by kernel_rfl)
theorem s_cuLess_ok : FOK Try.prog n_s_cuLess s_cuLess_sh s_cuLess_fo s_cuLess :=
  fn_ok (E := s_cuLess_E) (s_cuLess_Eok) (told := s_cuLess_told) (fl := []) (c := bodyOf fn_s_cuLess) (s := s_cuLess_sh) (l := s_cuLess_fo) (tree := s_cuLess_t) fnat_s_cuLess (by kernel_rfl) (by kernel_rfl) (by kernel_rfl) (loopsOK_of (ls := [loopAt (bodyOf fn_s_cuLess) [0]]) (by kernel_rfl) ⟨.inr ⟨_, by kernel_rfl, s_cuLess_L2_ok⟩, trivial⟩) (fun v => by kernel_rfl)

theorem s_cuLess_loop (a b : List Int) (ha : a.length < 1000000) (hb : b.length < 1000000) : ∀ (m i : Nat), i + m = a.length → a.take i = b.take i → i ≤ b.length → ∃ r, s_cuLess_L2 (a, (b, (i : Int))) = some r ∧ ((∃ v, r = .inl v ∧ v = ltL (a.drop i) (b.drop i)) ∨ (r = .inr (a, b) ∧ decide ((a.length : Int) < (b.length : Int)) = ltL (a.drop i) (b.drop i))) := by
  intro m
  induction m with
  | zero =>
    intro i hi ht hib
    refine ⟨.inr (a, b), ?_, .inr ⟨rfl, ?_⟩⟩
    · simp only [s_cuLess_L2]
      refine loopO_done ?_
      rw [s_cuLess_L2_step, T.run_test, if_neg (by rw [decide_eq_true_eq]; omega), T.run_ret]
    · rw [List.drop_eq_nil_of_le (by omega : a.length ≤ i)]
      by_cases c : i = b.length
      · rw [List.drop_eq_nil_of_le (by omega : b.length ≤ i)]
        rw [ltL, decide_eq_false (by omega)]
      · rw [List.drop_eq_getElem_cons (show i < b.length by omega), ltL, decide_eq_true (by omega)]
  | succ m ih =>
    intro i hi ht hib
    have hia : i < a.length := by omega
    by_cases c : i < b.length
    · have w1 : w64 ((i : Int) + 1) = ((i + 1 : Nat) : Int) := by rw [w64_id (by omega) (by omega)]; omega
      have st : ∀ z : T ((List Int × List Int × Int) ⊕ (Bool ⊕ (List Int × List Int))), True := fun _ => trivial
      rw [List.drop_eq_getElem_cons hia, List.drop_eq_getElem_cons c, ltL]
      by_cases e : a[i] = b[i]
      · obtain ⟨r, h1, h2⟩ := ih (i + 1) (by omega) (by rw [List.take_add_one, List.take_add_one, ht, List.getElem?_eq_getElem hia, List.getElem?_eq_getElem c, e]) (by omega)
        refine ⟨r, ?_, ?_⟩
        · simp only [s_cuLess_L2] at h1 ⊢
          rw [← h1]
          refine loopO_next ?_
          rw [s_cuLess_L2_step, T.run_test, if_pos (decide_eq_true (by omega)), T.run_test, if_pos (decide_eq_true (by omega)), T.run_test, if_pos (decide_eq_true (by omega)), T.run_sub, Int.toNat_natCast, List.getElem?_eq_getElem hia, Option.bind_some, T.run_test, if_pos (decide_eq_true (by omega)), T.run_sub, List.getElem?_eq_getElem c, Option.bind_some, T.run_test, if_neg (by simp [e]), T.run_ret, w1]
        · rw [if_neg (by omega), if_neg (by omega)]
          exact h2
      · refine ⟨.inl (decide (a[i] < b[i])), ?_, .inl ⟨_, rfl, ?_⟩⟩
        · simp only [s_cuLess_L2]
          refine loopO_done ?_
          rw [s_cuLess_L2_step, T.run_test, if_pos (decide_eq_true (by omega)), T.run_test, if_pos (decide_eq_true (by omega)), T.run_test, if_pos (decide_eq_true (by omega)), T.run_sub, Int.toNat_natCast, List.getElem?_eq_getElem hia, Option.bind_some, T.run_test, if_pos (decide_eq_true (by omega)), T.run_sub, List.getElem?_eq_getElem c, Option.bind_some, T.run_test, if_pos (by simpa using e),
            T.run_test, if_pos (decide_eq_true (by omega)), T.run_sub, Option.bind_some, T.run_test, if_pos (decide_eq_true (by omega)), T.run_sub, Option.bind_some, T.run_ret]
        · by_cases c2 : a[i] < b[i]
          · rw [if_pos c2, decide_eq_true c2]
          · rw [if_neg c2, if_pos (by omega), decide_eq_false c2]
    · refine ⟨.inr (a, b), ?_, .inr ⟨rfl, ?_⟩⟩
      · simp only [s_cuLess_L2]
        refine loopO_done ?_
        rw [s_cuLess_L2_step, T.run_test, if_pos (decide_eq_true (by omega)), T.run_test, if_neg (by rw [decide_eq_true_eq]; omega), T.run_ret]
      · rw [List.drop_eq_getElem_cons hia, List.drop_eq_nil_of_le (by omega : b.length ≤ i), ltL, decide_eq_false (by omega)]
theorem s_cuLess_eq (a b : List Int) (ha : a.length < 1000000) (hb : b.length < 1000000) : s_cuLess (a, b) = some (ltL a b) := by
  obtain ⟨r, h1, h2⟩ := s_cuLess_loop a b ha hb a.length 0 (by omega) rfl (by omega)
  rw [Int.natCast_zero] at h1
  rw [s_cuLess, s_cuLess_t, T.run_sub, h1, Option.bind_some, T.run_test]
  rcases h2 with ⟨v, rfl, hv⟩ | ⟨rfl, hv⟩
  · rw [if_pos (by simp), T.run_sub]
    simp only [List.drop_zero] at hv
    rw [← hv]; rfl
  · rw [if_neg (by simp), T.run_sub]
    simp only [List.drop_zero] at hv
    rw [← hv]; rfl

/-- The reference's insertion. -/
def insF (out : List (List Int)) (q : List Int) : List (List Int) := out.takeWhile (fun p => ltL p q) ++ q :: out.dropWhile (fun p => ltL p q)
theorem insF_perm (out : List (List Int)) (q : List Int) : (insF out q).Perm (q :: out) := by
  unfold insF
  have h := List.perm_middle (a := q) (l₁ := out.takeWhile fun p => ltL p q) (l₂ := out.dropWhile fun p => ltL p q)
  rwa [List.takeWhile_append_dropWhile] at h
theorem insF_up (q : List Int) : ∀ {out : List (List Int)}, (out.Pairwise fun a b => leL a b = true) → (insF out q).Pairwise fun a b => leL a b = true
  | [], _ => by simp [insF]
  | p :: t, h => by
    rw [List.pairwise_cons] at h
    obtain ⟨h1, h2⟩ := h
    cases c : ltL p q with
    | true =>
      have e : insF (p :: t) q = p :: insF t q := by simp [insF, c]
      rw [e, List.pairwise_cons]
      refine ⟨fun b hb => ?_, insF_up q h2⟩
      rcases List.mem_cons.1 ((insF_perm t q).mem_iff.1 hb) with rfl | hb
      · unfold leL
        cases c2 : ltL b p with
        | false => rfl
        | true => have := ltL_trans c c2; rw [ltL_irr] at this; cases this
      · exact h1 b hb
    | false =>
      have e : insF (p :: t) q = q :: p :: t := by simp [insF, c]
      have hq : leL q p = true := by unfold leL; rw [c]; rfl
      rw [e, List.pairwise_cons]
      refine ⟨fun b hb => ?_, List.pairwise_cons.2 ⟨h1, h2⟩⟩
      rcases List.mem_cons.1 hb with rfl | hb
      · exact hq
      · exact leL_trans hq (h1 b hb)
theorem insF_all : ∀ (l out : List (List Int)), (out.Pairwise fun a b => leL a b = true) → ((l.foldl insF out).Pairwise fun a b => leL a b = true) ∧ (l.foldl insF out).Perm (out ++ l)
  | [], out, h => ⟨h, by simp⟩
  | q :: l, out, h => by
    obtain ⟨h1, h2⟩ := insF_all l (insF out q) (insF_up q h)
    refine ⟨h1, h2.trans ?_⟩
    exact ((insF_perm out q).append_right l).trans (by simpa using (List.perm_middle (a := q) (l₁ := out) (l₂ := l)).symm)
theorem insF_sortL (l : List (List Int)) : l.foldl insF [] = sortL l := by
  obtain ⟨h1, h2⟩ := insF_all l [] (by simp)
  exact sortL_unique h1 (by rwa [List.nil_append] at h2)
theorem insF_len (out : List (List Int)) (q : List Int) : (insF out q).length = out.length + 1 := (insF_perm out q).length_eq
theorem insF_idx {α : Type} (f : α → Bool) : ∀ (l : List α), ∃ k, k ≤ l.length ∧ l.takeWhile f = l.take k ∧ l.dropWhile f = l.drop k ∧ (∀ p (h : p < l.length), p < k → f l[p] = true) ∧ ∀ (h : k < l.length), f l[k] = false
  | [] => ⟨0, by simp, rfl, rfl, fun p h => by simp at h, fun h => by simp at h⟩
  | a :: l => by
    cases c : f a with
    | false => exact ⟨0, by simp, by simp [c], by simp [c], fun p h h2 => by omega, fun h => c⟩
    | true =>
      obtain ⟨k, h1, h2, h3, h4, h5⟩ := insF_idx f l
      refine ⟨k + 1, by simp [h1], by simp [c, h2], by simp [c, h3], fun p h hp => ?_, fun h => ?_⟩
      · cases p with
        | zero => exact c
        | succ p => exact h4 p (by simpa using h) (by omega)
      · exact h5 (by simpa using h)


def s_cuSorted_sh : FSh := ⟨[(.one (.sl (.list true (.int .i64)) false false))], []⟩

def s_cuSorted_L6_sh : LSh := ⟨(fun ex => match ex with | .norm => [(3, none), (5, none), (6, none), (8, none), (9, none), (10, none)] | .exit i => if i = 2 then [(3, none), (5, none), (6, none), (8, none), (9, none), (10, none)] else if i = 1 then [(3, none), (8, none), (9, none), (10, none)] else if i = 0 then [(3, none)] else [] | .ret => [(2, none)]), [(3, (.one (.rw 0 0))), (5, (.one (.sl (.int .i64) false true))), (6, (.one (.si .i64))), (8, (.one (.sl (.list true (.int .i64)) false false))), (9, (.one (.si .i64))), (10, (.one (.si .i64)))], [(.row 0 (.list true (.int .i64)))], [⟨(.exit 2), [(3, (.one (.rw 0 0))), (5, (.one (.sl (.int .i64) false true))), (6, (.one (.si .i64))), (8, (.one (.sl (.list true (.int .i64)) false false))), (9, (.one (.si .i64))), (10, (.one (.si .i64)))], [(.row 0 (.list true (.int .i64)))]⟩], [], []⟩
noncomputable def s_cuSorted_L6_step : ((Unit × List (Int) × Int × List (List (Int)) × Int × Int) × List (List (Int))) → T (((Unit × List (Int) × Int × List (List (Int)) × Int × Int) × List (List (Int))) ⊕ ((Unit × List (Int) × Int × List (List (Int)) × Int × Int) × List (List (Int)))) := fun (((), x, k, t8, t9, t10), out) =>
  (.test (decide (k < ((List.length out) : Int)))
  (.test (decide ((0 ≤ k) ∧ (k < ((List.length out) : Int))))
   (.sub (out[(0 + (Int.toNat k))]?) fun z0 =>
    (.sub (s_cuLess (z0, x)) fun z1 =>
    (.test z1
    (.test (decide ((0 = 0) ∧ ((List.length out) = (List.length out))))
     (.ret (Sum.inl (((), (x, ((w64 (k + 1)), (t8, (t9, t10))))), out)))
     .fail)
    (.test (decide ((0 = 0) ∧ ((List.length out) = (List.length out))))
     (.ret (Sum.inr (((), (x, (k, (t8, (t9, t10))))), out)))
     .fail))))
   .fail)
  (.test (decide ((0 = 0) ∧ ((List.length out) = (List.length out))))
   (.ret (Sum.inr (((), (x, (k, (t8, (t9, t10))))), out)))
   .fail))
noncomputable def s_cuSorted_L6 (v : ((Unit × List (Int) × Int × List (List (Int)) × Int × Int) × List (List (Int)))) : Option ((Unit × List (Int) × Int × List (List (Int)) × Int × Int) × List (List (Int))) := loopO (fun v => (s_cuSorted_L6_step v).run) v

def s_cuSorted_L3_sh : LSh := ⟨(fun ex => match ex with | .norm => [(3, none), (8, none), (9, none), (10, none)] | .exit i => if i = 0 then [(3, none)] else [] | .ret => [(2, none)]), [(3, (.one (.rw 0 0))), (8, (.one (.sl (.list true (.int .i64)) false false))), (9, (.one (.si .i64))), (10, (.one (.si .i64)))], [(.row 0 (.list true (.int .i64)))], [⟨(.exit 0), [(3, (.one (.rw 0 0)))], [(.row 0 (.list true (.int .i64)))]⟩], [], []⟩
noncomputable def s_cuSorted_L3_step : ((Unit × List (List (Int)) × Int × Int) × List (List (Int))) → T (((Unit × List (List (Int)) × Int × Int) × List (List (Int))) ⊕ (Unit × List (List (Int)))) := fun (((), t8, t9, t10), out) =>
  (.test (decide (t10 < t9))
  (.test (decide ((0 ≤ t10) ∧ (t10 < ((List.length t8) : Int))))
   (.sub (t8[(Int.toNat t10)]?) fun z0 =>
    (.test (decide ((0 = 0) ∧ ((List.length out) = (List.length out))))
    (.sub (s_cuSorted_L6 (((), (z0, ((0 : Int), (t8, (t9, t10))))), out)) fun z1 =>
     (.test (decide (0 ≤ z1.1.2.2.1))
     (.test (decide ((0 ≤ (Int.toNat z1.1.2.2.1)) ∧ ((Int.toNat z1.1.2.2.1) ≤ (List.length z1.2))))
      (.test (decide ((0 + ((Int.toNat z1.1.2.2.1) - 0)) ≤ (List.length z1.2)))
       (.test true
        (.test (decide ((2 * ((0 + (List.length (win z1.2 0 ((Int.toNat z1.1.2.2.1) - 0)))) * 25)) ≤ 140737488355328))
         (.test (decide (1 ≤ (List.length (List.set (List.replicate 1 ([] : List (Int))) 0 z1.1.2.1))))
          (.test (decide ((0 + (0 + (List.length (win z1.2 0 ((Int.toNat z1.1.2.2.1) - 0))))) ≤ (List.length ((win (List.replicate 0 ([] : List (Int))) 0 0) ++ (win z1.2 0 ((Int.toNat z1.1.2.2.1) - 0))))))
           (.test (decide ((2 * (((0 + (List.length (win z1.2 0 ((Int.toNat z1.1.2.2.1) - 0)))) + (List.length (win (List.set (List.replicate 1 ([] : List (Int))) 0 z1.1.2.1) 0 1))) * 25)) ≤ 140737488355328))
            (.test (decide (0 ≤ z1.1.2.2.1))
             (.test (decide (((Int.toNat z1.1.2.2.1) ≤ (List.length z1.2)) ∧ ((List.length z1.2) ≤ (List.length z1.2))))
              (.test (decide (((0 + (Int.toNat z1.1.2.2.1)) + ((List.length z1.2) - (Int.toNat z1.1.2.2.1))) ≤ (List.length z1.2)))
               (.test (decide ((0 + ((0 + (List.length (win z1.2 0 ((Int.toNat z1.1.2.2.1) - 0)))) + (List.length (win (List.set (List.replicate 1 ([] : List (Int))) 0 z1.1.2.1) 0 1)))) ≤ (List.length ((win ((win (List.replicate 0 ([] : List (Int))) 0 0) ++ (win z1.2 0 ((Int.toNat z1.1.2.2.1) - 0))) 0 (0 + (List.length (win z1.2 0 ((Int.toNat z1.1.2.2.1) - 0))))) ++ (win (List.set (List.replicate 1 ([] : List (Int))) 0 z1.1.2.1) 0 1)))))
                (.test (decide ((2 * ((((0 + (List.length (win z1.2 0 ((Int.toNat z1.1.2.2.1) - 0)))) + (List.length (win (List.set (List.replicate 1 ([] : List (Int))) 0 z1.1.2.1) 0 1))) + (List.length (win z1.2 (0 + (Int.toNat z1.1.2.2.1)) ((List.length z1.2) - (Int.toNat z1.1.2.2.1))))) * 25)) ≤ 140737488355328))
                 (.test (decide ((0 = 0) ∧ ((((0 + (List.length (win z1.2 0 ((Int.toNat z1.1.2.2.1) - 0)))) + (List.length (win (List.set (List.replicate 1 ([] : List (Int))) 0 z1.1.2.1) 0 1))) + (List.length (win z1.2 (0 + (Int.toNat z1.1.2.2.1)) ((List.length z1.2) - (Int.toNat z1.1.2.2.1))))) = (List.length ((win ((win ((win (List.replicate 0 ([] : List (Int))) 0 0) ++ (win z1.2 0 ((Int.toNat z1.1.2.2.1) - 0))) 0 (0 + (List.length (win z1.2 0 ((Int.toNat z1.1.2.2.1) - 0))))) ++ (win (List.set (List.replicate 1 ([] : List (Int))) 0 z1.1.2.1) 0 1)) 0 ((0 + (List.length (win z1.2 0 ((Int.toNat z1.1.2.2.1) - 0)))) + (List.length (win (List.set (List.replicate 1 ([] : List (Int))) 0 z1.1.2.1) 0 1)))) ++ (win z1.2 (0 + (Int.toNat z1.1.2.2.1)) ((List.length z1.2) - (Int.toNat z1.1.2.2.1))))))))
                  (.ret (Sum.inl (((), (z1.1.2.2.2.1, (z1.1.2.2.2.2.1, (w64 (z1.1.2.2.2.2.2 + 1))))), ((win ((win ((win (List.replicate 0 ([] : List (Int))) 0 0) ++ (win z1.2 0 ((Int.toNat z1.1.2.2.1) - 0))) 0 (0 + (List.length (win z1.2 0 ((Int.toNat z1.1.2.2.1) - 0))))) ++ (win (List.set (List.replicate 1 ([] : List (Int))) 0 z1.1.2.1) 0 1)) 0 ((0 + (List.length (win z1.2 0 ((Int.toNat z1.1.2.2.1) - 0)))) + (List.length (win (List.set (List.replicate 1 ([] : List (Int))) 0 z1.1.2.1) 0 1)))) ++ (win z1.2 (0 + (Int.toNat z1.1.2.2.1)) ((List.length z1.2) - (Int.toNat z1.1.2.2.1)))))))
                  .fail)
                 .fail)
                .fail)
               .fail)
              .fail)
             .fail)
            .fail)
           .fail)
          .fail)
         .fail)
        .fail)
       .fail)
      .fail)
     .fail))
    .fail))
   .fail)
  (.test (decide ((0 = 0) ∧ ((List.length out) = (List.length out))))
   (.ret (Sum.inr ((), out)))
   .fail))
noncomputable def s_cuSorted_L3 (v : ((Unit × List (List (Int)) × Int × Int) × List (List (Int)))) : Option (Unit × List (List (Int))) := loopO (fun v => (s_cuSorted_L3_step v).run) v

def s_cuSorted_fo : List FO := [⟨[(.one (.rw 0 0))], [(.row 0 (.list true (.int .i64)))]⟩]
noncomputable def s_cuSorted_t : List (List (Int)) → T (Unit × List (List (Int))) := fun list =>
  (.test true
  (.sub (s_cuSorted_L3 (((), (list, (((List.length list) : Int), (0 : Int)))), ([] : List (List Int)))) fun z0 =>
   (.test (decide ((0 = 0) ∧ ((List.length z0.2) = (List.length z0.2))))
   (.ret ((), z0.2))
   .fail))
  .fail)
noncomputable def s_cuSorted (v : List (List (Int))) : Option (Unit × List (List (Int))) := (s_cuSorted_t v).run
noncomputable def s_cuSorted_E : TEnv := (E0.add1 n_s_cuLess s_cuLess_sh s_cuLess_fo s_cuLess)
theorem s_cuSorted_Eok : (s_cuSorted_E).OK := (E0ok.add1 s_cuLess_ok)
noncomputable def s_cuSorted_told : Nat → Option SealT := fun id => if id = 6 then some (LSh.told s_cuSorted_L6_sh 0 (s_cuSorted_L6_step)) else if id = 3 then some (LSh.told s_cuSorted_L3_sh 0 (s_cuSorted_L3_step)) else none
theorem s_cuSorted_L6_ok : ToldOK Try.prog 0 (loopAt (bodyOf fn_s_cuSorted) [0, 0]) (LSh.told s_cuSorted_L6_sh 0 (s_cuSorted_L6_step)) :=
  loop_ok (E := s_cuSorted_E) (s_cuSorted_Eok) (told := s_cuSorted_told) (l := s_cuSorted_L6_sh) (step := s_cuSorted_L6_step) (loopsOK_of (ls := []) (by kernel_rfl) trivial) (by kernel_rfl) (fun v => by kernel_rfl)
theorem s_cuSorted_L3_ok : ToldOK Try.prog 0 (loopAt (bodyOf fn_s_cuSorted) [0]) (LSh.told s_cuSorted_L3_sh 0 (s_cuSorted_L3_step)) :=
  loop_ok (E := s_cuSorted_E) (s_cuSorted_Eok) (told := s_cuSorted_told) (l := s_cuSorted_L3_sh) (step := s_cuSorted_L3_step) (loopsOK_of (ls := [loopAt (bodyOf fn_s_cuSorted) [0, 0]]) (by kernel_rfl) ⟨.inr ⟨_, by kernel_rfl, s_cuSorted_L6_ok⟩, trivial⟩) (by kernel_rfl) (fun v => by kernel_rfl)
theorem s_cuSorted_ok : FOK Try.prog n_s_cuSorted s_cuSorted_sh s_cuSorted_fo s_cuSorted :=
  fn_ok (E := s_cuSorted_E) (s_cuSorted_Eok) (told := s_cuSorted_told) (fl := []) (c := bodyOf fn_s_cuSorted) (s := s_cuSorted_sh) (l := s_cuSorted_fo) (tree := s_cuSorted_t) fnat_s_cuSorted (by kernel_rfl) (by kernel_rfl) (by kernel_rfl) (loopsOK_of (ls := [loopAt (bodyOf fn_s_cuSorted) [0]]) (by kernel_rfl) ⟨.inr ⟨_, by kernel_rfl, s_cuSorted_L3_ok⟩, trivial⟩) (fun v => by kernel_rfl)

theorem s_cuSorted_L6_eq (x : List Int) (t8 : List (List Int)) (t9 t10 : Int) (out : List (List Int)) (K : Nat) (hx : x.length < 1000000) (ho : ∀ p ∈ out, p.length < 1000000) (hl : out.length < 1000000)
    (hK : K ≤ out.length) (k4 : ∀ p (h : p < out.length), p < K → ltL out[p] x = true) (k5 : ∀ (h : K < out.length), ltL out[K] x = false) : ∀ (m k : Nat), k + m = out.length → k ≤ K →
    s_cuSorted_L6 (((), (x, ((k : Int), (t8, (t9, t10))))), out) = some (((), (x, ((K : Int), (t8, (t9, t10))))), out) := by
  intro m
  induction m with
  | zero =>
    intro k hk h2
    have e : K = k := by omega
    rw [e]
    simp only [s_cuSorted_L6]
    refine loopO_done ?_
    rw [s_cuSorted_L6_step, T.run_test, if_neg (by rw [decide_eq_true_eq]; omega), T.run_test, if_pos (by simp), T.run_ret]
  | succ m ih =>
    intro k hk h2
    have hlt : k < out.length := by omega
    have w1 : w64 ((k : Int) + 1) = ((k + 1 : Nat) : Int) := by rw [w64_id (by omega) (by omega)]; omega
    by_cases c : k < K
    · have hp := k4 k hlt c
      have := ih (k + 1) (by omega) (by omega)
      simp only [s_cuSorted_L6] at this ⊢
      rw [← this]
      refine loopO_next ?_
      rw [s_cuSorted_L6_step, T.run_test, if_pos (decide_eq_true (by omega)), T.run_test, if_pos (decide_eq_true (by omega)), T.run_sub, Nat.zero_add, Int.toNat_natCast, List.getElem?_eq_getElem hlt, Option.bind_some, T.run_sub, s_cuLess_eq _ _ (ho _ (List.getElem_mem hlt)) hx, Option.bind_some, T.run_test, if_pos hp, T.run_test, if_pos (by simp), T.run_ret, w1]
    · have e : K = k := by omega
      subst e
      have hp := k5 hlt
      simp only [s_cuSorted_L6]
      refine loopO_done ?_
      rw [s_cuSorted_L6_step, T.run_test, if_pos (decide_eq_true (by omega)), T.run_test, if_pos (decide_eq_true (by omega)), T.run_sub, Nat.zero_add, Int.toNat_natCast, List.getElem?_eq_getElem hlt, Option.bind_some, T.run_sub, s_cuLess_eq _ _ (ho _ (List.getElem_mem hlt)) hx, Option.bind_some, T.run_test, if_neg (by rw [hp]; simp), T.run_test, if_pos (by simp), T.run_ret]
theorem s_cuSorted_loop (l : List (List Int)) (hl : l.length < 1000) (hx : ∀ p ∈ l, p.length < 1000000) : ∀ (m i : Nat) (out : List (List Int)), i + m = l.length → out.length = i → (∀ p ∈ out, p.length < 1000000) →
    s_cuSorted_L3 (((), (l, ((l.length : Int), (i : Int)))), out) = some ((), (l.drop i).foldl insF out) := by
  intro m
  induction m with
  | zero =>
    intro i out hi ho hp
    rw [List.drop_eq_nil_of_le (by omega)]
    simp only [s_cuSorted_L3]
    refine loopO_done ?_
    rw [s_cuSorted_L3_step, T.run_test, if_neg (by rw [decide_eq_true_eq]; omega), T.run_test, if_pos (by simp), T.run_ret]
    rfl
  | succ m ih =>
    intro i out hi ho hp
    have hlt : i < l.length := by omega
    have w1 : w64 ((i : Int) + 1) = ((i + 1 : Nat) : Int) := by rw [w64_id (by omega) (by omega)]; omega
    have hxi := hx _ (List.getElem_mem hlt)
    have := ih (i + 1) (insF out l[i]) (by omega) (by rw [insF_len]; omega) (fun p hp' => by
      rcases List.mem_cons.1 ((insF_perm _ _).mem_iff.1 hp') with rfl | h
      · exact hxi
      · exact hp p h)
    obtain ⟨K, k1, k2, k3, k4, k5⟩ := insF_idx (fun p => ltL p l[i]) out
    have h6 := s_cuSorted_L6_eq l[i] l (l.length : Int) (i : Int) out K hxi hp (by omega) k1 k4 k5 out.length 0 (by omega) (by omega)
    rw [Int.natCast_zero] at h6
    have et : win out 0 (K - 0) = out.take K := by rw [win_take, Nat.sub_zero]
    have ed : win out K (out.length - K) = out.drop K := by
      unfold win
      rw [List.take_of_length_le (by simp)]
    have lA : (out.take K).length = K := by rw [List.length_take]; omega
    have lB : (out.drop K).length = out.length - K := by rw [List.length_drop]
    have ei : insF out l[i] = (out.take K ++ [l[i]]) ++ out.drop K := by unfold insF; rw [k2, k3]; simp
    rw [List.drop_eq_getElem_cons hlt, List.foldl_cons]
    generalize out.take K = A at *
    generalize out.drop K = B at *
    have hw1 : win A 0 K = A := by have := win_all A; rwa [lA] at this
    have hw2 : win (A ++ [l[i]]) 0 (K + 1) = A ++ [l[i]] := by have := win_all (A ++ [l[i]]); rwa [List.length_append, lA] at this
    have e0 : win (List.replicate 0 ([] : List Int)) 0 0 = [] := rfl
    simp only [s_cuSorted_L3] at this ⊢
    rw [← this]
    refine loopO_next ?_
    rw [s_cuSorted_L3_step, T.run_test, if_pos (decide_eq_true (by omega)), T.run_test, if_pos (decide_eq_true (by omega)), T.run_sub, Int.toNat_natCast, List.getElem?_eq_getElem hlt, Option.bind_some, T.run_test, if_pos (by simp), T.run_sub, h6, Option.bind_some]
    simp only [Int.toNat_natCast, Nat.zero_add, et, ed, e0, win_one, List.nil_append, lA, lB, hw1, hw2, List.length_append, List.length_singleton, w1]
    rw [T.run_test, if_pos (decide_eq_true (by omega)), T.run_test, if_pos (decide_eq_true (by omega)), T.run_test, if_pos (decide_eq_true (by omega)), T.run_test, if_pos rfl, T.run_test, if_pos (decide_eq_true (by omega)), T.run_test, if_pos (by simp), T.run_test, if_pos (decide_eq_true (by omega)), T.run_test, if_pos (decide_eq_true (by omega)), T.run_test, if_pos (decide_eq_true (by omega)), T.run_test, if_pos (decide_eq_true (by omega)), T.run_test, if_pos (decide_eq_true (by omega)), T.run_test, if_pos (decide_eq_true (by omega)), T.run_test, if_pos (decide_eq_true (by omega)), T.run_test, if_pos (by simp), T.run_ret, ei]
theorem s_cuSorted_eq (l : List (List Int)) (hl : l.length < 1000) (hx : ∀ p ∈ l, p.length < 1000000) : s_cuSorted l = some ((), sortL l) := by
  have h := s_cuSorted_loop l hl hx l.length 0 [] (by omega) rfl (by simp)
  rw [Int.natCast_zero, List.drop_zero, insF_sortL] at h
  rw [s_cuSorted, s_cuSorted_t, T.run_test, if_pos rfl, T.run_sub, h, Option.bind_some, T.run_test, if_pos (by simp), T.run_ret]


def s_cuPieces_sh : FSh := ⟨[(.one (.si .i64)), (.one (.sl (.pair (.int .i64) (.int .i64)) false false))], []⟩

def s_cuPieces_L16_sh : LSh := ⟨(fun ex => match ex with | .norm => [(0, none), (1, none), (5, none), (6, none), (7, none), (8, none), (9, none), (10, none), (11, none), (12, none)] | .exit i => if i = 6 then [(0, none), (1, none), (5, none), (6, none), (7, none), (8, none), (9, none), (11, none)] else if i = 5 then [(0, none), (1, none), (5, none), (6, none), (7, none), (8, none), (9, none), (10, none)] else if i = 4 then [(0, none), (1, none), (5, none), (6, none), (7, none), (8, none), (9, none)] else if i = 3 then [(0, none), (1, none), (5, none), (6, none), (7, none), (8, none)] else if i = 2 then [(0, none), (1, none), (5, none), (6, none), (7, none)] else if i = 1 then [(0, none), (1, none), (5, none), (6, none), (7, none)] else if i = 0 then [(5, none)] else [] | .ret => [(4, none)]), [(0, (.one (.si .i64))), (1, (.one (.sl (.pair (.int .i64) (.int .i64)) false false))), (5, (.one (.rw 0 0))), (6, (.one (.rw 1 0))), (7, (.one (.si .i64))), (8, (.one (.si .i64))), (9, (.one (.rw 2 0))), (10, (.one (.si .i64))), (11, (.one (.si .i64))), (12, (.one (.si .i64)))], [(.row 0 (.list true (.int .i64))), (.row 0 .bool), (.row 0 (.int .i64))], [⟨(.exit 6), [(0, (.one (.si .i64))), (1, (.one (.sl (.pair (.int .i64) (.int .i64)) false false))), (5, (.one (.rw 0 0))), (6, (.one (.rw 1 0))), (7, (.one (.si .i64))), (8, (.one (.si .i64))), (9, (.one (.rw 2 0))), (11, (.one (.si .i64)))], [(.row 0 (.list true (.int .i64))), (.row 0 .bool), (.row 0 (.int .i64))]⟩], [], []⟩
noncomputable def s_cuPieces_L16_step : ((Int × List ((Int × Int)) × Unit × Unit × Int × Int × Unit × Int × Int × Int) × (List (List (Int)) × List (Bool) × List (Int))) → T (((Int × List ((Int × Int)) × Unit × Unit × Int × Int × Unit × Int × Int × Int) × (List (List (Int)) × List (Bool) × List (Int))) ⊕ ((Int × List ((Int × Int)) × Unit × Unit × Int × Int × Unit × Int) × (List (List (Int)) × List (Bool) × List (Int)))) := fun ((n, ds, (), (), a, b, (), at', next, c), (out, seen, piece)) =>
  (.test (decide (c > at'))
  (.sub (s_poJoined (n, (ds, (at', c)))) fun z0 =>
   (.test z0
   (.test (at' != a)
    (.test (decide ((0 = 0) ∧ ((List.length out) = (List.length out))))
     (.test (decide ((0 = 0) ∧ ((List.length seen) = (List.length seen))))
      (.test (decide ((0 = 0) ∧ ((List.length piece) = (List.length piece))))
       (.ret (Sum.inr ((n, (ds, ((), ((), (a, (b, ((), c))))))), (out, (seen, piece)))))
       .fail)
      .fail)
     .fail)
    (.test (c != b)
     (.test (decide ((0 = 0) ∧ ((List.length out) = (List.length out))))
      (.test (decide ((0 = 0) ∧ ((List.length seen) = (List.length seen))))
       (.test (decide ((0 = 0) ∧ ((List.length piece) = (List.length piece))))
        (.ret (Sum.inr ((n, (ds, ((), ((), (a, (b, ((), c))))))), (out, (seen, piece)))))
        .fail)
       .fail)
      .fail)
     (.test (decide ((0 = 0) ∧ ((List.length out) = (List.length out))))
      (.test (decide ((0 = 0) ∧ ((List.length seen) = (List.length seen))))
       (.test (decide ((0 = 0) ∧ ((List.length piece) = (List.length piece))))
        (.ret (Sum.inl ((n, (ds, ((), ((), (a, (b, ((), (at', (next, (w64 (c - 1))))))))))), (out, (seen, piece)))))
        .fail)
       .fail)
      .fail)))
   (.test (decide ((0 = 0) ∧ ((List.length out) = (List.length out))))
    (.test (decide ((0 = 0) ∧ ((List.length seen) = (List.length seen))))
     (.test (decide ((0 = 0) ∧ ((List.length piece) = (List.length piece))))
      (.ret (Sum.inl ((n, (ds, ((), ((), (a, (b, ((), (at', (next, (w64 (c - 1))))))))))), (out, (seen, piece)))))
      .fail)
     .fail)
    .fail)))
  (.test (decide ((0 = 0) ∧ ((List.length out) = (List.length out))))
   (.test (decide ((0 = 0) ∧ ((List.length seen) = (List.length seen))))
    (.test (decide ((0 = 0) ∧ ((List.length piece) = (List.length piece))))
     (.ret (Sum.inr ((n, (ds, ((), ((), (a, (b, ((), next))))))), (out, (seen, piece)))))
     .fail)
    .fail)
   .fail))
noncomputable def s_cuPieces_L16 (v : ((Int × List ((Int × Int)) × Unit × Unit × Int × Int × Unit × Int × Int × Int) × (List (List (Int)) × List (Bool) × List (Int)))) : Option ((Int × List ((Int × Int)) × Unit × Unit × Int × Int × Unit × Int) × (List (List (Int)) × List (Bool) × List (Int))) := loopO (fun v => (s_cuPieces_L16_step v).run) v

def s_cuPieces_L13_sh : LSh := ⟨(fun ex => match ex with | .norm => [(0, none), (1, none), (5, none), (6, none), (7, none), (8, none), (9, none), (10, none)] | .exit i => if i = 4 then [(0, none), (1, none), (5, none), (6, none), (7, none), (8, none), (9, none)] else if i = 3 then [(0, none), (1, none), (5, none), (6, none), (7, none), (8, none)] else if i = 2 then [(0, none), (1, none), (5, none), (6, none), (7, none)] else if i = 1 then [(0, none), (1, none), (5, none), (6, none), (7, none)] else if i = 0 then [(5, none)] else [] | .ret => [(4, none)]), [(0, (.one (.si .i64))), (1, (.one (.sl (.pair (.int .i64) (.int .i64)) false false))), (5, (.one (.rw 0 0))), (6, (.one (.rw 1 0))), (7, (.one (.si .i64))), (8, (.one (.si .i64))), (9, (.one (.rw 2 0))), (10, (.one (.si .i64)))], [(.row 0 (.list true (.int .i64))), (.row 0 .bool), (.row 0 (.int .i64))], [⟨(.exit 4), [(0, (.one (.si .i64))), (1, (.one (.sl (.pair (.int .i64) (.int .i64)) false false))), (5, (.one (.rw 0 0))), (6, (.one (.rw 1 0))), (7, (.one (.si .i64))), (8, (.one (.si .i64))), (9, (.one (.rw 2 0)))], [(.row 0 (.list true (.int .i64))), (.row 0 .bool), (.row 0 (.int .i64))]⟩], [], []⟩
noncomputable def s_cuPieces_L13_step : ((Int × List ((Int × Int)) × Unit × Unit × Int × Int × Unit × Int) × (List (List (Int)) × List (Bool) × List (Int))) → T (((Int × List ((Int × Int)) × Unit × Unit × Int × Int × Unit × Int) × (List (List (Int)) × List (Bool) × List (Int))) ⊕ ((Int × List ((Int × Int)) × Unit × Unit × Int × Int × Unit) × (List (List (Int)) × List (Bool) × List (Int)))) := fun ((n, ds, (), (), a, b, (), at'), (out, seen, piece)) =>
  (.test (at' != b)
  (.test (decide ((0 = 0) ∧ ((List.length out) = (List.length out))))
   (.test (decide ((0 = 0) ∧ ((List.length seen) = (List.length seen))))
    (.test (decide ((0 = 0) ∧ ((List.length piece) = (List.length piece))))
     (.sub (s_cuPieces_L16 ((n, (ds, ((), ((), (a, (b, ((), (at', ((w64 (at' + 1)), b))))))))), (out, (seen, piece)))) fun z0 =>
      (.test (decide (1 ≤ (List.length (List.set (List.replicate 1 (0 : Int)) 0 z0.1.2.2.2.2.2.2.2))))
      (.test (decide ((0 + (List.length z0.2.2.2)) ≤ (List.length z0.2.2.2)))
       (.test (decide ((2 * (((List.length z0.2.2.2) + (List.length (win (List.set (List.replicate 1 (0 : Int)) 0 z0.1.2.2.2.2.2.2.2) 0 1))) * 9)) ≤ 140737488355328))
        (.test (decide ((0 = 0) ∧ ((List.length z0.2.1) = (List.length z0.2.1))))
         (.test (decide ((0 = 0) ∧ ((List.length z0.2.2.1) = (List.length z0.2.2.1))))
          (.test (decide ((0 = 0) ∧ (((List.length z0.2.2.2) + (List.length (win (List.set (List.replicate 1 (0 : Int)) 0 z0.1.2.2.2.2.2.2.2) 0 1))) = (List.length ((win z0.2.2.2 0 (List.length z0.2.2.2)) ++ (win (List.set (List.replicate 1 (0 : Int)) 0 z0.1.2.2.2.2.2.2.2) 0 1))))))
           (.ret (Sum.inl ((z0.1.1, (z0.1.2.1, ((), ((), (z0.1.2.2.2.2.1, (z0.1.2.2.2.2.2.1, ((), z0.1.2.2.2.2.2.2.2))))))), (z0.2.1, (z0.2.2.1, ((win z0.2.2.2 0 (List.length z0.2.2.2)) ++ (win (List.set (List.replicate 1 (0 : Int)) 0 z0.1.2.2.2.2.2.2.2) 0 1)))))))
           .fail)
          .fail)
         .fail)
        .fail)
       .fail)
      .fail))
     .fail)
    .fail)
   .fail)
  (.test (decide ((0 = 0) ∧ ((List.length out) = (List.length out))))
   (.test (decide ((0 = 0) ∧ ((List.length seen) = (List.length seen))))
    (.test (decide ((0 = 0) ∧ ((List.length piece) = (List.length piece))))
     (.ret (Sum.inr ((n, (ds, ((), ((), (a, (b, ())))))), (out, (seen, piece)))))
     .fail)
    .fail)
   .fail))
noncomputable def s_cuPieces_L13 (v : ((Int × List ((Int × Int)) × Unit × Unit × Int × Int × Unit × Int) × (List (List (Int)) × List (Bool) × List (Int)))) : Option ((Int × List ((Int × Int)) × Unit × Unit × Int × Int × Unit) × (List (List (Int)) × List (Bool) × List (Int))) := loopO (fun v => (s_cuPieces_L13_step v).run) v

def s_cuPieces_L7_sh : LSh := ⟨(fun ex => match ex with | .norm => [(0, none), (1, none), (5, none), (6, none), (7, none), (8, none)] | .exit i => if i = 2 then [(0, none), (1, none), (5, none), (6, none), (7, none)] else if i = 1 then [(0, none), (1, none), (5, none), (6, none), (7, none)] else if i = 0 then [(5, none)] else [] | .ret => [(4, none)]), [(0, (.one (.si .i64))), (1, (.one (.sl (.pair (.int .i64) (.int .i64)) false false))), (5, (.one (.rw 0 0))), (6, (.one (.rw 1 0))), (7, (.one (.si .i64))), (8, (.one (.si .i64)))], [(.row 0 (.list true (.int .i64))), (.row 0 .bool)], [⟨(.exit 2), [(0, (.one (.si .i64))), (1, (.one (.sl (.pair (.int .i64) (.int .i64)) false false))), (5, (.one (.rw 0 0))), (6, (.one (.rw 1 0))), (7, (.one (.si .i64)))], [(.row 0 (.list true (.int .i64))), (.row 0 .bool)]⟩], [], []⟩
noncomputable def s_cuPieces_L7_step : ((Int × List ((Int × Int)) × Unit × Unit × Int × Int) × (List (List (Int)) × List (Bool))) → T (((Int × List ((Int × Int)) × Unit × Unit × Int × Int) × (List (List (Int)) × List (Bool))) ⊕ ((Int × List ((Int × Int)) × Unit × Unit × Int) × (List (List (Int)) × List (Bool)))) := fun ((n, ds, (), (), a, b), (out, seen)) =>
  (.test (decide (b < n))
  (.sub (s_poJoined (n, (ds, (a, b)))) fun z0 =>
   (.test (! z0)
   (.test (decide ((0 = 0) ∧ ((List.length out) = (List.length out))))
    (.test (decide ((0 = 0) ∧ ((List.length seen) = (List.length seen))))
     (.ret (Sum.inl ((n, (ds, ((), ((), (a, (w64 (b + 1))))))), (out, seen))))
     .fail)
    .fail)
   (.test ((w64 (b - a)) == 1)
    (.test (decide ((0 = 0) ∧ ((List.length out) = (List.length out))))
     (.test (decide ((0 = 0) ∧ ((List.length seen) = (List.length seen))))
      (.ret (Sum.inl ((n, (ds, ((), ((), (a, (w64 (b + 1))))))), (out, seen))))
      .fail)
     .fail)
    (.test (decide ((0 ≤ (w64 ((w64 (a * n)) + b))) ∧ ((w64 ((w64 (a * n)) + b)) < ((List.length seen) : Int))))
     (.sub (seen[(0 + (Int.toNat (w64 ((w64 (a * n)) + b))))]?) fun z1 =>
      (.test z1
      (.test (decide ((0 = 0) ∧ ((List.length out) = (List.length out))))
       (.test (decide ((0 = 0) ∧ ((List.length seen) = (List.length seen))))
        (.ret (Sum.inl ((n, (ds, ((), ((), (a, (w64 (b + 1))))))), (out, seen))))
        .fail)
       .fail)
      (.test (decide ((0 ≤ (w64 ((w64 (a * n)) + b))) ∧ ((w64 ((w64 (a * n)) + b)) < ((List.length seen) : Int))))
       (.sub (seen[(0 + (Int.toNat (w64 ((w64 (a * n)) + b))))]?) fun z2 =>
        (.test (decide ((0 = 0) ∧ ((List.length out) = (List.length out))))
        (.test (decide ((0 = 0) ∧ ((List.length seen) = (List.length (List.set seen (0 + (Int.toNat (w64 ((w64 (a * n)) + b)))) true)))))
         (.test (decide ((0 = 0) ∧ (1 = (List.length (List.set (List.replicate 1 (0 : Int)) 0 a)))))
          (.sub (s_cuPieces_L13 ((n, (ds, ((), ((), (a, (b, ((), a))))))), (out, ((List.set seen (0 + (Int.toNat (w64 ((w64 (a * n)) + b)))) true), (List.set (List.replicate 1 (0 : Int)) 0 a))))) fun z3 =>
           (.test (decide ((0 + (List.length z3.2.2.2)) ≤ (List.length z3.2.2.2)))
           (.test (decide (1 ≤ (List.length (List.set (List.replicate 1 ([] : List (Int))) 0 (win z3.2.2.2 0 (List.length z3.2.2.2))))))
            (.test (decide ((0 + (List.length z3.2.1)) ≤ (List.length z3.2.1)))
             (.test (decide ((2 * (((List.length z3.2.1) + (List.length (win (List.set (List.replicate 1 ([] : List (Int))) 0 (win z3.2.2.2 0 (List.length z3.2.2.2))) 0 1))) * 25)) ≤ 140737488355328))
              (.test (decide ((0 = 0) ∧ (((List.length z3.2.1) + (List.length (win (List.set (List.replicate 1 ([] : List (Int))) 0 (win z3.2.2.2 0 (List.length z3.2.2.2))) 0 1))) = (List.length ((win z3.2.1 0 (List.length z3.2.1)) ++ (win (List.set (List.replicate 1 ([] : List (Int))) 0 (win z3.2.2.2 0 (List.length z3.2.2.2))) 0 1))))))
               (.test (decide ((0 = 0) ∧ ((List.length z3.2.2.1) = (List.length z3.2.2.1))))
                (.ret (Sum.inl ((z3.1.1, (z3.1.2.1, ((), ((), (z3.1.2.2.2.2.1, (w64 (z3.1.2.2.2.2.2.1 + 1))))))), (((win z3.2.1 0 (List.length z3.2.1)) ++ (win (List.set (List.replicate 1 ([] : List (Int))) 0 (win z3.2.2.2 0 (List.length z3.2.2.2))) 0 1)), z3.2.2.1))))
                .fail)
               .fail)
              .fail)
             .fail)
            .fail)
           .fail))
          .fail)
         .fail)
        .fail))
       .fail)))
     .fail))))
  (.test (decide ((0 = 0) ∧ ((List.length out) = (List.length out))))
   (.test (decide ((0 = 0) ∧ ((List.length seen) = (List.length seen))))
    (.ret (Sum.inr ((n, (ds, ((), ((), a)))), (out, seen))))
    .fail)
   .fail))
noncomputable def s_cuPieces_L7 (v : ((Int × List ((Int × Int)) × Unit × Unit × Int × Int) × (List (List (Int)) × List (Bool)))) : Option ((Int × List ((Int × Int)) × Unit × Unit × Int) × (List (List (Int)) × List (Bool))) := loopO (fun v => (s_cuPieces_L7_step v).run) v

def s_cuPieces_L4_sh : LSh := ⟨(fun ex => match ex with | .norm => [(0, none), (1, none), (5, none), (6, none), (7, none)] | .exit i => if i = 0 then [(5, none)] else [] | .ret => [(4, none)]), [(0, (.one (.si .i64))), (1, (.one (.sl (.pair (.int .i64) (.int .i64)) false false))), (5, (.one (.rw 0 0))), (6, (.one (.rw 1 0))), (7, (.one (.si .i64)))], [(.row 0 (.list true (.int .i64))), (.row 0 .bool)], [⟨(.exit 0), [(5, (.one (.rw 0 0)))], [(.row 0 (.list true (.int .i64)))]⟩], [], []⟩
noncomputable def s_cuPieces_L4_step : ((Int × List ((Int × Int)) × Unit × Unit × Int) × (List (List (Int)) × List (Bool))) → T (((Int × List ((Int × Int)) × Unit × Unit × Int) × (List (List (Int)) × List (Bool))) ⊕ (Unit × List (List (Int)))) := fun ((n, ds, (), (), a), (out, seen)) =>
  (.test (decide (a < n))
  (.test (decide ((0 = 0) ∧ ((List.length out) = (List.length out))))
   (.test (decide ((0 = 0) ∧ ((List.length seen) = (List.length seen))))
    (.sub (s_cuPieces_L7 ((n, (ds, ((), ((), (a, (w64 (a + 1))))))), (out, seen))) fun z0 =>
     (.test (decide ((0 = 0) ∧ ((List.length z0.2.1) = (List.length z0.2.1))))
     (.test (decide ((0 = 0) ∧ ((List.length z0.2.2) = (List.length z0.2.2))))
      (.ret (Sum.inl ((z0.1.1, (z0.1.2.1, ((), ((), (w64 (z0.1.2.2.2.2 + 1)))))), (z0.2.1, z0.2.2))))
      .fail)
     .fail))
    .fail)
   .fail)
  (.test (decide ((0 = 0) ∧ ((List.length out) = (List.length out))))
   (.ret (Sum.inr ((), out)))
   .fail))
noncomputable def s_cuPieces_L4 (v : ((Int × List ((Int × Int)) × Unit × Unit × Int) × (List (List (Int)) × List (Bool)))) : Option (Unit × List (List (Int))) := loopO (fun v => (s_cuPieces_L4_step v).run) v

def s_cuPieces_fo : List FO := [⟨[(.one (.rw 0 0))], [(.row 0 (.list true (.int .i64)))]⟩]
noncomputable def s_cuPieces_t : (Int × List ((Int × Int))) → T (Unit × List (List (Int))) := fun (n, ds) =>
  (.test (decide ((0 ≤ (w64 (n * n))) ∧ (((w64 (n * n)) ≤ (w64 (n * n))) ∧ (((Int.toNat (w64 (n * n))) * 2) ≤ 140737488355328))))
  (.test (decide ((0 = 0) ∧ (0 = (List.length ([] : List (List Int))))))
   (.test (decide ((0 = 0) ∧ ((Int.toNat (w64 (n * n))) = (List.length (List.replicate (Int.toNat (w64 (n * n))) false)))))
    (.sub (s_cuPieces_L4 ((n, (ds, ((), ((), (0 : Int))))), (([] : List (List Int)), (List.replicate (Int.toNat (w64 (n * n))) false)))) fun z0 =>
     (.test (decide ((0 + (List.length z0.2)) ≤ (List.length z0.2)))
     (.sub (s_cuSorted (win z0.2 0 (List.length z0.2))) fun z1 =>
      (.test (decide ((0 = 0) ∧ ((List.length z1.2) = (List.length z1.2))))
      (.ret ((), z1.2))
      .fail))
     .fail))
    .fail)
   .fail)
  .fail)
noncomputable def s_cuPieces (v : (Int × List ((Int × Int)))) : Option (Unit × List (List (Int))) := (s_cuPieces_t v).run
noncomputable def s_cuPieces_E : TEnv := ((E0.add1 n_s_poJoined s_poJoined_sh s_poJoined_fo s_poJoined).add1 n_s_cuSorted s_cuSorted_sh s_cuSorted_fo s_cuSorted)
theorem s_cuPieces_Eok : (s_cuPieces_E).OK := ((E0ok.add1 s_poJoined_ok).add1 s_cuSorted_ok)
noncomputable def s_cuPieces_told : Nat → Option SealT := fun id => if id = 16 then some (LSh.told s_cuPieces_L16_sh 0 (s_cuPieces_L16_step)) else if id = 13 then some (LSh.told s_cuPieces_L13_sh 0 (s_cuPieces_L13_step)) else if id = 7 then some (LSh.told s_cuPieces_L7_sh 0 (s_cuPieces_L7_step)) else if id = 4 then some (LSh.told s_cuPieces_L4_sh 0 (s_cuPieces_L4_step)) else none
theorem s_cuPieces_L16_ok : ToldOK Try.prog 0 (loopAt (bodyOf fn_s_cuPieces) [0, 0, 0, 0]) (LSh.told s_cuPieces_L16_sh 0 (s_cuPieces_L16_step)) :=
  loop_ok (E := s_cuPieces_E) (s_cuPieces_Eok) (told := s_cuPieces_told) (l := s_cuPieces_L16_sh) (step := s_cuPieces_L16_step) (loopsOK_of (ls := []) (by kernel_rfl) trivial) (by kernel_rfl) (fun v => by kernel_rfl)
theorem s_cuPieces_L13_ok : ToldOK Try.prog 0 (loopAt (bodyOf fn_s_cuPieces) [0, 0, 0]) (LSh.told s_cuPieces_L13_sh 0 (s_cuPieces_L13_step)) :=
  loop_ok (E := s_cuPieces_E) (s_cuPieces_Eok) (told := s_cuPieces_told) (l := s_cuPieces_L13_sh) (step := s_cuPieces_L13_step) (loopsOK_of (ls := [loopAt (bodyOf fn_s_cuPieces) [0, 0, 0, 0]]) (by kernel_rfl) ⟨.inr ⟨_, by kernel_rfl, s_cuPieces_L16_ok⟩, trivial⟩) (by kernel_rfl) (fun v => by kernel_rfl)
theorem s_cuPieces_L7_ok : ToldOK Try.prog 0 (loopAt (bodyOf fn_s_cuPieces) [0, 0]) (LSh.told s_cuPieces_L7_sh 0 (s_cuPieces_L7_step)) :=
  loop_ok (E := s_cuPieces_E) (s_cuPieces_Eok) (told := s_cuPieces_told) (l := s_cuPieces_L7_sh) (step := s_cuPieces_L7_step) (loopsOK_of (ls := [loopAt (bodyOf fn_s_cuPieces) [0, 0, 0]]) (by kernel_rfl) ⟨.inr ⟨_, by kernel_rfl, s_cuPieces_L13_ok⟩, trivial⟩) (by kernel_rfl) (fun v => by kernel_rfl)
theorem s_cuPieces_L4_ok : ToldOK Try.prog 0 (loopAt (bodyOf fn_s_cuPieces) [0]) (LSh.told s_cuPieces_L4_sh 0 (s_cuPieces_L4_step)) :=
  loop_ok (E := s_cuPieces_E) (s_cuPieces_Eok) (told := s_cuPieces_told) (l := s_cuPieces_L4_sh) (step := s_cuPieces_L4_step) (loopsOK_of (ls := [loopAt (bodyOf fn_s_cuPieces) [0, 0]]) (by kernel_rfl) ⟨.inr ⟨_, by kernel_rfl, s_cuPieces_L7_ok⟩, trivial⟩) (by kernel_rfl) (fun v => by kernel_rfl)
theorem s_cuPieces_ok : FOK Try.prog n_s_cuPieces s_cuPieces_sh s_cuPieces_fo s_cuPieces :=
  fn_ok (E := s_cuPieces_E) (s_cuPieces_Eok) (told := s_cuPieces_told) (fl := []) (c := bodyOf fn_s_cuPieces) (s := s_cuPieces_sh) (l := s_cuPieces_fo) (tree := s_cuPieces_t) fnat_s_cuPieces (by kernel_rfl) (by kernel_rfl) (by kernel_rfl) (loopsOK_of (ls := [loopAt (bodyOf fn_s_cuPieces) [0]]) (by kernel_rfl) ⟨.inr ⟨_, by kernel_rfl, s_cuPieces_L4_ok⟩, trivial⟩) (fun v => by kernel_rfl)

theorem s_cuPieces_L16_eq {N : Nat} {ds : List Dg} (hN : N ≤ 12) (hl : ds.length < 1000000) {a b i c : Int} (ha : 0 ≤ a ∧ a ≤ 12) (hb : 0 ≤ b ∧ b ≤ 12) (h0 : 0 ≤ i) (h1 : i < c) (h2 : c ≤ b) (hj : joinD N ds i c = true) (hne : (i, c) ≠ (a, b))
    (hm : ∀ c', c < c' → c' ≤ b → (i, c') ≠ (a, b) → joinD N ds i c' = false) (next : Int) (out : List (List Int)) (seen : List Bool) (piece : List Int) : ∀ (m : Nat) (t : Int), t = c + (m : Int) → t ≤ b →
    s_cuPieces_L16 (((N : Int), (ds, ((), ((), (a, (b, ((), (i, (next, t))))))))), (out, (seen, piece))) = some (((N : Int), (ds, ((), ((), (a, (b, ((), c))))))), (out, (seen, piece))) := by
  intro m
  induction m with
  | zero =>
    intro t ht htb
    have e : t = c := by omega
    subst e
    have hjo := s_poJoined_eq N ds i t hN (by omega) (by omega) hl
    simp only [s_cuPieces_L16]
    refine loopO_done ?_
    rw [s_cuPieces_L16_step, T.run_test, if_pos (decide_eq_true (by omega)), T.run_sub, hjo, Option.bind_some, T.run_test, if_pos hj, T.run_test]
    by_cases c1 : i = a
    · have c2 : t ≠ b := fun e => hne (by rw [c1, e])
      rw [if_neg (by simp [c1]), T.run_test, if_pos (by simpa using c2), T.run_test, if_pos (by simp), T.run_test, if_pos (by simp), T.run_test, if_pos (by simp), T.run_ret]
    · rw [if_pos (by simpa using c1), T.run_test, if_pos (by simp), T.run_test, if_pos (by simp), T.run_test, if_pos (by simp), T.run_ret]
  | succ m ih =>
    intro t ht htb
    have w1 : w64 (t - 1) = t - 1 := w64_id (by omega) (by omega)
    have := ih (t - 1) (by omega) (by omega)
    have hjo := s_poJoined_eq N ds i t hN (by omega) (by omega) hl
    simp only [s_cuPieces_L16] at this ⊢
    rw [← this]
    refine loopO_next ?_
    rw [s_cuPieces_L16_step, T.run_test, if_pos (decide_eq_true (by omega)), T.run_sub, hjo, Option.bind_some, T.run_test, w1]
    by_cases c1 : (i, t) = (a, b)
    · simp only [Prod.mk.injEq] at c1
      obtain ⟨rfl, rfl⟩ := c1
      cases joinD N ds i t with
      | false => rw [if_neg (by simp), T.run_test, if_pos (by simp), T.run_test, if_pos (by simp), T.run_test, if_pos (by simp), T.run_ret]
      | true => rw [if_pos rfl, T.run_test, if_neg (by simp), T.run_test, if_neg (by simp), T.run_test, if_pos (by simp), T.run_test, if_pos (by simp), T.run_test, if_pos (by simp), T.run_ret]
    · rw [hm t (by omega) htb c1, if_neg (by simp), T.run_test, if_pos (by simp), T.run_test, if_pos (by simp), T.run_test, if_pos (by simp), T.run_ret]
theorem s_cuPieces_L13_eq {N : Nat} {ds : List Dg} (h3 : 3 ≤ N) (hN : N ≤ 12) (hl : ds.length < 1000000) (hc : CutD N ds) {a b : Int} (hk : (a, b) ∈ wholeD N :: ds) (out : List (List Int)) (seen : List Bool) : ∀ (m : Nat) (i : Int) (piece : List Int), b - i ≤ (m : Int) → i ∈ pcs N ds (a, b) → piece.length ≤ 20 - m →  m ≤ 20 →
    s_cuPieces_L13 (((N : Int), (ds, ((), ((), (a, (b, ((), i))))))), (out, (seen, piece))) = some (((N : Int), (ds, ((), ((), (a, (b, ()))))) ), (out, (seen, piece ++ (pcs N ds (a, b)).filter fun v => decide (i < v)))) := by
  have hlow := key_low hc h3 hk
  simp only at hlow
  have stop : ∀ (i : Int) (piece : List Int), i = b → s_cuPieces_L13 (((N : Int), (ds, ((), ((), (a, (b, ((), i))))))), (out, (seen, piece))) = some (((N : Int), (ds, ((), ((), (a, (b, ()))))) ), (out, (seen, piece ++ (pcs N ds (a, b)).filter fun v => decide (i < v)))) := by
    intro i piece e
    subst e
    have hlast := pcs_last N ds (a, i)
    simp only at hlast
    rw [hlast, List.append_nil]
    simp only [s_cuPieces_L13]
    refine loopO_done ?_
    rw [s_cuPieces_L13_step, T.run_test, if_neg (by simp), T.run_test, if_pos (by simp), T.run_test, if_pos (by simp), T.run_test, if_pos (by simp), T.run_ret]
  intro m
  induction m with
  | zero =>
    intro i piece hm hi hp h20
    have := (pcs_mem.1 hi).2.1
    simp only at this
    exact stop i piece (by omega)
  | succ m ih =>
    intro i piece hm hi hp h20
    have hib := (pcs_mem.1 hi).2.1
    simp only at hib
    by_cases e : i = b
    · exact stop i piece e
    · obtain ⟨c, c1, c2, c3, c4, c5⟩ := next_exists (n := N) (ds := ds) (k := (a, b)) (i := i) (by simp only; omega) (by simp only; omega)
      simp only at c2
      obtain ⟨g1, g2⟩ := next_corner hc h3 hk hi c1 c2 c3 c4 c5
      have w1 : w64 (i + 1) = i + 1 := w64_id (by omega) (by omega)
      have h16 := s_cuPieces_L16_eq hN hl (a := a) (b := b) (by omega) (by omega) (by omega) c1 c2 c3 c4 c5 (i + 1) out seen piece (b - c).toNat b (by omega) (Int.le_refl _)
      have := ih c (piece ++ [c]) (by omega) g1 (by rw [List.length_append, List.length_singleton]; omega) (by omega)
      rw [after_corner c1 g1 g2]
      rw [List.append_assoc] at this
      simp only [s_cuPieces_L13] at this ⊢
      show _ = some (((N : Int), (ds, ((), ((), (a, (b, ()))))) ), (out, (seen, piece ++ ([c] ++ (pcs N ds (a, b)).filter fun v => decide (c < v)))))
      rw [← this]
      refine loopO_next ?_
      rw [s_cuPieces_L13_step, T.run_test, if_pos (by simpa using e), T.run_test, if_pos (by simp), T.run_test, if_pos (by simp), T.run_test, if_pos (by simp), T.run_sub, w1, h16, Option.bind_some]
      simp only [win_one, win_all]
      rw [T.run_test, if_pos (by simp), T.run_test, if_pos (by simp), T.run_test, if_pos (by exact decide_eq_true (by rw [List.length_singleton]; omega)), T.run_test, if_pos (by simp), T.run_test, if_pos (by simp), T.run_test, if_pos (by simp), T.run_ret]
/-- Which places of the table are still free. -/
def SeenOK (N a b : Nat) (seen : List Bool) : Prop := seen.length = N * N ∧ ∀ x y : Nat, x < N → y < N → (a < x ∨ a = x ∧ b ≤ y) → seen[x * N + y]? = some false
theorem seen_idx {N x y : Nat} (hx : x < N) (hy : y < N) : x * N + y < N * N := by
  have := Nat.mul_le_mul_right N (show x + 1 ≤ N from hx)
  rw [Nat.add_mul, Nat.one_mul] at this
  omega
theorem SeenOK.mono {N a b a' b' : Nat} {seen : List Bool} (h : SeenOK N a b seen) (hh : a < a' ∨ a = a' ∧ b ≤ b') : SeenOK N a' b' seen := ⟨h.1, fun x y hx hy hxy => h.2 x y hx hy (by omega)⟩
theorem SeenOK.put {N a b : Nat} {seen : List Bool} (h : SeenOK N a b seen) (hb : b < N) : SeenOK N a (b + 1) (seen.set (a * N + b) true) := by
  refine ⟨by rw [List.length_set]; exact h.1, fun x y hx hy hxy => ?_⟩
  rw [List.getElem?_set_ne]
  · exact h.2 x y hx hy (by omega)
  · rcases hxy with g | ⟨rfl, g⟩
    · have := Nat.mul_le_mul_right N (show a + 1 ≤ x from g)
      rw [Nat.add_mul, Nat.one_mul] at this
      omega
    · omega
/-- The chords that come from a place on. -/
def keysAt (N : Nat) (ds : List Dg) (a b : Nat) : List Dg := (((List.range N).drop b).filter fun b => decide (a + 1 < b) && joinD N ds (a : Int) (b : Int)).map fun (b : Nat) => ((a : Int), (b : Int))
theorem drop_range {N b : Nat} (h : b < N) : (List.range N).drop b = b :: (List.range N).drop (b + 1) := by
  rw [List.drop_eq_getElem_cons (by simpa using h), List.getElem_range]
theorem s_cuPieces_L7_eq {N : Nat} {ds : List Dg} (h3 : 3 ≤ N) (hN : N ≤ 12) (hl : ds.length < 1000000) (hc : CutD N ds) (a : Nat) (ha : a < N) : ∀ (m b : Nat) (out : List (List Int)) (seen : List Bool), b + m = N → a < b → out.length ≤ a * N + b → SeenOK N a b seen →
    ∃ seen', s_cuPieces_L7 (((N : Int), (ds, ((), ((), ((a : Int), (b : Int)))))), (out, seen)) = some (((N : Int), (ds, ((), ((), (a : Int))))), (out ++ (keysAt N ds a b).map (pcs N ds), seen')) ∧ SeenOK N (a + 1) 0 seen' ∧ (out ++ (keysAt N ds a b).map (pcs N ds)).length ≤ a * N + N := by
  have haN : a * N ≤ 144 := by have := Nat.mul_le_mul (show a ≤ 12 by omega) hN; omega
  intro m
  induction m with
  | zero =>
    intro b out seen hb hab ho hs
    refine ⟨seen, ?_, hs.mono (by omega), ?_⟩
    · have e : keysAt N ds a b = [] := by unfold keysAt; rw [List.drop_eq_nil_of_le (by simp; omega)]; rfl
      rw [e]
      simp only [s_cuPieces_L7]
      refine loopO_done ?_
      rw [s_cuPieces_L7_step, T.run_test, if_neg (by rw [decide_eq_true_eq]; omega), T.run_test, if_pos (by simp), T.run_test, if_pos (by simp), T.run_ret]
      simp
    · have e : keysAt N ds a b = [] := by unfold keysAt; rw [List.drop_eq_nil_of_le (by simp; omega)]; rfl
      rw [e]
      simp
      omega
  | succ m ih =>
    intro b out seen hb hab ho hs
    have hbN : b < N := by omega
    have w1 : w64 ((b : Int) + 1) = ((b + 1 : Nat) : Int) := by rw [w64_id (by omega) (by omega)]; omega
    have w2 : w64 ((b : Int) - (a : Int)) = (b : Int) - (a : Int) := w64_id (by omega) (by omega)
    have hjo := s_poJoined_eq N ds (a : Int) (b : Int) hN (by omega) (by omega) hl
    have ek : keysAt N ds a b = (if a + 1 < b ∧ joinD N ds (a : Int) (b : Int) = true then [((a : Int), (b : Int))] else []) ++ keysAt N ds a (b + 1) := by
      unfold keysAt
      rw [drop_range hbN, List.filter_cons]
      by_cases c : a + 1 < b ∧ joinD N ds (a : Int) (b : Int) = true
      · rw [if_pos c, if_pos (by simp [c.1, c.2])]; rfl
      · rw [if_neg c, if_neg (by simpa using c)]; rfl
    have skip : ¬ (a + 1 < b ∧ joinD N ds (a : Int) (b : Int) = true) → (s_cuPieces_L7_step (((N : Int), (ds, ((), ((), ((a : Int), (b : Int)))))), (out, seen))).run = some (.inl (((N : Int), (ds, ((), ((), ((a : Int), ((b + 1 : Nat) : Int)))))), (out, seen))) := by
      intro c
      rw [s_cuPieces_L7_step, T.run_test, if_pos (decide_eq_true (by omega)), T.run_sub, hjo, Option.bind_some, T.run_test, w1]
      cases hj : joinD N ds (a : Int) (b : Int) with
      | false => rw [if_pos (by simp), T.run_test, if_pos (by simp), T.run_test, if_pos (by simp), T.run_ret]
      | true =>
        have : ¬ (a + 1 < b) := fun h => c ⟨h, hj⟩
        rw [if_neg (by simp), T.run_test, w2, if_pos (by simp; omega), T.run_test, if_pos (by simp), T.run_test, if_pos (by simp), T.run_ret]
    by_cases c : a + 1 < b ∧ joinD N ds (a : Int) (b : Int) = true
    · obtain ⟨c1, hj⟩ := c
      have hk : ((a : Int), (b : Int)) ∈ wholeD N :: ds := by
        rcases joinD_iff.1 hj with g | g | g
        · omega
        · exact List.mem_cons.2 (.inl (Prod.ext (by simp only [wholeD]; omega) (by simp only [wholeD]; omega)))
        · exact List.mem_cons.2 (.inr g)
      have hends := (key_ends hc h3 hk).1
      have hw : w64 (w64 ((a : Int) * (N : Int)) + (b : Int)) = ((a * N + b : Nat) : Int) := by
        rw [← Int.natCast_mul, w64_id (z := ((a * N : Nat) : Int)) (by omega) (by omega), w64_id (by omega) (by omega)]; omega
      have hidx := seen_idx ha hbN
      have hsl := hs.1
      have hg := hs.2 a b ha hbN (by omega)
      have h13 := s_cuPieces_L13_eq h3 hN hl hc hk out (seen.set (a * N + b) true) 12 (a : Int) [(a : Int)] (by omega) hends (by simp) (by omega)
      have hfirst := pcs_first hc h3 hk
      simp only at hfirst
      rw [show [(a : Int)] ++ (pcs N ds ((a : Int), (b : Int))).filter (fun v => decide ((a : Int) < v)) = pcs N ds ((a : Int), (b : Int)) from hfirst.symm] at h13
      obtain ⟨seen', e1, e2, e3⟩ := ih (b + 1) (out ++ [pcs N ds ((a : Int), (b : Int))]) (seen.set (a * N + b) true) (by omega) (by omega) (by simp; omega) (hs.put hbN)
      refine ⟨seen', ?_, e2, ?_⟩
      · rw [ek, if_pos ⟨c1, hj⟩, List.map_append, ← List.append_assoc]
        simp only [s_cuPieces_L7] at e1 ⊢
        rw [show List.map (pcs N ds) [((a : Int), (b : Int))] = [pcs N ds ((a : Int), (b : Int))] from rfl, ← e1]
        refine loopO_next ?_
        rw [s_cuPieces_L7_step, T.run_test, if_pos (decide_eq_true (by omega)), T.run_sub, hjo, Option.bind_some, T.run_test, hj, if_neg (by simp), T.run_test, w2, if_neg (by simp; omega), T.run_test, hw, if_pos (decide_eq_true (by omega)), T.run_sub, Nat.zero_add, Int.toNat_natCast, hg, Option.bind_some, T.run_test, if_neg (by simp), T.run_test, if_pos (decide_eq_true (by omega)), T.run_sub, Option.bind_some, T.run_test, if_pos (by simp), T.run_test, if_pos (by simp), T.run_test, if_pos (by simp), T.run_sub,
          show (List.replicate 1 (0 : Int)).set 0 (a : Int) = [(a : Int)] from rfl, h13, Option.bind_some]
        simp only [win_one, win_all, w1]
        rw [T.run_test, if_pos (by simp), T.run_test, if_pos (by simp), T.run_test, if_pos (by simp), T.run_test, if_pos (by exact decide_eq_true (by rw [List.length_singleton]; omega)), T.run_test, if_pos (by simp), T.run_test, if_pos (by simp), T.run_ret]
      · rw [ek, if_pos ⟨c1, hj⟩, List.map_append, ← List.append_assoc]
        exact e3
    · obtain ⟨seen', e1, e2, e3⟩ := ih (b + 1) out seen (by omega) (by omega) (by omega) (hs.mono (by omega))
      refine ⟨seen', ?_, e2, ?_⟩
      · rw [ek, if_neg c, List.nil_append]
        simp only [s_cuPieces_L7] at e1 ⊢
        rw [← e1]
        exact loopO_next (skip c)
      · rw [ek, if_neg c, List.nil_append]
        exact e3
theorem keysAt_eq (N : Nat) (ds : List Dg) (a : Nat) : keysAt N ds a (a + 1) = keysOf N ds a := by
  have h : ((List.range N).take (a + 1)).filter (fun b => decide (a + 1 < b) && joinD N ds (a : Int) (b : Int)) = [] := by
    rw [List.filter_eq_nil_iff]
    intro x hx
    obtain ⟨i, hi, e⟩ := List.mem_take_iff_getElem.1 hx
    rw [List.getElem_range] at e
    simp; omega
  have h2 := congrArg (List.filter (fun b => decide (a + 1 < b) && joinD N ds (a : Int) (b : Int))) (List.take_append_drop (a + 1) (List.range N))
  rw [List.filter_append, h, List.nil_append] at h2
  unfold keysAt keysOf
  rw [h2]
theorem s_cuPieces_L4_eq {N : Nat} {ds : List Dg} (h3 : 3 ≤ N) (hN : N ≤ 12) (hl : ds.length < 1000000) (hc : CutD N ds) : ∀ (m a : Nat) (out : List (List Int)) (seen : List Bool), a + m = N → out.length ≤ a * N → SeenOK N a 0 seen →
    s_cuPieces_L4 (((N : Int), (ds, ((), ((), (a : Int))))), (out, seen)) = some ((), out ++ (((List.range N).drop a).flatMap (keysOf N ds)).map (pcs N ds)) := by
  intro m
  induction m with
  | zero =>
    intro a out seen ha ho hs
    rw [List.drop_eq_nil_of_le (by simp; omega)]
    simp only [s_cuPieces_L4]
    refine loopO_done ?_
    rw [s_cuPieces_L4_step, T.run_test, if_neg (by rw [decide_eq_true_eq]; omega), T.run_test, if_pos (by simp), T.run_ret]
    simp
  | succ m ih =>
    intro a out seen ha ho hs
    have haN : a < N := by omega
    have w1 : w64 ((a : Int) + 1) = ((a + 1 : Nat) : Int) := by rw [w64_id (by omega) (by omega)]; omega
    obtain ⟨seen', e1, e2, e3⟩ := s_cuPieces_L7_eq h3 hN hl hc a haN (N - (a + 1)) (a + 1) out seen (by omega) (by omega) (by omega) (hs.mono (by omega))
    rw [keysAt_eq] at e1 e3
    have := ih (a + 1) _ seen' (by omega) (by rw [Nat.add_mul, Nat.one_mul]; exact e3) e2
    rw [drop_range haN, List.flatMap_cons, List.map_append, ← List.append_assoc]
    simp only [s_cuPieces_L4] at this ⊢
    rw [← this]
    refine loopO_next ?_
    rw [s_cuPieces_L4_step, T.run_test, if_pos (decide_eq_true (by omega)), T.run_test, if_pos (by simp), T.run_test, if_pos (by simp), T.run_sub, w1, e1, Option.bind_some, T.run_test, if_pos (by simp), T.run_test, if_pos (by simp), T.run_ret, w1]
theorem specP_len {n : Nat} {ds : List Dg} (h : CutD n ds) (hn : 3 ≤ n) : (specP n ds).length = ds.length + 1 := by
  have := (specP_perm h hn).length_eq
  simpa using this
theorem s_cuPieces_eq {N : Nat} {ds : List Dg} (h3 : 3 ≤ N) (hN : N ≤ 12) (hl : ds.length ≤ 12) (hc : CutD N ds) : s_cuPieces ((N : Int), ds) = some ((), sortL (specP N ds)) := by
  have hNN : N * N ≤ 144 := by have := Nat.mul_le_mul hN hN; omega
  have hw : w64 ((N : Int) * (N : Int)) = ((N * N : Nat) : Int) := by rw [← Int.natCast_mul, w64_id (by omega) (by omega)]
  have h4 := s_cuPieces_L4_eq h3 hN (by omega) hc N 0 [] (List.replicate (N * N) false) (by omega) (by simp) ⟨by simp, fun x y hx hy _ => by rw [List.getElem?_replicate, if_pos (seen_idx hx hy)]⟩
  rw [List.drop_zero, List.nil_append, Int.natCast_zero] at h4
  change _ = some ((), specP N ds) at h4
  have hsl := specP_len hc h3
  have hs := s_cuSorted_eq (specP N ds) (by omega) fun p hp => by
    obtain ⟨k, hk, rfl⟩ := List.mem_map.1 ((specP_perm hc h3).mem_iff.1 hp)
    have := pcs_len hc h3 hk
    omega
  rw [s_cuPieces, s_cuPieces_t, T.run_test, hw, if_pos (decide_eq_true (by omega)), T.run_test, if_pos (by simp), T.run_test, if_pos (by simp), T.run_sub, Int.toNat_natCast, h4, Option.bind_some, T.run_test, if_pos (by simp), T.run_sub, win_all, hs, Option.bind_some, T.run_test, if_pos (by simp), T.run_ret]


def slices_Index_int_sh : FSh := ⟨[(.one (.sl (.int .i64) false false)), (.one (.si .i64))], []⟩

def slices_Index_int_L2_sh : LSh := ⟨(fun ex => match ex with | .norm => [(0, none), (1, none), (7, none), (8, none)] | .exit i => if i = 0 then [] else [] | .ret => [(4, none)]), [(0, (.one (.sl (.int .i64) false false))), (1, (.one (.si .i64))), (7, (.one (.si .i64))), (8, (.one (.si .i64)))], [], [⟨.ret, [(4, (.one (.si .i64)))], []⟩, ⟨(.exit 0), [], []⟩], [], []⟩
noncomputable def slices_Index_int_L2_step : (List (Int) × Int × Int × Int) → T ((List (Int) × Int × Int × Int) ⊕ (Int ⊕ Unit)) := fun (s, v, t7, t8) =>
  (.test (decide (t8 < t7))
  (.test (decide ((0 ≤ t8) ∧ (t8 < ((List.length s) : Int))))
   (.sub (s[(Int.toNat t8)]?) fun z0 =>
    (.test (v == z0)
    (.ret (Sum.inr (Sum.inl t8)))
    (.ret (Sum.inl (s, (v, (t7, (w64 (t8 + 1)))))))))
   .fail)
  (.ret (Sum.inr (Sum.inr ()))))
noncomputable def slices_Index_int_L2 (v : (List (Int) × Int × Int × Int)) : Option (Int ⊕ Unit) := loopO (fun v => (slices_Index_int_L2_step v).run) v

def slices_Index_int_fo : List FO := [⟨[(.one (.si .i64))], []⟩]
noncomputable def slices_Index_int_t : (List (Int) × Int) → T Int := fun (s, v) =>
  (.sub (slices_Index_int_L2 (s, (v, (((List.length s) : Int), (0 : Int))))) fun z0 =>
  (.test (Sum.isLeft z0)
  (.sub (Sum.getLeft? z0) fun z1 =>
   (.ret z1))
  (.sub (Sum.getRight? z0) fun z2 =>
   (.ret (-1)))))
noncomputable def slices_Index_int (v : (List (Int) × Int)) : Option Int := (slices_Index_int_t v).run
noncomputable def slices_Index_int_E : TEnv := E0
theorem slices_Index_int_Eok : (slices_Index_int_E).OK := E0ok
noncomputable def slices_Index_int_told : Nat → Option SealT := fun id => if id = 2 then some (LSh.told slices_Index_int_L2_sh 0 (slices_Index_int_L2_step)) else none
theorem slices_Index_int_L2_ok : ToldOK Try.prog 0 (loopAt (bodyOf fn_slices_Index_int) [0]) (LSh.told slices_Index_int_L2_sh 0 (slices_Index_int_L2_step)) :=
  loop_ok (E := slices_Index_int_E) (slices_Index_int_Eok) (told := slices_Index_int_told) (l := slices_Index_int_L2_sh) (step := slices_Index_int_L2_step) (loopsOK_of (ls := []) (by kernel_rfl) trivial) (by kernel_rfl) (fun v => by kernel_rfl)
theorem slices_Index_int_ok : FOK Try.prog n_slices_Index_int slices_Index_int_sh slices_Index_int_fo slices_Index_int :=
  fn_ok (E := slices_Index_int_E) (slices_Index_int_Eok) (told := slices_Index_int_told) (fl := []) (c := bodyOf fn_slices_Index_int) (s := slices_Index_int_sh) (l := slices_Index_int_fo) (tree := slices_Index_int_t) fnat_slices_Index_int (by kernel_rfl) (by kernel_rfl) (by kernel_rfl) (loopsOK_of (ls := [loopAt (bodyOf fn_slices_Index_int) [0]]) (by kernel_rfl) ⟨.inr ⟨_, by kernel_rfl, slices_Index_int_L2_ok⟩, trivial⟩) (fun v => by kernel_rfl)

theorem slices_Index_int_eq (s : List Int) (v : Int) (hl : s.length < 4611686018427387904) : slices_Index_int (s, v) = some (idxI (fun x => v == x) s) := by
  have h := loop_find (step := fun v => (slices_Index_int_L2_step v).run) (xs := s) (fun x => v == x) (fun k => (s, (v, ((s.length : Int), (k : Int))))) (fun k => .inl (k : Int)) (.inr ())
    (fun k x hx => by
      have hlt := getElem?_lt hx
      have h1 : (k : Int) < (s.length : Int) := by omega
      have h2 : (0 : Int) ≤ k ∧ (k : Int) < (s.length : Int) := by omega
      simp only [slices_Index_int_L2_step, T.run, Int.toNat_natCast, hx, Option.bind_some, h1, h2, decide_true, if_true, and_self]
      rw [w64_id (z := (k : Int) + 1) (by omega) (by omega)]
      cases hv : (v == x) <;> simp [hv])
    (by simp [slices_Index_int_L2_step, T.run])
  rw [show ((0 : Nat) : Int) = 0 from rfl] at h
  simp only [slices_Index_int, slices_Index_int_t, T.run, slices_Index_int_L2]
  rw [h]
  simp only [idxI]
  cases hf : s.findIdx? (fun x => v == x) <;> simp [Sum.isLeft, hf]


def slices_Grow_int_sh : FSh := ⟨[.one (.nl true true), .one (.si .i64)], []⟩
def slices_Grow_int_fo : List FO := [⟨[.one (.rw 0 0)], [.row 0 (.int .i64)]⟩]
def slices_Grow_int (v : Unit × Int) : Option (Unit × List Int) := if 0 ≤ v.2 ∧ v.2 ≤ 1000000000000 ∧ v.2.toNat * 8 ≤ 140737488355328 then some ((), []) else none
def slices_Grow_int_ren : Shelf.Ren := ⟨fun _ => n_slices_Grow_int, fun t => if t = 0 then 0 else if t = 4 then 4 else if t = 9 then 9 else if t = 20 then 20 else if t = 22 then 42 else 3, fun x => x⟩
theorem slices_Grow_int_lay : Lays8.n4 Try.prog slices_Grow_int_ren :=
  { f4 := ⟨"slices.Grow[[]int,int]", by kernel_rfl, by kernel_rfl⟩, mixed := by kernel_rfl, t0 := by kernel_rfl, a0 := fun w => by kernel_rfl, z0 := fun w => by kernel_rfl, v0 := fun w => by kernel_rfl, t3 := by kernel_rfl, a3 := fun w => by kernel_rfl, z3 := fun w => by kernel_rfl, v3 := fun w => by kernel_rfl, t4 := by kernel_rfl, a4 := fun w => by kernel_rfl, z4 := fun w => by kernel_rfl, v4 := fun w => by kernel_rfl, t9 := by kernel_rfl, a9 := fun w => by kernel_rfl, z9 := fun w => by kernel_rfl, v9 := fun w => by kernel_rfl, t20 := by kernel_rfl, a20 := fun w => by kernel_rfl, z20 := fun w => by kernel_rfl, v20 := fun w => by kernel_rfl, t22 := by kernel_rfl, a22 := fun w => by kernel_rfl, z22 := fun w => by kernel_rfl, v22 := fun w => by kernel_rfl }
noncomputable def slices_Grow_int_info : TypeInfo := (Try.prog.info? 3).get (by kernel_rfl)
theorem slices_Grow_int_ok : FOK Try.prog n_slices_Grow_int slices_Grow_int_sh slices_Grow_int_fo slices_Grow_int :=
  grow_ok ⟨_, fnat_slices_Grow_int, by kernel_rfl, by kernel_rfl⟩ (ρr := slices_Grow_int_ren) rfl slices_Grow_int_lay (.int .i64) slices_Grow_int_info (.int .i64 0) (by kernel_rfl) (by kernel_rfl) (by kernel_rfl) (by decide) 8 (by kernel_rfl)

def slices_Concat_int_sh : FSh := ⟨[(.one (.sl (.list true (.int .i64)) false false))], []⟩

def slices_Concat_int_L3_sh : LSh := ⟨(fun ex => match ex with | .norm => [(0, none), (3, none), (9, none), (10, none), (11, none)] | .exit i => if i = 0 then [(0, none), (3, none)] else [] | .ret => [(2, none)]), [(0, (.one (.sl (.list true (.int .i64)) false false))), (3, (.one (.si .i64))), (9, (.one (.sl (.list true (.int .i64)) false false))), (10, (.one (.si .i64))), (11, (.one (.si .i64)))], [], [⟨(.exit 0), [(0, (.one (.sl (.list true (.int .i64)) false false))), (3, (.one (.si .i64)))], []⟩], [], []⟩
noncomputable def slices_Concat_int_L3_step : (List (List (Int)) × Int × List (List (Int)) × Int × Int) → T ((List (List (Int)) × Int × List (List (Int)) × Int × Int) ⊕ (List (List (Int)) × Int)) := fun (slices, size, t9, t10, t11) =>
  (.test (decide (t11 < t10))
  (.test (decide ((0 ≤ t11) ∧ (t11 < ((List.length t9) : Int))))
   (.sub (t9[(Int.toNat t11)]?) fun z0 =>
    (.test (decide ((w64 (size + ((List.length z0) : Int))) < 0))
    .fail
    (.ret (Sum.inl (slices, ((w64 (size + ((List.length z0) : Int))), (t9, (t10, (w64 (t11 + 1))))))))))
   .fail)
  (.ret (Sum.inr (slices, size))))
noncomputable def slices_Concat_int_L3 (v : (List (List (Int)) × Int × List (List (Int)) × Int × Int)) : Option (List (List (Int)) × Int) := loopO (fun v => (slices_Concat_int_L3_step v).run) v

def slices_Concat_int_L11_sh : LSh := ⟨(fun ex => match ex with | .norm => [(6, none), (25, none), (26, none), (27, none)] | .exit i => if i = 2 then [(6, none)] else [] | .ret => [(2, none)]), [(6, (.one (.rw 0 0))), (25, (.one (.sl (.list true (.int .i64)) false false))), (26, (.one (.si .i64))), (27, (.one (.si .i64)))], [(.row 0 (.int .i64))], [⟨(.exit 2), [(6, (.one (.rw 0 0)))], [(.row 0 (.int .i64))]⟩], [], []⟩
noncomputable def slices_Concat_int_L11_step : ((Unit × List (List (Int)) × Int × Int) × List (Int)) → T (((Unit × List (List (Int)) × Int × Int) × List (Int)) ⊕ (Unit × List (Int))) := fun (((), t25, t26, t27), newslice) =>
  (.test (decide (t27 < t26))
  (.test (decide ((0 ≤ t27) ∧ (t27 < ((List.length t25) : Int))))
   (.sub (t25[(Int.toNat t27)]?) fun z0 =>
    (.test (decide ((0 + (List.length newslice)) ≤ (List.length newslice)))
    (.test (decide ((2 * (((List.length newslice) + (List.length z0)) * 9)) ≤ 140737488355328))
     (.test (decide ((0 = 0) ∧ (((List.length newslice) + (List.length z0)) = (List.length ((win newslice 0 (List.length newslice)) ++ z0)))))
      (.ret (Sum.inl (((), (t25, (t26, (w64 (t27 + 1))))), ((win newslice 0 (List.length newslice)) ++ z0))))
      .fail)
     .fail)
    .fail))
   .fail)
  (.test (decide ((0 = 0) ∧ ((List.length newslice) = (List.length newslice))))
   (.ret (Sum.inr ((), newslice)))
   .fail))
noncomputable def slices_Concat_int_L11 (v : ((Unit × List (List (Int)) × Int × Int) × List (Int))) : Option (Unit × List (Int)) := loopO (fun v => (slices_Concat_int_L11_step v).run) v

def slices_Concat_int_fo : List FO := [⟨[(.one (.rw 0 0))], [(.row 0 (.int .i64))]⟩]
noncomputable def slices_Concat_int_t : List (List (Int)) → T (Unit × List (Int)) := fun slices =>
  (.sub (slices_Concat_int_L3 (slices, ((0 : Int), (slices, (((List.length slices) : Int), (0 : Int)))))) fun z0 =>
  (.sub (slices_Grow_int ((), z0.2)) fun z1 =>
  (.test (decide ((0 = 0) ∧ ((List.length z1.2) = (List.length z1.2))))
  (.sub (slices_Concat_int_L11 (((), (z0.1, (((List.length z0.1) : Int), (0 : Int)))), z1.2)) fun z2 =>
   (.test (decide ((0 = 0) ∧ ((List.length z2.2) = (List.length z2.2))))
   (.ret ((), z2.2))
   .fail))
  .fail)))
noncomputable def slices_Concat_int (v : List (List (Int))) : Option (Unit × List (Int)) := (slices_Concat_int_t v).run
noncomputable def slices_Concat_int_E : TEnv := (E0.add1 n_slices_Grow_int slices_Grow_int_sh slices_Grow_int_fo slices_Grow_int)
theorem slices_Concat_int_Eok : (slices_Concat_int_E).OK := (E0ok.add1 slices_Grow_int_ok)
noncomputable def slices_Concat_int_told : Nat → Option SealT := fun id => if id = 3 then some (LSh.told slices_Concat_int_L3_sh 0 (slices_Concat_int_L3_step)) else if id = 11 then some (LSh.told slices_Concat_int_L11_sh 0 (slices_Concat_int_L11_step)) else none
theorem slices_Concat_int_L3_ok : ToldOK Try.prog 0 (loopAt (bodyOf fn_slices_Concat_int) [0]) (LSh.told slices_Concat_int_L3_sh 0 (slices_Concat_int_L3_step)) :=
  loop_ok (E := slices_Concat_int_E) (slices_Concat_int_Eok) (told := slices_Concat_int_told) (l := slices_Concat_int_L3_sh) (step := slices_Concat_int_L3_step) (loopsOK_of (ls := []) (by kernel_rfl) trivial) (by kernel_rfl) (fun v => by kernel_rfl)
theorem slices_Concat_int_L11_ok : ToldOK Try.prog 0 (loopAt (bodyOf fn_slices_Concat_int) [1]) (LSh.told slices_Concat_int_L11_sh 0 (slices_Concat_int_L11_step)) :=
  loop_ok (E := slices_Concat_int_E) (slices_Concat_int_Eok) (told := slices_Concat_int_told) (l := slices_Concat_int_L11_sh) (step := slices_Concat_int_L11_step) (loopsOK_of (ls := []) (by kernel_rfl) trivial) (by kernel_rfl) (fun v => by kernel_rfl)
theorem slices_Concat_int_ok : FOK Try.prog n_slices_Concat_int slices_Concat_int_sh slices_Concat_int_fo slices_Concat_int :=
  fn_ok (E := slices_Concat_int_E) (slices_Concat_int_Eok) (told := slices_Concat_int_told) (fl := []) (c := bodyOf fn_slices_Concat_int) (s := slices_Concat_int_sh) (l := slices_Concat_int_fo) (tree := slices_Concat_int_t) fnat_slices_Concat_int (by kernel_rfl) (by kernel_rfl) (by kernel_rfl) (loopsOK_of (ls := [loopAt (bodyOf fn_slices_Concat_int) [0], loopAt (bodyOf fn_slices_Concat_int) [1]]) (by kernel_rfl) ⟨.inr ⟨_, by kernel_rfl, slices_Concat_int_L3_ok⟩, ⟨.inr ⟨_, by kernel_rfl, slices_Concat_int_L11_ok⟩, trivial⟩⟩) (fun v => by kernel_rfl)

theorem slices_Concat_int_two (a b : List Int) (hl : a.length + b.length ≤ 1000) : slices_Concat_int [a, b] = some ((), a ++ b) := by
  have h3 : slices_Concat_int_L3 ([a, b], ((0 : Int), ([a, b], ((2 : Int), (0 : Int))))) = some ([a, b], ((a.length + b.length : Nat) : Int)) := by
    simp only [slices_Concat_int_L3]
    have w0 : w64 (a.length : Int) = (a.length : Int) := w64_id (by omega) (by omega)
    have w1 : w64 (1 : Int) = 1 := w64_id (by omega) (by omega)
    have w2 : w64 ((a.length : Int) + (b.length : Int)) = ((a.length + b.length : Nat) : Int) := by rw [w64_id (by omega) (by omega)]; omega
    have w3 : w64 ((1 : Int) + 1) = 2 := w64_id (by omega) (by omega)
    have c0 : ¬ ((a.length : Int) < 0) := by omega
    have c1 : ¬ (((a.length + b.length : Nat) : Int) < 0) := by omega
    have s1 : (slices_Concat_int_L3_step ([a, b], ((0 : Int), ([a, b], ((2 : Int), (0 : Int)))))).run = some (.inl ([a, b], ((a.length : Int), ([a, b], ((2 : Int), (1 : Int)))))) := by
      simp [slices_Concat_int_L3_step, T.run, w0, w1, c0]
    have s2 : (slices_Concat_int_L3_step ([a, b], ((a.length : Int), ([a, b], ((2 : Int), (1 : Int)))))).run = some (.inl ([a, b], (((a.length + b.length : Nat) : Int), ([a, b], ((2 : Int), (2 : Int)))))) := by
      simp only [slices_Concat_int_L3_step, T.run, w2, w3]
      simp [c1]
      omega
    have s3 : (slices_Concat_int_L3_step ([a, b], (((a.length + b.length : Nat) : Int), ([a, b], ((2 : Int), (2 : Int)))))).run = some (.inr ([a, b], ((a.length + b.length : Nat) : Int))) := by
      simp [slices_Concat_int_L3_step, T.run]
    rw [loopO_next s1, loopO_next s2, loopO_done s3]
  have hg : slices_Grow_int ((), ((a.length + b.length : Nat) : Int)) = some ((), []) := by
    unfold slices_Grow_int
    rw [if_pos ⟨by simp only []; omega, by simp only []; omega, by simp only []; omega⟩]
  have h11 : slices_Concat_int_L11 (((), ([a, b], ((2 : Int), (0 : Int)))), ([] : List Int)) = some ((), a ++ b) := by
    simp only [slices_Concat_int_L11]
    have w1 : w64 (1 : Int) = 1 := w64_id (by omega) (by omega)
    have w3 : w64 (2 : Int) = 2 := w64_id (by omega) (by omega)
    have c0 : 2 * (a.length * 9) ≤ 140737488355328 := by omega
    have c1 : 2 * ((a.length + b.length) * 9) ≤ 140737488355328 := by omega
    have hw : win ([] : List Int) 0 0 = [] := rfl
    have s1 : (slices_Concat_int_L11_step (((), ([a, b], ((2 : Int), (0 : Int)))), ([] : List Int))).run = some (.inl (((), ([a, b], ((2 : Int), (1 : Int)))), a)) := by
      simp [slices_Concat_int_L11_step, T.run, w1, c0, hw]
    have s2 : (slices_Concat_int_L11_step (((), ([a, b], ((2 : Int), (1 : Int)))), a)).run = some (.inl (((), ([a, b], ((2 : Int), (2 : Int)))), a ++ b)) := by
      simp [slices_Concat_int_L11_step, T.run, w3, c1, win_all]
    have s3 : (slices_Concat_int_L11_step (((), ([a, b], ((2 : Int), (2 : Int)))), a ++ b)).run = some (.inr ((), a ++ b)) := by
      simp [slices_Concat_int_L11_step, T.run]
    rw [loopO_next s1, loopO_next s2, loopO_done s3]
  simp only [slices_Concat_int, slices_Concat_int_t, T.run, List.length_cons, List.length_nil]
  have e2 : ((0 + 1 + 1 : Nat) : Int) = 2 := rfl
  simp only [e2, h3, Option.bind_some, hg, List.length_nil, true_and, decide_true, if_true, List.length_cons, h11]


def slices_Clone_int_sh : FSh := ⟨[.one (.sl (.int .i64) false false)], []⟩
def slices_Clone_int_fo : List FO := [⟨[.one (.rw 0 0)], [.row 0 (.int .i64)]⟩]
def slices_Clone_int (v : List Int) : Option (Unit × List Int) := if v.length ≤ maxLen ∧ v.length * 8 ≤ 140737488355328 then some ((), v) else none
def slices_Clone_int_ren : Shelf.Ren := ⟨fun _ => n_slices_Clone_int, fun t => if t = 4 then 4 else if t = 22 then 42 else 3, fun x => x⟩
theorem slices_Clone_int_lay : SlLaysE0.n41 Try.prog slices_Clone_int_ren :=
  { mixed := by kernel_rfl, f41 := ⟨"slices.Clone[[]int,int]", by kernel_rfl, by kernel_rfl⟩, t4 := by kernel_rfl, a4 := fun w => by kernel_rfl, z4 := fun w => by kernel_rfl, v4 := fun w => by kernel_rfl, t22 := by kernel_rfl, a22 := fun w => by kernel_rfl, z22 := fun w => by kernel_rfl, v22 := fun w => by kernel_rfl }
noncomputable def slices_Clone_int_info : TypeInfo := (Try.prog.info? 3).get (by kernel_rfl)
theorem slices_Clone_int_ok : FOK Try.prog n_slices_Clone_int slices_Clone_int_sh slices_Clone_int_fo slices_Clone_int :=
  clone_ok (e := .int .i64) ⟨_, fnat_slices_Clone_int, by kernel_rfl, by kernel_rfl⟩ (ρr := slices_Clone_int_ren) rfl slices_Clone_int_lay rfl slices_Clone_int_info (.int .i64 0) 8 (by kernel_rfl) (by kernel_rfl) (by kernel_rfl) (by kernel_rfl) (by decide) (by decide) (fun w => by kernel_rfl)

def slices_SortFunc_Lint__slices_Compare_int_sh : FSh := ⟨[.one (.rw 0 0), .one (.fn n_slices_Compare_int)], [.row 0 (.list true (.int .i64))]⟩
def slices_SortFunc_Lint__slices_Compare_int_fo : List FO := [⟨[], [.row 0 (.list true (.int .i64))]⟩]
def slices_SortFunc_Lint__slices_Compare_int (v : (Unit × Unit) × List (List Int)) : Option (Unit × List (List Int)) := if v.2.length < 4611686018427387904 ∧ v.2.all (fun l => decide (l.length ≤ 9223372036854775807)) = true then some ((), sortLL v.2) else none
def slices_SortFunc_Lint__slices_Compare_int_ren : Shelf.Ren := ⟨fun k => if k = 14 then 79 else if k = 15 then 80 else if k = 20 then 84 else if k = 21 then 85 else if k = 22 then 86 else if k = 23 then 87 else if k = 24 then 88 else if k = 25 then 89 else if k = 26 then 90 else if k = 27 then 91 else if k = 28 then 92 else if k = 29 then 93 else if k = 46 then 103 else if k = 47 then 104 else if k = 48 then 105 else if k = 49 then 106 else if k = 50 then 107 else if k = 57 then 111 else 65, fun t => if t = 0 then 0 else if t = 4 then 4 else if t = 5 then 5 else if t = 9 then 9 else if t = 22 then 24 else if t = 24 then 42 else if t = 25 then 75 else if t = 39 then 85 else if t = 45 then 89 else if t = 46 then 90 else if t = 50 then 37 else if t = 53 then 96 else if t = 55 then 98 else if t = 66 then 104 else if t = 70 then 108 else if t = 76 then 112 else if t = 77 then 113 else 3, fun x => x⟩
theorem slices_SortFunc_Lint__slices_Compare_int_lay : SlLaysF.n6 Try.prog slices_SortFunc_Lint__slices_Compare_int_ren :=
  { mixed := by kernel_rfl, f6 := ⟨"slices.SortFunc[[][]int,[]int]", by kernel_rfl, by kernel_rfl⟩, f14 := ⟨"slices.pdqsortCmpFunc[[]int]", by kernel_rfl, by kernel_rfl⟩, f15 := by kernel_rfl, f20 := ⟨"slices.insertionSortCmpFunc[[]int]", by kernel_rfl, by kernel_rfl⟩, f21 := ⟨"slices.heapSortCmpFunc[[]int]", by kernel_rfl, by kernel_rfl⟩, f22 := ⟨"slices.breakPatternsCmpFunc[[]int]", by kernel_rfl, by kernel_rfl⟩, f23 := ⟨"slices.choosePivotCmpFunc[[]int]", by kernel_rfl, by kernel_rfl⟩, f24 := ⟨"slices.reverseRangeCmpFunc[[]int]", by kernel_rfl, by kernel_rfl⟩, f25 := ⟨"slices.partialInsertionSortCmpFunc[[]int]", by kernel_rfl, by kernel_rfl⟩, f26 := ⟨"slices.partitionEqualCmpFunc[[]int]", by kernel_rfl, by kernel_rfl⟩, f27 := ⟨"slices.partitionCmpFunc[[]int]", by kernel_rfl, by kernel_rfl⟩, f28 := by kernel_rfl, f29 := by kernel_rfl, f46 := ⟨"slices.siftDownCmpFunc[[]int]", by kernel_rfl, by kernel_rfl⟩, f47 := by kernel_rfl, f48 := by kernel_rfl, f49 := ⟨"slices.medianAdjacentCmpFunc[[]int]", by kernel_rfl, by kernel_rfl⟩, f50 := ⟨"slices.medianCmpFunc[[]int]", by kernel_rfl, by kernel_rfl⟩, f57 := ⟨"slices.order2CmpFunc[[]int]", by kernel_rfl, by kernel_rfl⟩, t0 := by kernel_rfl, a0 := fun w => by kernel_rfl, z0 := fun w => by kernel_rfl, v0 := fun w => by kernel_rfl, t3 := by kernel_rfl, a3 := fun w => by kernel_rfl, z3 := fun w => by kernel_rfl, v3 := fun w => by kernel_rfl, t4 := by kernel_rfl, a4 := fun w => by kernel_rfl, z4 := fun w => by kernel_rfl, v4 := fun w => by kernel_rfl, t5 := by kernel_rfl, a5 := fun w => by kernel_rfl, z5 := fun w => by kernel_rfl, v5 := fun w => by kernel_rfl, t9 := by kernel_rfl, a9 := fun w => by kernel_rfl, z9 := fun w => by kernel_rfl, v9 := fun w => by kernel_rfl, t22 := by kernel_rfl, a22 := fun w => by kernel_rfl, z22 := fun w => by kernel_rfl, v22 := fun w => by kernel_rfl, a24 := fun w => by kernel_rfl, z24 := fun w => by kernel_rfl, t25 := by kernel_rfl, a25 := fun w => by kernel_rfl, z25 := fun w => by kernel_rfl, v25 := fun w => by kernel_rfl, t39 := by kernel_rfl, a39 := fun w => by kernel_rfl, z39 := fun w => by kernel_rfl, v39 := fun w => by kernel_rfl, t45 := by kernel_rfl, a45 := fun w => by kernel_rfl, z45 := fun w => by kernel_rfl, v45 := fun w => by kernel_rfl, t46 := by kernel_rfl, a46 := fun w => by kernel_rfl, z46 := fun w => by kernel_rfl, v46 := fun w => by kernel_rfl, t50 := by kernel_rfl, a50 := fun w => by kernel_rfl, z50 := fun w => by kernel_rfl, v50 := fun w => by kernel_rfl, t53 := by kernel_rfl, a53 := fun w => by kernel_rfl, z53 := fun w => by kernel_rfl, v53 := fun w => by kernel_rfl, t55 := by kernel_rfl, a55 := fun w => by kernel_rfl, z55 := fun w => by kernel_rfl, v55 := fun w => by kernel_rfl, t66 := by kernel_rfl, a66 := fun w => by kernel_rfl, z66 := fun w => by kernel_rfl, v66 := fun w => by kernel_rfl, t70 := by kernel_rfl, a70 := fun w => by kernel_rfl, z70 := fun w => by kernel_rfl, v70 := fun w => by kernel_rfl, t76 := by kernel_rfl, a76 := fun w => by kernel_rfl, z76 := fun w => by kernel_rfl, v76 := fun w => by kernel_rfl, t77 := by kernel_rfl, a77 := fun w => by kernel_rfl, z77 := fun w => by kernel_rfl, v77 := fun w => by kernel_rfl }
def slices_SortFunc_Lint__slices_Compare_int_cr : Shelf.Ren := ⟨fun k => if k = 122 then 74 else 82, fun t => if t = 4 then 4 else 3, fun x => x⟩
theorem slices_SortFunc_Lint__slices_Compare_int_cl : Lays.n122 Try.prog slices_SortFunc_Lint__slices_Compare_int_cr := { mixed := by kernel_rfl, f122 := by kernel_rfl, f215 := by kernel_rfl, t3 := by kernel_rfl, a3 := fun w => by kernel_rfl, z3 := fun w => by kernel_rfl, v3 := fun w => by kernel_rfl, t4 := by kernel_rfl, a4 := fun w => by kernel_rfl, z4 := fun w => by kernel_rfl, v4 := fun w => by kernel_rfl }
theorem slices_SortFunc_Lint__slices_Compare_int_c1 (x y : Int) (w : World) : Calls Try.prog 74 #[.int .i64 x, .int .i64 y] w fun e w' => e = .returned (.int .i64 (Lib.compareInt x y)) ∧ w' = w := Any.cmp_Compare_int slices_SortFunc_Lint__slices_Compare_int_cl x y w
theorem slices_SortFunc_Lint__slices_Compare_int_dr {xs ys : List Int} : ∀ {k : Nat}, (∀ j, j < k → xs.getD j 0 = ys.getD j 0) → k ≤ xs.length → k ≤ ys.length → cmpL xs ys = cmpL (xs.drop k) (ys.drop k)
  | 0, _, _, _ => rfl
  | k + 1, h, h1, h2 => by
    match xs, ys, h, h1, h2 with
    | x :: xs, y :: ys, h, h1, h2 =>
      have h0 := h 0 (by omega)
      simp only [List.getD_cons_zero] at h0
      subst h0
      have ih := slices_SortFunc_Lint__slices_Compare_int_dr (xs := xs) (ys := ys) (k := k) (fun j hj => by simpa using h (j + 1) (by omega)) (by simpa using h1) (by simpa using h2)
      simpa [cmpL] using ih
set_option maxHeartbeats 2000000 in
set_option maxRecDepth 100000 in
theorem slices_SortFunc_Lint__slices_Compare_int_cw (a1 a2 : Option Addr) (c1 c2 b1 o1 b2 o2 n m : Nat) (xs ys : List Int) (w : World) (hn : n = xs.length) (hm : m = ys.length) (hx : n ≤ 9223372036854775807) (hy : m ≤ 9223372036854775807) (h1 : 0 < n → a1 = some ⟨b1, o1, none⟩) (h2 : 0 < m → a2 = some ⟨b2, o2, none⟩)
    (hc1 : ∀ j, j < n → w.cell? ⟨b1, o1 + j, none⟩ = some (.int .i64 (xs.getD j 0))) (hc2 : ∀ j, j < m → w.cell? ⟨b2, o2 + j, none⟩ = some (.int .i64 (ys.getD j 0))) :
    Calls Try.prog 66 #[.slice a1 n c1, .slice a2 m c2] w fun e w' => e = .returned (.int .i64 (cmpL xs ys)) ∧ ∃ q, w' = w.drewN q := by
  have mixed : Try.prog.follows .mixedOrders = true := by kernel_rfl
  have t0 : Try.prog.underlying 0 = some (TypeDesc.tuple #[]) := by kernel_rfl
  have a0 : ∀ w, (isAgg 0).run Try.prog w = .ok false w := fun w => by kernel_rfl
  have z0 : ∀ w, (Go.sizeOf 0).run Try.prog w = .ok 1 w := fun w => by kernel_rfl
  have v0 : ∀ w, (zeroValue 0).run Try.prog w = .ok (Value.tuple #[]) w := fun w => by kernel_rfl
  have t3 : Try.prog.underlying 3 = some (TypeDesc.int IntKind.i64) := by kernel_rfl
  have a3 : ∀ w, (isAgg 3).run Try.prog w = .ok false w := fun w => by kernel_rfl
  have z3 : ∀ w, (Go.sizeOf 3).run Try.prog w = .ok 1 w := fun w => by kernel_rfl
  have v3 : ∀ w, (zeroValue 3).run Try.prog w = .ok (Value.int IntKind.i64 0) w := fun w => by kernel_rfl
  have t4 : Try.prog.underlying 4 = some (TypeDesc.bool) := by kernel_rfl
  have a4 : ∀ w, (isAgg 4).run Try.prog w = .ok false w := fun w => by kernel_rfl
  have z4 : ∀ w, (Go.sizeOf 4).run Try.prog w = .ok 1 w := fun w => by kernel_rfl
  have v4 : ∀ w, (zeroValue 4).run Try.prog w = .ok (Value.bool false) w := fun w => by kernel_rfl
  have t22 : Try.prog.underlying 42 = some (TypeDesc.slice 3) := by kernel_rfl
  have a22 : ∀ w, (isAgg 42).run Try.prog w = .ok false w := fun w => by kernel_rfl
  have z22 : ∀ w, (Go.sizeOf 42).run Try.prog w = .ok 1 w := fun w => by kernel_rfl
  have v22 : ∀ w, (zeroValue 42).run Try.prog w = .ok (Value.slice none 0 0) w := fun w => by kernel_rfl
  have e104 : ∀ args w, (callFunc 74 args).run Try.prog w = .ok (.enter 74 args) w := enters_of Try.func74 (by kernel_rfl) rfl
  have K1 : Aside (∀ j, j < n → w.cell? ⟨b1, o1 + j, none⟩ = some (.int .i64 (xs.getD j 0))) := hc1
  have K2 : Aside (∀ j, j < m → w.cell? ⟨b2, o2 + j, none⟩ = some (.int .i64 (ys.getD j 0))) := hc2
  have KN : Aside (n = xs.length ∧ m = ys.length) := ⟨hn, hm⟩
  clear hc1 hc2 hn hm
  go_enter Try.func66, Try.ntmps66
  go_wp2
  go_loopg [11] n (fun g s11 wr => ∃ k q : Nat, k ≤ n ∧ k ≤ m ∧ n - k ≤ g ∧ s11 = .int .i64 k ∧ wr = w.drewN q ∧ Aside (∀ j, j < k → xs.getD j 0 = ys.getD j 0))
  case atStart => exact ⟨0, 0, Nat.zero_le _, Nat.zero_le _, by omega, rfl, rfl, fun j hj => absurd hj (Nat.not_lt_zero _)⟩
  case round =>
    obtain ⟨k, q, hk, hkm, hg, rfl, rfl, heq⟩ := hrel
    by_cases hlt : k < n
    · obtain rfl := h1 (by omega)
      have g1 : w.cell? ⟨b1, o1 + k, none⟩ = some (.int .i64 (xs.getD k 0)) := K1.out k (by omega)
      generalize hxk : xs.getD k 0 = x at g1
      have B : Aside (xs.getD k 0 = x) := hxk
      clear hxk
      by_cases hlm : k < m
      · obtain rfl := h2 (by omega)
        have g2 : w.cell? ⟨b2, o2 + k, none⟩ = some (.int .i64 (ys.getD k 0)) := K2.out k (by omega)
        generalize hyk : ys.getD k 0 = y at g2
        have B2 : Aside (ys.getD k 0 = y) := hyk
        clear hyk
        have hd : cmpL xs ys = if x < y then -1 else if y < x then 1 else cmpL (xs.drop (k + 1)) (ys.drop (k + 1)) := by
          obtain ⟨e1, e2⟩ := KN.out
          rw [slices_SortFunc_Lint__slices_Compare_int_dr heq.out (by omega) (by omega), List.drop_eq_getElem_cons (i := k) (l := xs) (by omega), List.drop_eq_getElem_cons (i := k) (l := ys) (by omega)]
          rw [← B.out, ← B2.out, List.getD_eq_getElem?_getD, List.getD_eq_getElem?_getD, List.getElem?_eq_getElem (l := xs) (by omega), List.getElem?_eq_getElem (l := ys) (by omega)]
          rfl
        have D : Aside (cmpL xs ys = if x < y then -1 else if y < x then 1 else cmpL (xs.drop (k + 1)) (ys.drop (k + 1))) := hd
        clear hd
        rcases Int.lt_trichotomy x y with hxy | hxy | hxy
        · have hc : Lib.compareInt x y = -1 := by unfold Lib.compareInt; rw [if_pos hxy]
          have DD : Aside (cmpL xs ys = -1) := by have := D.out; rwa [if_pos hxy] at this
          go_wp2_with fail
          refine (slices_SortFunc_Lint__slices_Compare_int_c1 x y _).mono ?_
          rintro e w' ⟨rfl, rfl⟩
          rw [hc]
          go_wp2
          go_ret
          exact ⟨by rw [DD.out]; rfl, q, rfl⟩
        · subst hxy
          have hc : Lib.compareInt x x = 0 := by unfold Lib.compareInt; rw [if_neg (Int.lt_irrefl x), if_neg (Int.lt_irrefl x)]
          go_wp2_with fail
          refine (slices_SortFunc_Lint__slices_Compare_int_c1 x x _).mono ?_
          rintro e w' ⟨rfl, rfl⟩
          rw [hc]
          go_wp2
          go_roundg (n - (k + 1))
          case measure => omega
          case rel =>
            refine ⟨k + 1, q, by omega, by omega, by omega, by go_num, rfl, fun j hj => ?_⟩
            by_cases e : j = k
            · subst e
              rw [B.out, B2.out]
            · exact heq.out j (by omega)
        · have hc : Lib.compareInt x y = 1 := by unfold Lib.compareInt; rw [if_neg (by omega), if_pos hxy]
          have DD : Aside (cmpL xs ys = 1) := by have := D.out; rwa [if_neg (by omega), if_pos hxy] at this
          go_wp2_with fail
          refine (slices_SortFunc_Lint__slices_Compare_int_c1 x y _).mono ?_
          rintro e w' ⟨rfl, rfl⟩
          rw [hc]
          go_wp2
          go_ret
          exact ⟨by rw [DD.out]; rfl, q, rfl⟩
      · have D0 : cmpL xs ys = 1 := by
          obtain ⟨e1, e2⟩ := KN.out
          have hkm' : k = m := by omega
          rw [slices_SortFunc_Lint__slices_Compare_int_dr heq.out (by omega) (by omega), List.drop_eq_getElem_cons (i := k) (l := xs) (by omega), List.drop_of_length_le (l := ys) (by omega)]
          rfl
        have DD : Aside (cmpL xs ys = 1) := D0
        clear D0
        go_wp2_with fail
        go_ret
        exact ⟨by rw [DD.out]; rfl, q, rfl⟩
    · have : k = n := by omega
      subst this
      obtain ⟨e1, e2⟩ := KN.out
      have hd : cmpL xs ys = cmpL [] (ys.drop k) := by
        rw [slices_SortFunc_Lint__slices_Compare_int_dr heq.out (by omega) (by omega), List.drop_of_length_le (l := xs) (by omega)]
      by_cases hkm2 : k < m
      · have DD : Aside (cmpL xs ys = -1) := by
          show _ = _
          rw [hd, List.drop_eq_getElem_cons (i := k) (l := ys) (by omega)]
          rfl
        clear hd e1 e2
        go_wp2
        go_ret
        exact ⟨by rw [DD.out]; rfl, q, rfl⟩
      · have DD : Aside (cmpL xs ys = 0) := by
          show _ = _
          rw [hd, List.drop_of_length_le (l := ys) (by omega)]
          rfl
        clear hd e1 e2
        go_wp2
        go_ret
        exact ⟨by rw [DD.out]; rfl, q, rfl⟩

theorem slices_SortFunc_Lint__slices_Compare_int_cok : CmpOK Try.prog 66 := by
  intro a1 c1 a2 c2 xs ys W hx hy h1 h2
  have split : ∀ (a : Option Addr) (xs : List Int), LInt W a xs → ∃ b o, (0 < xs.length → a = some ⟨b, o, none⟩) ∧ ∀ j, j < xs.length → W.cell? ⟨b, o + j, none⟩ = some (.int .i64 (xs.getD j 0)) := fun a xs h => by
    rcases h with rfl | ⟨b, o, ha, hc⟩
    · exact ⟨0, 0, fun h => absurd h (Nat.lt_irrefl 0), fun j hj => absurd hj (Nat.not_lt_zero j)⟩
    · exact ⟨b, o, fun _ => ha, fun j hj => hc j _ (by rw [List.getD_eq_getElem?_getD, List.getElem?_eq_getElem hj]; rfl)⟩
  obtain ⟨b1, o1, p1, q1⟩ := split a1 xs h1
  obtain ⟨b2, o2, p2, q2⟩ := split a2 ys h2
  exact slices_SortFunc_Lint__slices_Compare_int_cw a1 a2 c1 c2 b1 o1 b2 o2 xs.length ys.length xs ys W rfl rfl hx hy p1 p2 q1 q2
theorem slices_SortFunc_Lint__slices_Compare_int_ok : FOK Try.prog n_slices_SortFunc_Lint slices_SortFunc_Lint__slices_Compare_int_sh slices_SortFunc_Lint__slices_Compare_int_fo slices_SortFunc_Lint__slices_Compare_int :=
  sortLists_ok ⟨_, fnat_slices_SortFunc_Lint, by kernel_rfl, by kernel_rfl⟩ (ρr := slices_SortFunc_Lint__slices_Compare_int_ren) rfl slices_SortFunc_Lint__slices_Compare_int_lay (enters_of fnat_slices_Compare_int (by kernel_rfl) rfl) slices_SortFunc_Lint__slices_Compare_int_cok

theorem lsL_ltL : ∀ a b : List Int, lsL a b = ltL a b
  | [], [] => rfl
  | [], y :: b => rfl
  | x :: a, [] => rfl
  | x :: a, y :: b => by
    have ih := lsL_ltL a b
    unfold lsL at ih ⊢
    unfold cmpL ltL
    split
    · rfl
    · split
      · rfl
      · exact ih
theorem slices_SortFunc_Lint__slices_Compare_int_eq (x : List (List Int)) (h : x.length < 4611686018427387904) (hb : ∀ l ∈ x, l.length ≤ 9223372036854775807) : slices_SortFunc_Lint__slices_Compare_int (((), ()), x) = some ((), sortL x) := by
  unfold slices_SortFunc_Lint__slices_Compare_int
  rw [if_pos ⟨h, List.all_eq_true.2 fun l hl => decide_eq_true (hb l hl)⟩]
  have e : sortL x = sortLL x := by
    refine sortLL_unique ((sortL_up x).imp fun {a b} hab => ?_) (sortL_perm x)
    rw [lsL_ltL]
    unfold leL at hab
    simpa using hab
  rw [e]


end Go.Proofs.W
