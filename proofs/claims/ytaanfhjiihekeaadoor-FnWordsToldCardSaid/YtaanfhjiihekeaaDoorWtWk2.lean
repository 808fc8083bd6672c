/- Functions of the program, walked, and what they compute. -/
import Derived.Test.YtaanfhjiihekeaaDoorWtWk1
set_option linter.unusedVariables false
set_option linter.unusedSimpArgs false
set_option maxRecDepth 100000
set_option maxHeartbeats 4000000
namespace Go.Proofs.W
open Go Go.Gm Go.Proofs
open Go.RowKit Go.Shelf
def s_l1Cur_terms_sh : FSh := ⟨[(.one (.pf 0 0 0)), (.one (.si .i64)), (.one (.si .i64))], [(.rcd 0 [(.sl (.int .u8) false true), (.si .i64), (.si .u64)])]⟩

def s_l1Cur_terms_L3_sh : LSh := ⟨(fun ex => match ex with | .norm => [(0, none), (1, none), (2, none), (7, none), (8, none)] | .exit i => if i = 0 then [(0, none), (7, none)] else [] | .ret => [(6, none)]), [(0, (.one (.pf 0 0 0))), (1, (.one (.si .i64))), (2, (.one (.si .i64))), (7, (.one (.rw 1 0))), (8, (.one (.si .i64)))], [(.rcd 0 [(.sl (.int .u8) false true), (.si .i64), (.si .u64)]), (.row 0 (.int .i64))], [⟨(.exit 0), [(0, (.one (.pf 0 0 0))), (7, (.one (.rw 1 0)))], [(.rcd 0 [(.sl (.int .u8) false true), (.si .i64), (.si .u64)]), (.row 0 (.int .i64))]⟩], [], []⟩
noncomputable def s_l1Cur_terms_L3_step : ((Unit × Int × Int × Unit × Int) × ((List (Int) × Int × Int) × List (Int))) → T (((Unit × Int × Int × Unit × Int) × ((List (Int) × Int × Int) × List (Int))) ⊕ ((Unit × Unit) × ((List (Int) × Int × Int) × List (Int)))) := fun (((), low, high, (), k), ((c_0, c_1, c_2), out)) =>
  (.test (decide (k > 0))
  (.sub (s_l1Cur_pick (((), (w64 ((w64 (high - low)) + 1))), (c_0, (c_1, c_2)))) fun z0 =>
   (.test (decide (1 ≤ (List.length (List.set (List.replicate 1 (0 : Int)) 0 (w64 (low + z0.1))))))
   (.test (decide ((0 + (List.length out)) ≤ (List.length out)))
    (.test (decide ((2 * (((List.length out) + (List.length (win (List.set (List.replicate 1 (0 : Int)) 0 (w64 (low + z0.1))) 0 1))) * 9)) ≤ 140737488355328))
     (.test (decide ((0 = 0) ∧ (((List.length out) + (List.length (win (List.set (List.replicate 1 (0 : Int)) 0 (w64 (low + z0.1))) 0 1))) = (List.length ((win out 0 (List.length out)) ++ (win (List.set (List.replicate 1 (0 : Int)) 0 (w64 (low + z0.1))) 0 1))))))
      (.ret (Sum.inl (((), (low, (high, ((), (w64 (k - 1)))))), ((z0.2.1, (z0.2.2.1, z0.2.2.2)), ((win out 0 (List.length out)) ++ (win (List.set (List.replicate 1 (0 : Int)) 0 (w64 (low + z0.1))) 0 1))))))
      .fail)
     .fail)
    .fail)
   .fail))
  (.test (decide ((0 = 0) ∧ ((List.length out) = (List.length out))))
   (.ret (Sum.inr (((), ()), ((c_0, (c_1, c_2)), out))))
   .fail))
noncomputable def s_l1Cur_terms_L3 (v : ((Unit × Int × Int × Unit × Int) × ((List (Int) × Int × Int) × List (Int)))) : Option ((Unit × Unit) × ((List (Int) × Int × Int) × List (Int))) := loopO (fun v => (s_l1Cur_terms_L3_step v).run) v

def s_l1Cur_terms_L10_sh : LSh := ⟨(fun ex => match ex with | .norm => [(0, none), (7, none)] | .exit i => if i = 3 then [(7, none)] else if i = 2 then [(7, none)] else [] | .ret => [(6, none)]), [(0, (.one (.pf 0 0 0))), (7, (.one (.rw 1 0)))], [(.rcd 0 [(.sl (.int .u8) false true), (.si .i64), (.si .u64)]), (.row 0 (.int .i64))], [⟨(.exit 3), [(7, (.one (.rw 1 0)))], [(.rcd 0 [(.sl (.int .u8) false true), (.si .i64), (.si .u64)]), (.row 0 (.int .i64))]⟩], [], []⟩
noncomputable def s_l1Cur_terms_L10_step : ((Unit × Unit) × ((List (Int) × Int × Int) × List (Int))) → T (((Unit × Unit) × ((List (Int) × Int × Int) × List (Int))) ⊕ (Unit × ((List (Int) × Int × Int) × List (Int)))) := fun (((), ()), ((c_0, c_1, c_2), out)) =>
  (.sub (s_l1Cur_pick (((), (2 : Int)), (c_0, (c_1, c_2)))) fun z0 =>
  (.test (decide (((List.length out) : Int) < (w64 (10 + z0.1))))
  (.test true
   (.test (decide ((0 + (List.length out)) ≤ (List.length out)))
    (.test (decide ((2 * (((List.length out) + 1) * 9)) ≤ 140737488355328))
     (.test (decide ((0 = 0) ∧ (((List.length out) + 1) = (List.length ((win out 0 (List.length out)) ++ (win (List.set (List.replicate 1 (0 : Int)) 0 (2 : Int)) 0 1))))))
      (.ret (Sum.inl (((), ()), ((z0.2.1, (z0.2.2.1, z0.2.2.2)), ((win out 0 (List.length out)) ++ (win (List.set (List.replicate 1 (0 : Int)) 0 (2 : Int)) 0 1))))))
      .fail)
     .fail)
    .fail)
   .fail)
  (.test (decide ((0 = 0) ∧ ((List.length out) = (List.length out))))
   (.ret (Sum.inr ((), ((z0.2.1, (z0.2.2.1, z0.2.2.2)), out))))
   .fail)))
noncomputable def s_l1Cur_terms_L10 (v : ((Unit × Unit) × ((List (Int) × Int × Int) × List (Int)))) : Option (Unit × ((List (Int) × Int × Int) × List (Int))) := loopO (fun v => (s_l1Cur_terms_L10_step v).run) v

def s_l1Cur_terms_L13_sh : LSh := ⟨(fun ex => match ex with | .norm => [(7, none)] | .exit i => if i = 5 then [(7, none)] else if i = 2 then [(7, none)] else [] | .ret => [(6, none)]), [(7, (.one (.rw 1 0)))], [(.rcd 0 [(.sl (.int .u8) false true), (.si .i64), (.si .u64)]), (.row 0 (.int .i64))], [⟨(.exit 5), [(7, (.one (.rw 1 0)))], [(.rcd 0 [(.sl (.int .u8) false true), (.si .i64), (.si .u64)]), (.row 0 (.int .i64))]⟩], [], []⟩
noncomputable def s_l1Cur_terms_L13_step : (Unit × ((List (Int) × Int × Int) × List (Int))) → T ((Unit × ((List (Int) × Int × Int) × List (Int))) ⊕ (Unit × ((List (Int) × Int × Int) × List (Int)))) := fun ((), ((r0_0, r0_1, r0_2), out)) =>
  (.test (decide (((List.length out) : Int) < 10))
  (.test true
   (.test (decide ((0 + (List.length out)) ≤ (List.length out)))
    (.test (decide ((2 * (((List.length out) + 1) * 9)) ≤ 140737488355328))
     (.test (decide ((0 = 0) ∧ (((List.length out) + 1) = (List.length ((win out 0 (List.length out)) ++ (win (List.set (List.replicate 1 (0 : Int)) 0 (30 : Int)) 0 1))))))
      (.ret (Sum.inl ((), ((r0_0, (r0_1, r0_2)), ((win out 0 (List.length out)) ++ (win (List.set (List.replicate 1 (0 : Int)) 0 (30 : Int)) 0 1))))))
      .fail)
     .fail)
    .fail)
   .fail)
  (.test (decide ((0 = 0) ∧ ((List.length out) = (List.length out))))
   (.ret (Sum.inr ((), ((r0_0, (r0_1, r0_2)), out))))
   .fail))
noncomputable def s_l1Cur_terms_L13 (v : (Unit × ((List (Int) × Int × Int) × List (Int)))) : Option (Unit × ((List (Int) × Int × Int) × List (Int))) := loopO (fun v => (s_l1Cur_terms_L13_step v).run) v

def s_l1Cur_terms_fo : List FO := [⟨[(.one (.rw 1 0))], [(.rcd 0 [(.sl (.int .u8) false true), (.si .i64), (.si .u64)]), (.row 0 (.int .i64))]⟩]
noncomputable def s_l1Cur_terms_t : ((Unit × Int × Int) × (List (Int) × Int × Int)) → T (Unit × ((List (Int) × Int × Int) × List (Int))) := fun (((), low, high), (c_0, c_1, c_2)) =>
  (.sub (s_l1Cur_pick (((), (8 : Int)), (c_0, (c_1, c_2)))) fun z0 =>
  (.test (decide ((0 = 0) ∧ (0 = (List.length ([] : List (Int))))))
  (.sub (s_l1Cur_terms_L3 (((), (low, (high, ((), z0.1)))), ((z0.2.1, (z0.2.2.1, z0.2.2.2)), ([] : List (Int))))) fun z1 =>
   (.sub (s_l1Cur_pick (((), (14 : Int)), (z1.2.1.1, (z1.2.1.2.1, z1.2.1.2.2)))) fun z2 =>
   (.test (z2.1 == 0)
   (.test true
    (.sub (s_l1Cur_among (((), (win (List.set (List.set (List.set (List.set (List.replicate 4 (0 : Int)) 0 (30 : Int)) 1 (31 : Int)) 2 (-30)) 3 (-9223372036854775808)) 0 4)), (z2.2.1, (z2.2.2.1, z2.2.2.2)))) fun z3 =>
     (.test (decide (1 ≤ (List.length (List.set (List.replicate 1 (0 : Int)) 0 z3.1))))
     (.test (decide ((0 + (List.length z1.2.2)) ≤ (List.length z1.2.2)))
      (.test (decide ((2 * (((List.length z1.2.2) + (List.length (win (List.set (List.replicate 1 (0 : Int)) 0 z3.1) 0 1))) * 9)) ≤ 140737488355328))
       (.test (decide ((0 = 0) ∧ (((List.length z1.2.2) + (List.length (win (List.set (List.replicate 1 (0 : Int)) 0 z3.1) 0 1))) = (List.length ((win z1.2.2 0 (List.length z1.2.2)) ++ (win (List.set (List.replicate 1 (0 : Int)) 0 z3.1) 0 1))))))
        (.ret ((), ((z3.2.1, (z3.2.2.1, z3.2.2.2)), ((win z1.2.2 0 (List.length z1.2.2)) ++ (win (List.set (List.replicate 1 (0 : Int)) 0 z3.1) 0 1)))))
        .fail)
       .fail)
      .fail)
     .fail))
    .fail)
   (.test (z2.1 == 1)
    (.test (decide ((0 = 0) ∧ ((List.length z1.2.2) = (List.length z1.2.2))))
     (.sub (s_l1Cur_terms_L10 (((), ()), ((z2.2.1, (z2.2.2.1, z2.2.2.2)), z1.2.2))) fun z4 =>
      (.test (decide ((0 = 0) ∧ ((List.length z4.2.2) = (List.length z4.2.2))))
      (.ret ((), ((z4.2.1.1, (z4.2.1.2.1, z4.2.1.2.2)), z4.2.2)))
      .fail))
     .fail)
    (.test (z2.1 == 2)
     (.test (decide ((0 = 0) ∧ ((List.length z1.2.2) = (List.length z1.2.2))))
      (.sub (s_l1Cur_terms_L13 ((), ((z2.2.1, (z2.2.2.1, z2.2.2.2)), z1.2.2))) fun z5 =>
       (.test (decide ((0 = 0) ∧ ((List.length z5.2.2) = (List.length z5.2.2))))
       (.ret ((), ((z5.2.1.1, (z5.2.1.2.1, z5.2.1.2.2)), z5.2.2)))
       .fail))
      .fail)
     (.test (decide ((0 = 0) ∧ ((List.length z1.2.2) = (List.length z1.2.2))))
      (.ret ((), ((z2.2.1, (z2.2.2.1, z2.2.2.2)), z1.2.2)))
      .fail))))))
  .fail))
noncomputable def s_l1Cur_terms (v : ((Unit × Int × Int) × (List (Int) × Int × Int))) : Option (Unit × ((List (Int) × Int × Int) × List (Int))) := (s_l1Cur_terms_t v).run
noncomputable def s_l1Cur_terms_E : TEnv := ((E0.add1 n_s_l1Cur_pick s_l1Cur_pick_sh s_l1Cur_pick_fo s_l1Cur_pick).add1 n_s_l1Cur_among s_l1Cur_among_sh s_l1Cur_among_fo s_l1Cur_among)
theorem s_l1Cur_terms_Eok : (s_l1Cur_terms_E).OK := ((E0ok.add1 s_l1Cur_pick_ok).add1 s_l1Cur_among_ok)
noncomputable def s_l1Cur_terms_told : Nat → Option SealT := fun id => if id = 3 then some (LSh.told s_l1Cur_terms_L3_sh 1 (s_l1Cur_terms_L3_step)) else if id = 10 then some (LSh.told s_l1Cur_terms_L10_sh 1 (s_l1Cur_terms_L10_step)) else if id = 13 then some (LSh.told s_l1Cur_terms_L13_sh 1 (s_l1Cur_terms_L13_step)) else none
theorem s_l1Cur_terms_L3_ok : ToldOK Tryd.prog 1 (loopAt (bodyOf fn_s_l1Cur_terms) [0]) (LSh.told s_l1Cur_terms_L3_sh 1 (s_l1Cur_terms_L3_step)) :=
  loop_ok (E := s_l1Cur_terms_E) (s_l1Cur_terms_Eok) (told := s_l1Cur_terms_told) (l := s_l1Cur_terms_L3_sh) (step := s_l1Cur_terms_L3_step) (loopsOK_of (ls := []) (by kernel_rfl) trivial) (by kernel_rfl) (fun v => by kernel_rfl)
theorem s_l1Cur_terms_L10_ok : ToldOK Tryd.prog 1 (loopAt (bodyOf fn_s_l1Cur_terms) [1]) (LSh.told s_l1Cur_terms_L10_sh 1 (s_l1Cur_terms_L10_step)) :=
  loop_ok (E := s_l1Cur_terms_E) (s_l1Cur_terms_Eok) (told := s_l1Cur_terms_told) (l := s_l1Cur_terms_L10_sh) (step := s_l1Cur_terms_L10_step) (loopsOK_of (ls := []) (by kernel_rfl) trivial) (by kernel_rfl) (fun v => by kernel_rfl)
theorem s_l1Cur_terms_L13_ok : ToldOK Tryd.prog 1 (loopAt (bodyOf fn_s_l1Cur_terms) [2]) (LSh.told s_l1Cur_terms_L13_sh 1 (s_l1Cur_terms_L13_step)) :=
  loop_ok (E := s_l1Cur_terms_E) (s_l1Cur_terms_Eok) (told := s_l1Cur_terms_told) (l := s_l1Cur_terms_L13_sh) (step := s_l1Cur_terms_L13_step) (loopsOK_of (ls := []) (by kernel_rfl) trivial) (by kernel_rfl) (fun v => by kernel_rfl)
theorem s_l1Cur_terms_ok : FOK Tryd.prog n_s_l1Cur_terms s_l1Cur_terms_sh s_l1Cur_terms_fo s_l1Cur_terms :=
  fn_ok (E := s_l1Cur_terms_E) (s_l1Cur_terms_Eok) (told := s_l1Cur_terms_told) (fl := []) (c := bodyOf fn_s_l1Cur_terms) (s := s_l1Cur_terms_sh) (l := s_l1Cur_terms_fo) (tree := s_l1Cur_terms_t) fnat_s_l1Cur_terms (by kernel_rfl) (by kernel_rfl) (by kernel_rfl) (loopsOK_of (ls := [loopAt (bodyOf fn_s_l1Cur_terms) [0], loopAt (bodyOf fn_s_l1Cur_terms) [1], loopAt (bodyOf fn_s_l1Cur_terms) [2]]) (by kernel_rfl) ⟨.inr ⟨_, by kernel_rfl, s_l1Cur_terms_L3_ok⟩, ⟨.inr ⟨_, by kernel_rfl, s_l1Cur_terms_L10_ok⟩, ⟨.inr ⟨_, by kernel_rfl, s_l1Cur_terms_L13_ok⟩, trivial⟩⟩⟩) (fun v => by kernel_rfl)

def s_ctGood_sh : FSh := ⟨[(.one (.sl (.int .i64) false false))], []⟩

def s_ctGood_fo : List FO := [⟨[(.one .sb)], []⟩]
noncomputable def s_ctGood_t : List (Int) → T Bool := fun list =>
  (.test (decide (((List.length list) : Int) ≤ 10))
  (.sub (s_l1All (list, ((-30), (30 : Int)))) fun z0 =>
   (.ret z0))
  (.ret false))
noncomputable def s_ctGood (v : List (Int)) : Option Bool := (s_ctGood_t v).run
noncomputable def s_ctGood_E : TEnv := (E0.add1 n_s_l1All s_l1All_sh s_l1All_fo s_l1All)
theorem s_ctGood_Eok : (s_ctGood_E).OK := (E0ok.add1 s_l1All_ok)
noncomputable def s_ctGood_told : Nat → Option SealT := fun id => none
theorem s_ctGood_ok : FOK Tryd.prog n_s_ctGood s_ctGood_sh s_ctGood_fo s_ctGood :=
  fn_ok (E := s_ctGood_E) (s_ctGood_Eok) (told := s_ctGood_told) (fl := []) (c := bodyOf fn_s_ctGood) (s := s_ctGood_sh) (l := s_ctGood_fo) (tree := s_ctGood_t) fnat_s_ctGood (by kernel_rfl) (by kernel_rfl) (by kernel_rfl) (loopsOK_of (ls := []) (by kernel_rfl) trivial) (fun v => by kernel_rfl)

theorem s_ctGood_eq (l : List Int) (hl : l.length < 4611686018427387904) : s_ctGood l = some (isTerms l) := by
  simp only [s_ctGood, s_ctGood_t, T.run, s_l1All_eq _ _ _ hl, Option.bind_some, isTerms, decide_eq_true_eq]
  by_cases h : l.length ≤ 10
  · rw [if_pos (by omega)]; simp [h]
  · rw [if_neg (by omega)]; simp [h]


def s_ctValue_sh : FSh := ⟨[(.one (.sl (.int .i64) false false)), (.one (.si .i64))], []⟩

def s_ctValue_L3_sh : LSh := ⟨(fun ex => match ex with | .norm => [(1, none), (5, none), (6, none), (10, none), (11, none), (12, none)] | .exit i => if i = 0 then [(6, none)] else [] | .ret => [(4, none)]), [(1, (.one (.si .i64))), (5, (.one (.si .i64))), (6, (.one (.si .i64))), (10, (.one (.sl (.int .i64) false false))), (11, (.one (.si .i64))), (12, (.one (.si .i64)))], [], [⟨(.exit 0), [(6, (.one (.si .i64)))], []⟩], [], []⟩
noncomputable def s_ctValue_L3_step : (Int × Int × Int × List (Int) × Int × Int) → T ((Int × Int × Int × List (Int) × Int × Int) ⊕ Int) := fun (sign, before, at', t10, t11, t12) =>
  (.test (decide (t12 < t11))
  (.test (decide ((0 ≤ t12) ∧ (t12 < ((List.length t10) : Int))))
   (.sub (t10[(Int.toNat t12)]?) fun z0 =>
    (.ret (Sum.inl (sign, (at', ((w64 ((w64 (z0 * at')) + (w64 (sign * before)))), (t10, (t11, (w64 (t12 + 1))))))))))
   .fail)
  (.ret (Sum.inr at')))
noncomputable def s_ctValue_L3 (v : (Int × Int × Int × List (Int) × Int × Int)) : Option Int := loopO (fun v => (s_ctValue_L3_step v).run) v

def s_ctValue_fo : List FO := [⟨[(.one (.si .i64))], []⟩]
noncomputable def s_ctValue_t : (List (Int) × Int) → T Int := fun (list, sign) =>
  (.sub (s_ctValue_L3 (sign, ((0 : Int), ((1 : Int), (list, (((List.length list) : Int), (0 : Int))))))) fun z0 =>
  (.ret z0))
noncomputable def s_ctValue (v : (List (Int) × Int)) : Option Int := (s_ctValue_t v).run
noncomputable def s_ctValue_E : TEnv := E0
theorem s_ctValue_Eok : (s_ctValue_E).OK := E0ok
noncomputable def s_ctValue_told : Nat → Option SealT := fun id => if id = 3 then some (LSh.told s_ctValue_L3_sh 0 (s_ctValue_L3_step)) else none
theorem s_ctValue_L3_ok : ToldOK Tryd.prog 0 (loopAt (bodyOf fn_s_ctValue) [0]) (LSh.told s_ctValue_L3_sh 0 (s_ctValue_L3_step)) :=
  loop_ok (E := s_ctValue_E) (s_ctValue_Eok) (told := s_ctValue_told) (l := s_ctValue_L3_sh) (step := s_ctValue_L3_step) (loopsOK_of (ls := []) (by kernel_rfl) trivial) (by kernel_rfl) (fun v => by kernel_rfl)
theorem s_ctValue_ok : FOK Tryd.prog n_s_ctValue s_ctValue_sh s_ctValue_fo s_ctValue :=
  fn_ok (E := s_ctValue_E) (s_ctValue_Eok) (told := s_ctValue_told) (fl := []) (c := bodyOf fn_s_ctValue) (s := s_ctValue_sh) (l := s_ctValue_fo) (tree := s_ctValue_t) fnat_s_ctValue (by kernel_rfl) (by kernel_rfl) (by kernel_rfl) (loopsOK_of (ls := [loopAt (bodyOf fn_s_ctValue) [0]]) (by kernel_rfl) ⟨.inr ⟨_, by kernel_rfl, s_ctValue_L3_ok⟩, trivial⟩) (fun v => by kernel_rfl)

theorem s_ctValue_eq (l : List Int) (sign : Int) (hs : sign = 1 ∨ sign = -1) (hl : l.length ≤ 10) (ht : ∀ x ∈ l, -30 ≤ x ∧ x ≤ 30) : s_ctValue (l, sign) = some (cont sign l) := by
  have h := loop_fold (step := fun v => (s_ctValue_L3_step v).run) (xs := l) (fun k p => cfB k p) (fun k p => (sign, p.1, p.2, l, (l.length : Int), (k : Int))) (cf sign) (fun p => p.2)
    (fun k p x hP hx => by
      have hk := getElem?_lt hx
      have hb := cfB_step hs hP (ht x (List.mem_of_getElem? hx))
      have hp := pw_le (k := k + 1) (by omega)
      have hp2 := pw_succ k
      obtain ⟨h1, h2, h3, h4⟩ := hP
      obtain ⟨⟨g1, g2, g3, g4⟩, g5, g6⟩ := hb
      simp only [s_ctValue_L3_step, T.run, Option.bind_some, Int.toNat_natCast, hx]
      simp only [cf] at g3 g4
      have e1 : w64 (x * p.2) = x * p.2 := w64_id (by omega) (by omega)
      have e2 : w64 (sign * p.1) = sign * p.1 := by rcases hs with rfl | rfl <;> exact w64_id (by omega) (by omega)
      rw [e1, e2, w64_id (by omega) (by omega), w64_id (by omega) (by omega)]
      exact ⟨by simp [hk, cf], ⟨g1, g2, g3, g4⟩⟩)
    (fun s hP => by simp [s_ctValue_L3_step, T.run]) (0, 1) (by simp [cfB, pw])
  simp only [s_ctValue, s_ctValue_t, T.run, s_ctValue_L3]
  simp only [Int.natCast_zero] at h
  rw [h.1]
  rfl


def s_mxList_sh : FSh := ⟨[(.one (.sl (.int .i64) false false))], []⟩

def s_mxList_fo : List FO := [⟨[(.ag [(.si .i64), (.si .i64), (.si .i64), (.si .i64)])], []⟩]
noncomputable def s_mxList_t : List (Int) → T (Int × Int × Int × Int) := fun list =>
  (.test (((List.length list) : Int) == 0)
  (.sub (s_mxOne ()) fun z0 =>
   (.ret (z0.1, (z0.2.1, (z0.2.2.1, z0.2.2.2)))))
  (.sub (s_ctValue (list, (-1))) fun z1 =>
   (.test (decide (0 ≤ (w64 (((List.length list) : Int) - 1))))
   (.test (decide ((0 ≤ (Int.toNat (w64 (((List.length list) : Int) - 1)))) ∧ ((Int.toNat (w64 (((List.length list) : Int) - 1))) ≤ (List.length list))))
    (.sub (s_ctValue ((win list 0 ((Int.toNat (w64 (((List.length list) : Int) - 1))) - 0)), (-1))) fun z2 =>
     (.test true
     (.test (decide ((1 ≤ (List.length list)) ∧ ((List.length list) ≤ (List.length list))))
      (.sub (s_ctValue ((win list 1 ((List.length list) - 1)), (-1))) fun z3 =>
       (.test (decide (((List.length list) : Int) > 1))
       (.test true
        (.test (decide (0 ≤ (w64 (((List.length list) : Int) - 1))))
         (.test (decide ((1 ≤ (Int.toNat (w64 (((List.length list) : Int) - 1)))) ∧ ((Int.toNat (w64 (((List.length list) : Int) - 1))) ≤ (List.length list))))
          (.sub (s_ctValue ((win list 1 ((Int.toNat (w64 (((List.length list) : Int) - 1))) - 1)), (-1))) fun z4 =>
           (.ret (z1, ((w64 (0 - z2)), (z3, (w64 (0 - z4)))))))
          .fail)
         .fail)
        .fail)
       (.ret (z1, ((w64 (0 - z2)), (z3, (0 : Int)))))))
      .fail)
     .fail))
    .fail)
   .fail)))
noncomputable def s_mxList (v : List (Int)) : Option (Int × Int × Int × Int) := (s_mxList_t v).run
noncomputable def s_mxList_E : TEnv := ((E0.add1 n_s_mxOne s_mxOne_sh s_mxOne_fo s_mxOne).add1 n_s_ctValue s_ctValue_sh s_ctValue_fo s_ctValue)
theorem s_mxList_Eok : (s_mxList_E).OK := ((E0ok.add1 s_mxOne_ok).add1 s_ctValue_ok)
noncomputable def s_mxList_told : Nat → Option SealT := fun id => none
theorem s_mxList_ok : FOK Tryd.prog n_s_mxList s_mxList_sh s_mxList_fo s_mxList :=
  fn_ok (E := s_mxList_E) (s_mxList_Eok) (told := s_mxList_told) (fl := []) (c := bodyOf fn_s_mxList) (s := s_mxList_sh) (l := s_mxList_fo) (tree := s_mxList_t) fnat_s_mxList (by kernel_rfl) (by kernel_rfl) (by kernel_rfl) (loopsOK_of (ls := []) (by kernel_rfl) trivial) (fun v => by kernel_rfl)

theorem s_mxList_eq (l : List Int) (h : isTerms l = true) : s_mxList l = some (mOf l) := by
  obtain ⟨hl, ht⟩ := isTerms_iff.1 h
  cases l with
  | nil => simp [s_mxList, s_mxList_t, T.run, s_mxOne_eq, mOf, one4]
  | cons b t =>
    have hb := mOf_B (b :: t) ht
    have hp := pw_le (k := (b :: t).length) (by omega)
    have ht' : ∀ x ∈ t, -30 ≤ x ∧ x ≤ 30 := fun x hx => ht x (List.mem_cons_of_mem _ hx)
    simp only [List.length_cons] at hl hp hb
    have e2 : w64 (((t.length + 1 : Nat) : Int) - 1) = (t.length : Int) := by rw [w64_id (by omega) (by omega)]; omega
    have e3 : win (b :: t) 0 t.length = (b :: t).dropLast := by rw [win_take, List.dropLast_eq_take]; simp
    have e4 : win (b :: t) 1 t.length = t := by unfold win; simp
    have e5 : win (b :: t) 1 (t.length - 1) = t.dropLast := by unfold win; simp [List.dropLast_eq_take]
    have hd : ∀ x ∈ (b :: t).dropLast, -30 ≤ x ∧ x ≤ 30 := fun x hx => ht x (by rw [List.dropLast_eq_take] at hx; exact List.mem_of_mem_take hx)
    have hd2 : ∀ x ∈ t.dropLast, -30 ≤ x ∧ x ≤ 30 := fun x hx => ht' x (by rw [List.dropLast_eq_take] at hx; exact List.mem_of_mem_take hx)
    have hc1 := s_ctValue_eq (b :: t) (-1) (.inr rfl) (by simpa using hl) ht
    have hc2 := s_ctValue_eq (b :: t).dropLast (-1) (.inr rfl) (by simp; omega) hd
    have hc3 := s_ctValue_eq t (-1) (.inr rfl) (by omega) ht'
    have hc4 := s_ctValue_eq t.dropLast (-1) (.inr rfl) (by simp; omega) hd2
    have f1 := cont2_fst (-1) (b :: t)
    have f2 := cont2_fst (-1) t
    simp only [mOf, f1, f2, reduceCtorEq, if_false, in4] at hb ⊢
    simp only [s_mxList, s_mxList_t, T.run, List.length_cons, e2, Int.toNat_natCast, Nat.sub_zero, Nat.add_sub_cancel, hc1, Option.bind_some, e3, e4, e5, hc2, hc3, hc4]
    have n1 : w64 (0 - cont (-1) (b :: t).dropLast) = -cont (-1) (b :: t).dropLast := by rw [w64_id (by omega) (by omega)]; omega
    by_cases h0 : t = []
    · subst h0
      rw [n1]
      simp
    · have hpos : 0 < t.length := List.length_pos_iff.2 h0
      simp only [if_neg h0] at hb ⊢
      have n2 : w64 (0 - cont (-1) t.dropLast) = -cont (-1) t.dropLast := by rw [w64_id (by omega) (by omega)]; omega
      rw [n1, n2]
      simp [show ¬ ((t.length : Int) + 1 = 0) by omega, show 1 < (t.length : Int) + 1 by omega, show 1 ≤ t.length by omega]


def s_MatrixOfList_sh : FSh := ⟨[(.one (.sl (.int .i64) false false))], []⟩

def s_MatrixOfList_fo : List FO := [⟨[(.ag [(.si .i64), (.si .i64), (.si .i64), (.si .i64)]), (.one .sb)], []⟩]
noncomputable def s_MatrixOfList_t : List (Int) → T ((Int × Int × Int × Int) × Bool) := fun list =>
  (.sub (s_ctGood list) fun z0 =>
  (.test (! z0)
  (.ret (((0 : Int), ((0 : Int), ((0 : Int), (0 : Int)))), false))
  (.sub (s_mxList list) fun z1 =>
   (.sub (s_mxIf (z1.1, (z1.2.1, (z1.2.2.1, z1.2.2.2)))) fun z2 =>
   (.ret ((z2.1.1, (z2.1.2.1, (z2.1.2.2.1, z2.1.2.2.2))), z2.2))))))
noncomputable def s_MatrixOfList (v : List (Int)) : Option ((Int × Int × Int × Int) × Bool) := (s_MatrixOfList_t v).run
noncomputable def s_MatrixOfList_E : TEnv := (((E0.add1 n_s_ctGood s_ctGood_sh s_ctGood_fo s_ctGood).add1 n_s_mxList s_mxList_sh s_mxList_fo s_mxList).add1 n_s_mxIf s_mxIf_sh s_mxIf_fo s_mxIf)
theorem s_MatrixOfList_Eok : (s_MatrixOfList_E).OK := (((E0ok.add1 s_ctGood_ok).add1 s_mxList_ok).add1 s_mxIf_ok)
noncomputable def s_MatrixOfList_told : Nat → Option SealT := fun id => none
theorem s_MatrixOfList_ok : FOK Tryd.prog n_s_MatrixOfList s_MatrixOfList_sh s_MatrixOfList_fo s_MatrixOfList :=
  fn_ok (E := s_MatrixOfList_E) (s_MatrixOfList_Eok) (told := s_MatrixOfList_told) (fl := []) (c := bodyOf fn_s_MatrixOfList) (s := s_MatrixOfList_sh) (l := s_MatrixOfList_fo) (tree := s_MatrixOfList_t) fnat_s_MatrixOfList (by kernel_rfl) (by kernel_rfl) (by kernel_rfl) (loopsOK_of (ls := []) (by kernel_rfl) trivial) (fun v => by kernel_rfl)

theorem s_MatrixOfList_eq (l : List Int) (hl : l.length < 4611686018427387904) : s_MatrixOfList l = some (if isTerms l && good4 (mOf l) then (mOf l, true) else ((0, 0, 0, 0), false)) := by
  simp only [s_MatrixOfList, s_MatrixOfList_t, T.run, s_ctGood_eq l hl, Option.bind_some]
  cases h : isTerms l with
  | false => simp
  | true =>
    simp only [Bool.not_true, Bool.false_eq_true, if_false, s_mxList_eq l h, Option.bind_some, s_mxIf_eq, Bool.true_and]



theorem terms_L3 (low high : Int) (hlo : -100 ≤ low ∧ low ≤ 100) (hhi : -100 ≤ high ∧ high ≤ 100) : ∀ (m : Nat) (K : Int) (c : List Int × Int × Int) (out : List Int), curOK K c → K + 2 * (m : Int) < 10000000000000 → m ≤ 100 → out.length + m ≤ 100 →
    ∃ c' out', s_l1Cur_terms_L3 (((), (low, (high, ((), (m : Int))))), (c, out)) = some (((), ()), (c', out')) ∧ out'.length ≤ out.length + m ∧ curOK (K + 2 * (m : Int)) c' := by
  intro m
  induction m with
  | zero =>
    intro K c out h hK hm hl
    obtain ⟨c0, c1, c2⟩ := c
    refine ⟨_, out, ?_, Nat.le_refl _, h.mono (by omega)⟩
    simp only [s_l1Cur_terms_L3]
    exact loopO_done (by simp [s_l1Cur_terms_L3_step, T.run])
  | succ m ih =>
    intro K c out h hK hm hl
    obtain ⟨c0, c1, c2⟩ := c
    obtain ⟨v, ⟨d0, d1, d2⟩, e, h0, h1, h2, hc⟩ := pick_ok (w64 (w64 (high - low) + 1)) h (by omega)
    obtain ⟨c', out', e2, h3, h4⟩ := ih (K + 2) (d0, d1, d2) (out ++ [w64 (low + v)]) hc (by omega) (by omega) (by simp; omega)
    refine ⟨c', out', ?_, by simp at h3; omega, h4.mono (by omega)⟩
    have c9 : ((m + 1 : Nat) : Int) > 0 := by omega
    have w1 : w64 (((m + 1 : Nat) : Int) - 1) = (m : Int) := by rw [w64_id (by omega) (by omega)]; omega
    have hlen : 2 * ((out.length + 1) * 9) ≤ 140737488355328 := by omega
    simp only [s_l1Cur_terms_L3] at e2 ⊢
    rw [← e2]
    refine loopO_next ?_
    rw [s_l1Cur_terms_L3_step, T.run_test, if_pos (decide_eq_true c9), T.run_sub, e, Option.bind_some]
    have wm : w64 (m : Int) = (m : Int) := w64_id (by omega) (by omega)
    simp [T.run, win_all, win_one, win_sing, hlen, wm]
theorem terms_L10 : ∀ (m : Nat) (K : Int) (c : List Int × Int × Int) (out : List Int), curOK K c → K + 2 * (m : Int) < 10000000000000 → m ≤ 100 → out.length ≤ 100 → 12 ≤ out.length + m →
    ∃ c' out', s_l1Cur_terms_L10 (((), ()), (c, out)) = some ((), (c', out')) ∧ out'.length ≤ out.length + m ∧ curOK (K + 2 * (m : Int) + 2) c' := by
  intro m
  induction m with
  | zero =>
    intro K c out h hK hm hl h12
    obtain ⟨c0, c1, c2⟩ := c
    obtain ⟨v, ⟨d0, d1, d2⟩, e, h0, h1, h2, hc⟩ := pick_ok 2 h (by omega)
    have h1 := h1 (by omega)
    have c9 : ¬ ((out.length : Int) < w64 (10 + v)) := by rw [w64_id (by omega) (by omega)]; omega
    refine ⟨_, out, ?_, Nat.le_refl _, hc.mono (by omega)⟩
    simp only [s_l1Cur_terms_L10]
    refine loopO_done ?_
    rw [s_l1Cur_terms_L10_step, T.run_sub, e, Option.bind_some, T.run_test, if_neg (by rw [decide_eq_true_eq]; exact c9), T.run_test, if_pos (by simp), T.run_ret]
  | succ m ih =>
    intro K c out h hK hm hl h12
    obtain ⟨c0, c1, c2⟩ := c
    obtain ⟨v, ⟨d0, d1, d2⟩, e, h0, h1, h2, hc⟩ := pick_ok 2 h (by omega)
    by_cases c9 : (out.length : Int) < w64 (10 + v)
    · have h1 := h1 (by omega)
      have c8 : out.length < 12 := by rw [w64_id (by omega) (by omega)] at c9; omega
      obtain ⟨c', out', e2, h3, h4⟩ := ih (K + 2) (d0, d1, d2) (out ++ [2]) hc (by omega) (by omega) (by simp; omega) (by simp; omega)
      refine ⟨c', out', ?_, by simp at h3; omega, h4.mono (by omega)⟩
      have hlen : 2 * ((out.length + 1) * 9) ≤ 140737488355328 := by omega
      simp only [s_l1Cur_terms_L10] at e2 ⊢
      rw [← e2]
      refine loopO_next ?_
      rw [s_l1Cur_terms_L10_step, T.run_sub, e, Option.bind_some, T.run_test, if_pos (decide_eq_true c9)]
      simp [T.run, win_all, win_one, win_sing, hlen]
    · refine ⟨_, out, ?_, by omega, hc.mono (by omega)⟩
      simp only [s_l1Cur_terms_L10]
      refine loopO_done ?_
      rw [s_l1Cur_terms_L10_step, T.run_sub, e, Option.bind_some, T.run_test, if_neg (by rw [decide_eq_true_eq]; exact c9), T.run_test, if_pos (by simp), T.run_ret]
theorem terms_L13 (c : List Int × Int × Int) : ∀ (m : Nat) (out : List Int), m ≤ 100 → out.length ≤ 100 → 12 ≤ out.length + m →
    ∃ out', s_l1Cur_terms_L13 ((), (c, out)) = some ((), (c, out')) ∧ out'.length ≤ out.length + m := by
  intro m
  induction m with
  | zero =>
    intro out hm hl h12
    obtain ⟨c0, c1, c2⟩ := c
    have c9 : ¬ ((out.length : Int) < 10) := by omega
    refine ⟨out, ?_, Nat.le_refl _⟩
    simp only [s_l1Cur_terms_L13]
    exact loopO_done (by simp [s_l1Cur_terms_L13_step, T.run, c9])
  | succ m ih =>
    intro out hm hl h12
    obtain ⟨c0, c1, c2⟩ := c
    by_cases c9 : (out.length : Int) < 10
    · obtain ⟨out', e2, h3⟩ := ih (out ++ [30]) (by omega) (by simp; omega) (by simp; omega)
      refine ⟨out', ?_, by simp at h3; omega⟩
      have hlen : 2 * ((out.length + 1) * 9) ≤ 140737488355328 := by omega
      simp only [s_l1Cur_terms_L13] at e2 ⊢
      rw [← e2]
      refine loopO_next ?_
      rw [s_l1Cur_terms_L13_step, T.run_test, if_pos (decide_eq_true c9)]
      simp [T.run, win_all, win_one, win_sing, hlen]
    · refine ⟨out, ?_, by omega⟩
      simp only [s_l1Cur_terms_L13]
      exact loopO_done (by simp [s_l1Cur_terms_L13_step, T.run, c9])
theorem terms_ok {k : Int} {c : List Int × Int × Int} (low high : Int) (hlo : -100 ≤ low ∧ low ≤ 100) (hhi : -100 ≤ high ∧ high ≤ 100) (h : curOK k c) (hk : k < 1000000000000) :
    ∃ c' l, s_l1Cur_terms (((), (low, high)), c) = some ((), (c', l)) ∧ l.length ≤ 50 ∧ curOK (k + 100) c' := by
  obtain ⟨c0, c1, c2⟩ := c
  obtain ⟨v, ⟨d0, d1, d2⟩, e, h0, h1, _, hc⟩ := pick_ok 8 h (by omega)
  have h1 := h1 (by omega)
  obtain ⟨m, rfl⟩ := Int.eq_ofNat_of_zero_le h0
  obtain ⟨⟨f0, f1, f2⟩, out, e3, h3, hc3⟩ := terms_L3 low high hlo hhi m (k + 2) (d0, d1, d2) [] hc (by omega) (by omega) (by simp; omega)
  simp only [List.length_nil] at h3
  obtain ⟨u, ⟨g0, g1, g2⟩, e4, h4, h5, _, hc4⟩ := pick_ok 14 hc3 (by omega)
  rw [s_l1Cur_terms, s_l1Cur_terms_t, T.run_sub, e, Option.bind_some, T.run_test, if_pos (by simp), T.run_sub, e3, Option.bind_some, T.run_sub, e4, Option.bind_some, T.run_test]
  have hlen : 2 * ((out.length + 1) * 9) ≤ 140737488355328 := by omega
  by_cases u0 : u = 0
  · obtain ⟨x, ⟨a0, a1, a2⟩, e5, _, hc5⟩ := among_ok [30, 31, -30, -9223372036854775808] hc4 (by omega) (by simp)
    have hw : win (List.set (List.set (List.set (List.set (List.replicate 4 (0 : Int)) 0 (30 : Int)) 1 (31 : Int)) 2 (-30)) 3 (-9223372036854775808)) 0 4 = [30, 31, -30, -9223372036854775808] := rfl
    rw [if_pos (by rw [u0]; rfl), T.run_test, if_pos rfl, T.run_sub, hw, e5, Option.bind_some]
    refine ⟨_, out ++ [x], ?_, by simp; omega, hc5.mono (by omega)⟩
    simp [T.run, win_all, win_one, win_sing, hlen]
  · rw [if_neg (by rw [beq_iff_eq]; exact u0), T.run_test]
    by_cases u1 : u = 1
    · obtain ⟨⟨a0, a1, a2⟩, out', e5, h6, hc5⟩ := terms_L10 12 _ (g0, g1, g2) out hc4 (by omega) (by omega) (by omega) (by omega)
      rw [if_pos (by rw [u1]; rfl), T.run_test, if_pos (by simp), T.run_sub, e5, Option.bind_some, T.run_test, if_pos (by simp), T.run_ret]
      exact ⟨_, out', rfl, by omega, hc5.mono (by omega)⟩
    · rw [if_neg (by rw [beq_iff_eq]; exact u1), T.run_test]
      by_cases u2 : u = 2
      · obtain ⟨out', e5, h6⟩ := terms_L13 (g0, g1, g2) 12 out (by omega) (by omega) (by omega)
        rw [if_pos (by rw [u2]; rfl), T.run_test, if_pos (by simp), T.run_sub, e5, Option.bind_some, T.run_test, if_pos (by simp), T.run_ret]
        exact ⟨_, out', rfl, by omega, hc4.mono (by omega)⟩
      · rw [if_neg (by rw [beq_iff_eq]; exact u2), T.run_test, if_pos (by simp), T.run_ret]
        exact ⟨_, out, rfl, by omega, hc4.mono (by omega)⟩


def s_l1Cur_matrix_sh : FSh := ⟨[(.one (.pf 0 0 0))], [(.rcd 0 [(.sl (.int .u8) false true), (.si .i64), (.si .u64)])]⟩

def s_l1Cur_matrix_fo : List FO := [⟨[(.ag [(.si .i64), (.si .i64), (.si .i64), (.si .i64)])], [(.rcd 0 [(.sl (.int .u8) false true), (.si .i64), (.si .u64)])]⟩]
noncomputable def s_l1Cur_matrix_t : (Unit × (List (Int) × Int × Int)) → T ((Int × Int × Int × Int) × (List (Int) × Int × Int)) := fun ((), (c_0, c_1, c_2)) =>
  (.sub (s_l1Cur_pick (((), (10 : Int)), (c_0, (c_1, c_2)))) fun z0 =>
  (.test (z0.1 == 0)
  (.test true
   (.sub (s_l1Cur_among (((), (win (List.set (List.set (List.set (List.set (List.replicate 4 (0 : Int)) 0 (1 : Int)) 1 (-1)) 2 (0 : Int)) 3 (4611686018427387904 : Int)) 0 4)), (z0.2.1, (z0.2.2.1, z0.2.2.2)))) fun z1 =>
    (.test true
    (.sub (s_l1Cur_among (((), (win (List.set (List.set (List.set (List.set (List.replicate 4 (0 : Int)) 0 (0 : Int)) 1 (1 : Int)) 2 (1000000000 : Int)) 3 (1000000001 : Int)) 0 4)), (z1.2.1, (z1.2.2.1, z1.2.2.2)))) fun z2 =>
     (.test true
     (.sub (s_l1Cur_among (((), (win (List.set (List.set (List.replicate 2 (0 : Int)) 0 (0 : Int)) 1 (-1)) 0 2)), (z2.2.1, (z2.2.2.1, z2.2.2.2)))) fun z3 =>
      (.test true
      (.sub (s_l1Cur_among (((), (win (List.set (List.set (List.set (List.replicate 3 (0 : Int)) 0 (1 : Int)) 1 (-1)) 2 (0 : Int)) 0 3)), (z3.2.1, (z3.2.2.1, z3.2.2.2)))) fun z4 =>
       (.ret ((z1.1, (z2.1, (z3.1, z4.1))), (z4.2.1, (z4.2.2.1, z4.2.2.2)))))
      .fail))
     .fail))
    .fail))
   .fail)
  (.test (z0.1 == 1)
   (.sub (s_l1Cur_word ((), (z0.2.1, (z0.2.2.1, z0.2.2.2)))) fun z5 =>
    (.sub (s_MatrixOfWord z5.1) fun z6 =>
    (.ret ((z6.1.1, (z6.1.2.1, (z6.1.2.2.1, z6.1.2.2.2))), (z5.2.1, (z5.2.2.1, z5.2.2.2))))))
   (.test (z0.1 == 2)
    (.sub (s_l1Cur_word ((), (z0.2.1, (z0.2.2.1, z0.2.2.2)))) fun z7 =>
     (.sub (s_MatrixOfWord z7.1) fun z8 =>
     (.ret ((z8.1.1, (z8.1.2.1, (z8.1.2.2.1, z8.1.2.2.2))), (z7.2.1, (z7.2.2.1, z7.2.2.2))))))
    (.test (z0.1 == 3)
     (.sub (s_l1Cur_word ((), (z0.2.1, (z0.2.2.1, z0.2.2.2)))) fun z9 =>
      (.sub (s_MatrixOfWord z9.1) fun z10 =>
      (.ret ((z10.1.1, (z10.1.2.1, (z10.1.2.2.1, z10.1.2.2.2))), (z9.2.1, (z9.2.2.1, z9.2.2.2))))))
     (.test (z0.1 == 4)
      (.sub (s_l1Cur_pick (((), (6 : Int)), (z0.2.1, (z0.2.2.1, z0.2.2.2)))) fun z11 =>
       (.test (decide ((0 ≤ z11.1) ∧ (z11.1 < 6)))
       (.sub ((List.set (List.set (List.set (List.set (List.set (List.set (List.replicate 6 ((0 : Int), ((0 : Int), ((0 : Int), (0 : Int))))) 0 ((1 : Int), ((0 : Int), ((0 : Int), (1 : Int))))) 1 ((-1), ((0 : Int), ((0 : Int), (-1))))) 2 ((0 : Int), ((-1), ((1 : Int), (0 : Int))))) 3 ((1 : Int), ((-1), ((1 : Int), (0 : Int))))) 4 ((0 : Int), ((-1), ((1 : Int), (-1))))) 5 ((1 : Int), ((5 : Int), ((0 : Int), (1 : Int)))))[(0 + (Int.toNat z11.1))]?) fun z12 =>
        (.ret ((z12.1, (z12.2.1, (z12.2.2.1, z12.2.2.2))), (z11.2.1, (z11.2.2.1, z11.2.2.2)))))
       .fail))
      (.test (z0.1 == 5)
       (.ret (((1 : Int), ((1000000000 : Int), ((0 : Int), (1 : Int)))), (z0.2.1, (z0.2.2.1, z0.2.2.2))))
       (.sub (s_l1Cur_terms (((), ((-2), (4 : Int))), (z0.2.1, (z0.2.2.1, z0.2.2.2)))) fun z13 =>
        (.test (decide ((0 + (List.length z13.2.2)) ≤ (List.length z13.2.2)))
        (.sub (s_MatrixOfList (win z13.2.2 0 (List.length z13.2.2))) fun z14 =>
         (.ret ((z14.1.1, (z14.1.2.1, (z14.1.2.2.1, z14.1.2.2.2))), (z13.2.1.1, (z13.2.1.2.1, z13.2.1.2.2)))))
        .fail)))))))))
noncomputable def s_l1Cur_matrix (v : (Unit × (List (Int) × Int × Int))) : Option ((Int × Int × Int × Int) × (List (Int) × Int × Int)) := (s_l1Cur_matrix_t v).run
noncomputable def s_l1Cur_matrix_E : TEnv := ((((((E0.add1 n_s_l1Cur_pick s_l1Cur_pick_sh s_l1Cur_pick_fo s_l1Cur_pick).add1 n_s_l1Cur_among s_l1Cur_among_sh s_l1Cur_among_fo s_l1Cur_among).add1 n_s_l1Cur_word s_l1Cur_word_sh s_l1Cur_word_fo s_l1Cur_word).add1 n_s_MatrixOfWord s_MatrixOfWord_sh s_MatrixOfWord_fo s_MatrixOfWord).add1 n_s_l1Cur_terms s_l1Cur_terms_sh s_l1Cur_terms_fo s_l1Cur_terms).add1 n_s_MatrixOfList s_MatrixOfList_sh s_MatrixOfList_fo s_MatrixOfList)
theorem s_l1Cur_matrix_Eok : (s_l1Cur_matrix_E).OK := ((((((E0ok.add1 s_l1Cur_pick_ok).add1 s_l1Cur_among_ok).add1 s_l1Cur_word_ok).add1 s_MatrixOfWord_ok).add1 s_l1Cur_terms_ok).add1 s_MatrixOfList_ok)
noncomputable def s_l1Cur_matrix_told : Nat → Option SealT := fun id => none
theorem s_l1Cur_matrix_ok : FOK Tryd.prog n_s_l1Cur_matrix s_l1Cur_matrix_sh s_l1Cur_matrix_fo s_l1Cur_matrix :=
  fn_ok (E := s_l1Cur_matrix_E) (s_l1Cur_matrix_Eok) (told := s_l1Cur_matrix_told) (fl := []) (c := bodyOf fn_s_l1Cur_matrix) (s := s_l1Cur_matrix_sh) (l := s_l1Cur_matrix_fo) (tree := s_l1Cur_matrix_t) fnat_s_l1Cur_matrix (by kernel_rfl) (by kernel_rfl) (by kernel_rfl) (loopsOK_of (ls := []) (by kernel_rfl) trivial) (fun v => by kernel_rfl)

theorem matrix_ok {K : Int} {c : List Int × Int × Int} (h : curOK K c) (hK : K < 10000000) : ∃ m c', s_l1Cur_matrix ((), c) = some (m, c') ∧ curOK (K + 400) c' := by
  obtain ⟨c0, c1, c2⟩ := c
  obtain ⟨v, ⟨d0, d1, d2⟩, e, _, _, _, hc⟩ := pick_ok 10 h (by omega)
  rw [s_l1Cur_matrix, s_l1Cur_matrix_t, T.run_sub, e, Option.bind_some, T.run_test]
  have wd : ∃ m c', (T.sub (s_l1Cur_word ((), (d0, (d1, d2)))) fun z5 => (.sub (s_MatrixOfWord z5.1) fun z6 =>
    (.ret ((z6.1.1, (z6.1.2.1, (z6.1.2.2.1, z6.1.2.2.2))), (z5.2.1, (z5.2.2.1, z5.2.2.2)))))).run = some (m, c') ∧ curOK (K + 400) c' := by
    obtain ⟨w, ⟨f0, f1, f2⟩, e2, h2, hc2⟩ := word_ok hc (by omega)
    rw [T.run_sub, e2, Option.bind_some, T.run_sub, s_MatrixOfWord_eq w (by omega), Option.bind_some, T.run_ret]
    exact ⟨_, _, rfl, hc2.mono (by omega)⟩
  by_cases v0 : (v == 0) = true
  · have hw1 : (win (List.set (List.set (List.set (List.set (List.replicate 4 (0 : Int)) 0 (1 : Int)) 1 (-1)) 2 (0 : Int)) 3 (4611686018427387904 : Int)) 0 4) = [1, -1, 0, 4611686018427387904] := rfl
    have hw2 : (win (List.set (List.set (List.set (List.set (List.replicate 4 (0 : Int)) 0 (0 : Int)) 1 (1 : Int)) 2 (1000000000 : Int)) 3 (1000000001 : Int)) 0 4) = [0, 1, 1000000000, 1000000001] := rfl
    have hw3 : (win (List.set (List.set (List.replicate 2 (0 : Int)) 0 (0 : Int)) 1 (-1)) 0 2) = [0, -1] := rfl
    have hw4 : (win (List.set (List.set (List.set (List.replicate 3 (0 : Int)) 0 (1 : Int)) 1 (-1)) 2 (0 : Int)) 0 3) = [1, -1, 0] := rfl
    obtain ⟨x1, ⟨f0, f1, f2⟩, e1, _, hc1⟩ := among_ok [1, -1, 0, 4611686018427387904] hc (by omega) (by simp)
    obtain ⟨x2, ⟨g0, g1, g2⟩, e2, _, hc2⟩ := among_ok [0, 1, 1000000000, 1000000001] hc1 (by omega) (by simp)
    obtain ⟨x3, ⟨j0, j1, j2⟩, e3, _, hc3⟩ := among_ok [0, -1] hc2 (by omega) (by simp)
    obtain ⟨x4, ⟨k0, k1, k2⟩, e4, _, hc4⟩ := among_ok [1, -1, 0] hc3 (by omega) (by simp)
    rw [if_pos v0, T.run_test, if_pos rfl, T.run_sub, hw1, e1, Option.bind_some, T.run_test, if_pos rfl, T.run_sub, hw2, e2, Option.bind_some, T.run_test, if_pos rfl, T.run_sub, hw3, e3, Option.bind_some, T.run_test, if_pos rfl, T.run_sub, hw4, e4, Option.bind_some, T.run_ret]
    exact ⟨_, _, rfl, hc4.mono (by omega)⟩
  rw [if_neg v0, T.run_test]
  by_cases v1 : (v == 1) = true
  · rw [if_pos v1]; exact wd
  rw [if_neg v1, T.run_test]
  by_cases v2 : (v == 2) = true
  · rw [if_pos v2]; exact wd
  rw [if_neg v2, T.run_test]
  by_cases v3 : (v == 3) = true
  · rw [if_pos v3]; exact wd
  rw [if_neg v3, T.run_test]
  by_cases v4 : (v == 4) = true
  · obtain ⟨u, ⟨f0, f1, f2⟩, e1, u0, u1, _, hc1⟩ := pick_ok 6 hc (by omega)
    have u1 := u1 (by omega)
    rw [if_pos v4, T.run_sub, e1, Option.bind_some, T.run_test, if_pos (decide_eq_true (by omega)), T.run_sub]
    have hlt : (0 + u.toNat) < (List.set (List.set (List.set (List.set (List.set (List.set (List.replicate 6 ((0 : Int), ((0 : Int), ((0 : Int), (0 : Int))))) 0 ((1 : Int), ((0 : Int), ((0 : Int), (1 : Int))))) 1 ((-1), ((0 : Int), ((0 : Int), (-1))))) 2 ((0 : Int), ((-1), ((1 : Int), (0 : Int))))) 3 ((1 : Int), ((-1), ((1 : Int), (0 : Int))))) 4 ((0 : Int), ((-1), ((1 : Int), (-1))))) 5 ((1 : Int), ((5 : Int), ((0 : Int), (1 : Int))))).length := by
      simp only [List.length_set, List.length_replicate]; omega
    rw [List.getElem?_eq_getElem hlt, Option.bind_some, T.run_ret]
    exact ⟨_, _, rfl, hc1.mono (by omega)⟩
  rw [if_neg v4, T.run_test]
  by_cases v5 : (v == 5) = true
  · rw [if_pos v5, T.run_ret]
    exact ⟨_, _, rfl, hc.mono (by omega)⟩
  rw [if_neg v5]
  obtain ⟨⟨f0, f1, f2⟩, l, e2, hl, hc2⟩ := terms_ok (-2) 4 (by omega) (by omega) hc (by omega)
  rw [T.run_sub, e2, Option.bind_some, T.run_test, if_pos (by simp), T.run_sub, win_all, s_MatrixOfList_eq l (by omega), Option.bind_some, T.run_ret]
  exact ⟨_, _, rfl, hc2.mono (by omega)⟩


def s_DrawIsMatrix_sh : FSh := ⟨[(.one (.sl (.int .u8) false true))], []⟩

def s_DrawIsMatrix_fo : List FO := [⟨[(.ag [(.si .i64), (.si .i64), (.si .i64), (.si .i64)])], []⟩]
noncomputable def s_DrawIsMatrix_t : List (Int) → T (Int × Int × Int × Int) := fun code =>
  (.sub (s_l1Cur_matrix ((), (code, ((0 : Int), (0 : Int))))) fun z0 =>
  (.ret (z0.1.1, (z0.1.2.1, (z0.1.2.2.1, z0.1.2.2.2)))))
noncomputable def s_DrawIsMatrix (v : List (Int)) : Option (Int × Int × Int × Int) := (s_DrawIsMatrix_t v).run
noncomputable def s_DrawIsMatrix_E : TEnv := (E0.add1 n_s_l1Cur_matrix s_l1Cur_matrix_sh s_l1Cur_matrix_fo s_l1Cur_matrix)
theorem s_DrawIsMatrix_Eok : (s_DrawIsMatrix_E).OK := (E0ok.add1 s_l1Cur_matrix_ok)
noncomputable def s_DrawIsMatrix_told : Nat → Option SealT := fun id => none
theorem s_DrawIsMatrix_ok : FOK Tryd.prog n_s_DrawIsMatrix s_DrawIsMatrix_sh s_DrawIsMatrix_fo s_DrawIsMatrix :=
  fn_ok (E := s_DrawIsMatrix_E) (s_DrawIsMatrix_Eok) (told := s_DrawIsMatrix_told) (fl := []) (c := bodyOf fn_s_DrawIsMatrix) (s := s_DrawIsMatrix_sh) (l := s_DrawIsMatrix_fo) (tree := s_DrawIsMatrix_t) fnat_s_DrawIsMatrix (by kernel_rfl) (by kernel_rfl) (by kernel_rfl) (loopsOK_of (ls := []) (by kernel_rfl) trivial) (fun v => by kernel_rfl)

def s_DrawWordOfMatrix_sh : FSh := ⟨[(.one (.sl (.int .u8) false true))], []⟩

def s_DrawWordOfMatrix_fo : List FO := [⟨[(.ag [(.si .i64), (.si .i64), (.si .i64), (.si .i64)])], []⟩]
noncomputable def s_DrawWordOfMatrix_t : List (Int) → T (Int × Int × Int × Int) := fun code =>
  (.sub (s_DrawIsMatrix code) fun z0 =>
  (.ret (z0.1, (z0.2.1, (z0.2.2.1, z0.2.2.2)))))
noncomputable def s_DrawWordOfMatrix (v : List (Int)) : Option (Int × Int × Int × Int) := (s_DrawWordOfMatrix_t v).run
noncomputable def s_DrawWordOfMatrix_E : TEnv := (E0.add1 n_s_DrawIsMatrix s_DrawIsMatrix_sh s_DrawIsMatrix_fo s_DrawIsMatrix)
theorem s_DrawWordOfMatrix_Eok : (s_DrawWordOfMatrix_E).OK := (E0ok.add1 s_DrawIsMatrix_ok)
noncomputable def s_DrawWordOfMatrix_told : Nat → Option SealT := fun id => none
theorem s_DrawWordOfMatrix_ok : FOK Tryd.prog n_s_DrawWordOfMatrix s_DrawWordOfMatrix_sh s_DrawWordOfMatrix_fo s_DrawWordOfMatrix :=
  fn_ok (E := s_DrawWordOfMatrix_E) (s_DrawWordOfMatrix_Eok) (told := s_DrawWordOfMatrix_told) (fl := []) (c := bodyOf fn_s_DrawWordOfMatrix) (s := s_DrawWordOfMatrix_sh) (l := s_DrawWordOfMatrix_fo) (tree := s_DrawWordOfMatrix_t) fnat_s_DrawWordOfMatrix (by kernel_rfl) (by kernel_rfl) (by kernel_rfl) (loopsOK_of (ls := []) (by kernel_rfl) trivial) (fun v => by kernel_rfl)

def s_WordOfMatrix_sh : FSh := ⟨[(.ag [(.si .i64), (.si .i64), (.si .i64), (.si .i64)])], []⟩

def s_WordOfMatrix_L4_sh : LSh := ⟨(fun ex => match ex with | .norm => [(1, none), (4, none)] | .exit i => if i = 0 then [(4, none)] else [] | .ret => [(2, none), (3, none)]), [(1, (.one (.pf 0 0 0))), (4, (.one .ss))], [(.rcd 0 [(.si .i64), (.si .i64), (.si .i64), (.si .i64)])], [⟨.ret, [(2, (.one .ss)), (3, (.one .sb))], []⟩, ⟨(.exit 0), [(4, (.one .ss))], []⟩], [], []⟩
noncomputable def s_WordOfMatrix_L4_step : ((Unit × List UInt8) × (Int × Int × Int × Int)) → T (((Unit × List UInt8) × (Int × Int × Int × Int)) ⊕ ((List UInt8 × Bool) ⊕ List UInt8)) := fun (((), out), (m_0, m_1, m_2, m_3)) =>
  (.sub (s_mxOne ()) fun z0 =>
  (.test (! ((m_0 == z0.1) && ((m_1 == z0.2.1) && ((m_2 == z0.2.2.1) && ((m_3 == z0.2.2.2) && true)))))
  (.test (((List.length out) : Int) == 40)
   (.ret (Sum.inr (Sum.inl ([], false))))
   (.test (decide (m_0 ≤ m_2))
    (.test (decide (m_1 ≤ m_3))
     (.test (decide (((List.length out) + 1) ≤ 140737488355328))
      (.ret (Sum.inl (((), (out ++ [(108 : UInt8)])), (m_0, (m_1, ((w64 (m_2 - m_0)), (w64 (m_3 - m_1))))))))
      .fail)
     (.test (decide (((List.length out) + 1) ≤ 140737488355328))
      (.ret (Sum.inl (((), (out ++ [(114 : UInt8)])), ((w64 (m_0 - m_2)), ((w64 (m_1 - m_3)), (m_2, m_3))))))
      .fail))
    (.test (decide (((List.length out) + 1) ≤ 140737488355328))
     (.ret (Sum.inl (((), (out ++ [(114 : UInt8)])), ((w64 (m_0 - m_2)), ((w64 (m_1 - m_3)), (m_2, m_3))))))
     .fail)))
  (.ret (Sum.inr (Sum.inr out)))))
noncomputable def s_WordOfMatrix_L4 (v : ((Unit × List UInt8) × (Int × Int × Int × Int))) : Option ((List UInt8 × Bool) ⊕ List UInt8) := loopO (fun v => (s_WordOfMatrix_L4_step v).run) v

def s_WordOfMatrix_fo : List FO := [⟨[(.one .ss), (.one .sb)], []⟩]
noncomputable def s_WordOfMatrix_t : (Int × Int × Int × Int) → T (List UInt8 × Bool) := fun (m_0, m_1, m_2, m_3) =>
  (.sub (s_mxGood (m_0, (m_1, (m_2, m_3)))) fun z0 =>
  (.test (! z0)
  (.ret ([], false))
  (.test (decide (m_0 < 0))
   (.ret ([], false))
   (.test (decide (m_1 < 0))
    (.ret ([], false))
    (.test (decide (m_2 < 0))
     (.ret ([], false))
     (.test (decide (m_3 < 0))
      (.ret ([], false))
      (.sub (s_WordOfMatrix_L4 (((), []), (m_0, (m_1, (m_2, m_3))))) fun z1 =>
       (.test (Sum.isLeft z1)
       (.sub (Sum.getLeft? z1) fun z2 =>
        (.ret (z2.1, z2.2)))
       (.sub (Sum.getRight? z1) fun z3 =>
        (.ret (z3, true)))))))))))
noncomputable def s_WordOfMatrix (v : (Int × Int × Int × Int)) : Option (List UInt8 × Bool) := (s_WordOfMatrix_t v).run
noncomputable def s_WordOfMatrix_E : TEnv := ((E0.add1 n_s_mxGood s_mxGood_sh s_mxGood_fo s_mxGood).add1 n_s_mxOne s_mxOne_sh s_mxOne_fo s_mxOne)
theorem s_WordOfMatrix_Eok : (s_WordOfMatrix_E).OK := ((E0ok.add1 s_mxGood_ok).add1 s_mxOne_ok)
noncomputable def s_WordOfMatrix_told : Nat → Option SealT := fun id => if id = 4 then some (LSh.told s_WordOfMatrix_L4_sh 0 (s_WordOfMatrix_L4_step)) else none
theorem s_WordOfMatrix_L4_ok : ToldOK Tryd.prog 0 (loopAt (bodyOf fn_s_WordOfMatrix) [0]) (LSh.told s_WordOfMatrix_L4_sh 0 (s_WordOfMatrix_L4_step)) :=
  loop_ok (E := s_WordOfMatrix_E) (s_WordOfMatrix_Eok) (told := s_WordOfMatrix_told) (l := s_WordOfMatrix_L4_sh) (step := s_WordOfMatrix_L4_step) (loopsOK_of (ls := []) (by kernel_rfl) trivial) (by kernel_rfl) (fun v => by kernel_rfl)
theorem s_WordOfMatrix_ok : FOK Tryd.prog n_s_WordOfMatrix s_WordOfMatrix_sh s_WordOfMatrix_fo s_WordOfMatrix :=
  fn_ok (E := s_WordOfMatrix_E) (s_WordOfMatrix_Eok) (told := s_WordOfMatrix_told) (fl := []) (c := bodyOf fn_s_WordOfMatrix) (s := s_WordOfMatrix_sh) (l := s_WordOfMatrix_fo) (tree := s_WordOfMatrix_t) fnat_s_WordOfMatrix (by kernel_rfl) (by kernel_rfl) (by kernel_rfl) (loopsOK_of (ls := [loopAt (bodyOf fn_s_WordOfMatrix) [0]]) (by kernel_rfl) ⟨.inr ⟨_, by kernel_rfl, s_WordOfMatrix_L4_ok⟩, trivial⟩) (fun v => by kernel_rfl)

theorem s_WordOfMatrix_L4_eq : ∀ (n : Nat) (m : M4) (out : List UInt8), out.length + n = 40 → nn4 m → s_WordOfMatrix_L4 (((), out), m) = some (match wordF n m out with | some o => .inr o | none => .inl ([], false)) := by
  intro n
  induction n with
  | zero =>
    intro m out hl hm
    obtain ⟨a, b, c, d⟩ := m
    simp only [s_WordOfMatrix_L4, wordF]
    by_cases h1 : (a, b, c, d) = (1, 0, 0, 1)
    · rw [if_pos h1]
      simp only [Prod.mk.injEq] at h1
      obtain ⟨rfl, rfl, rfl, rfl⟩ := h1
      exact loopO_done (by simp [s_WordOfMatrix_L4_step, T.run, s_mxOne_eq, one4])
    · have h2 : (a == 1 && (b == 0 && (c == 0 && (d == 1 && true)))) = false := by
        rw [Bool.eq_false_iff]; intro h; apply h1; simp at h; simp [h]
      rw [if_neg h1]
      have h3 : ((out.length : Int) == 40) = true := by rw [beq_int]; simp; omega
      exact loopO_done (by simp only [s_WordOfMatrix_L4_step, T.run, s_mxOne_eq, one4, Option.bind_some, h2, h3]; rfl)
  | succ n ih =>
    intro m out hl hm
    obtain ⟨a, b, c, d⟩ := m
    simp only [s_WordOfMatrix_L4] at ih
    simp only [s_WordOfMatrix_L4, wordF]
    by_cases h1 : (a, b, c, d) = (1, 0, 0, 1)
    · rw [if_pos h1]
      simp only [Prod.mk.injEq] at h1
      obtain ⟨rfl, rfl, rfl, rfl⟩ := h1
      exact loopO_done (by simp [s_WordOfMatrix_L4_step, T.run, s_mxOne_eq, one4])
    · have h2 : (a == 1 && (b == 0 && (c == 0 && (d == 1 && true)))) = false := by
        rw [Bool.eq_false_iff]; intro h; apply h1; simp at h; simp [h]
      have h3 : ((out.length : Int) == 40) = false := by rw [beq_int]; simp; omega
      have hr := nn4_row hm h1
      rw [if_neg h1]
      obtain ⟨g1, g2, g3, g4, g5⟩ := hm
      simp only at g1 g2 g3 g4
      have hk : out.length + 1 ≤ 140737488355328 := by omega
      have hst : ((s_WordOfMatrix_L4_step (((), out), (a, b, c, d))).run) = some (.inl (if a ≤ c ∧ b ≤ d then (((), out ++ [108]), (a, b, c - a, d - b)) else (((), out ++ [114]), (a - c, b - d, c, d)))) := by
        simp only [s_WordOfMatrix_L4_step, T.run, s_mxOne_eq, one4, Option.bind_some, h2, h3, decide_eq_true_eq]
        rw [w64_id (z := c - a) (by omega) (by omega), w64_id (z := d - b) (by omega) (by omega), w64_id (z := a - c) (by omega) (by omega), w64_id (z := b - d) (by omega) (by omega)]
        by_cases u : a ≤ c <;> by_cases v : b ≤ d <;> simp only [u, v, hk] <;> rfl
      rw [loopO_next hst]
      rcases hr with ⟨hac, hbd, hno, hm2⟩ | ⟨hac, hbd, hno, hm2⟩
      · rw [if_pos (show c ≤ a ∧ d ≤ b from ⟨hac, hbd⟩), if_neg hno]
        exact ih _ (out ++ [114]) (by simp; omega) hm2
      · rw [if_neg (show ¬ (c ≤ a ∧ d ≤ b) from hno), if_pos ⟨hac, hbd⟩]
        exact ih _ (out ++ [108]) (by simp; omega) hm2
theorem s_WordOfMatrix_eq (m : M4) : s_WordOfMatrix m = some (if good4 m ∧ 0 ≤ m.1 ∧ 0 ≤ m.2.1 ∧ 0 ≤ m.2.2.1 ∧ 0 ≤ m.2.2.2 then (match wordF 40 m [] with | some o => (o, true) | none => ([], false)) else ([], false)) := by
  obtain ⟨a, b, c, d⟩ := m
  simp only [s_WordOfMatrix, s_WordOfMatrix_t, T.run, s_mxGood_eq, Option.bind_some]
  cases hg : good4 (a, b, c, d) with
  | false => simp
  | true =>
    rw [good4_iff] at hg
    simp only [Bool.not_true, Bool.false_eq_true, if_false, decide_eq_true_eq, true_and]
    by_cases h1 : a < 0
    · rw [if_pos h1, if_neg (by omega)]
    by_cases h2 : b < 0
    · rw [if_neg h1, if_pos h2, if_neg (by omega)]
    by_cases h3 : c < 0
    · rw [if_neg h1, if_neg h2, if_pos h3, if_neg (by omega)]
    by_cases h4 : d < 0
    · rw [if_neg h1, if_neg h2, if_neg h3, if_pos h4, if_neg (by omega)]
    rw [if_neg h1, if_neg h2, if_neg h3, if_neg h4, if_pos (by omega), s_WordOfMatrix_L4_eq 40 (a, b, c, d) [] (by simp) ⟨by simp only []; omega, by simp only []; omega, by simp only []; omega, by simp only []; omega, hg.2.2.2.2⟩]
    cases wordF 40 (a, b, c, d) [] <;> simp


def s_nbMediant_sh : FSh := ⟨[(.ag [(.si .i64), (.si .i64)]), (.ag [(.si .i64), (.si .i64)])], []⟩

def s_nbMediant_fo : List FO := [⟨[(.ag [(.si .i64), (.si .i64)])], []⟩]
noncomputable def s_nbMediant_t : ((Int × Int) × (Int × Int)) → T (Int × Int) := fun ((f_0, f_1), (g_0, g_1)) =>
  (.ret ((w64 (f_0 + g_0)), (w64 (f_1 + g_1))))
noncomputable def s_nbMediant (v : ((Int × Int) × (Int × Int))) : Option (Int × Int) := (s_nbMediant_t v).run
noncomputable def s_nbMediant_E : TEnv := E0
theorem s_nbMediant_Eok : (s_nbMediant_E).OK := E0ok
noncomputable def s_nbMediant_told : Nat → Option SealT := fun id => none
theorem s_nbMediant_ok : FOK Tryd.prog n_s_nbMediant s_nbMediant_sh s_nbMediant_fo s_nbMediant :=
  fn_ok (E := s_nbMediant_E) (s_nbMediant_Eok) (told := s_nbMediant_told) (fl := []) (c := bodyOf fn_s_nbMediant) (s := s_nbMediant_sh) (l := s_nbMediant_fo) (tree := s_nbMediant_t) fnat_s_nbMediant (by kernel_rfl) (by kernel_rfl) (by kernel_rfl) (loopsOK_of (ls := []) (by kernel_rfl) trivial) (fun v => by kernel_rfl)

def s_l1Cur_fraction_sh : FSh := ⟨[(.one (.pf 0 0 0))], [(.rcd 0 [(.sl (.int .u8) false true), (.si .i64), (.si .u64)])]⟩

def s_l1Cur_fraction_L5_sh : LSh := ⟨(fun ex => match ex with | .norm => [(0, none), (2, none), (3, none), (4, none), (5, none)] | .exit i => if i = 0 then [(2, none), (3, none), (4, none)] else [] | .ret => [(2, none)]), [(0, (.one (.pf 0 0 0))), (2, (.one (.pf 1 0 0))), (3, (.one (.pf 2 0 0))), (4, (.one (.pf 3 0 0))), (5, (.one (.si .i64)))], [(.rcd 0 [(.sl (.int .u8) false true), (.si .i64), (.si .u64)]), (.rcd 0 [(.si .i64), (.si .i64)]), (.rcd 0 [(.si .i64), (.si .i64)]), (.rcd 0 [(.si .i64), (.si .i64)])], [⟨(.exit 0), [(2, (.one (.pf 1 0 0))), (3, (.one (.pf 2 0 0))), (4, (.one (.pf 3 0 0)))], [(.rcd 0 [(.sl (.int .u8) false true), (.si .i64), (.si .u64)]), (.rcd 0 [(.si .i64), (.si .i64)]), (.rcd 0 [(.si .i64), (.si .i64)]), (.rcd 0 [(.si .i64), (.si .i64)])]⟩], [], []⟩
noncomputable def s_l1Cur_fraction_L5_step : ((Unit × Unit × Unit × Unit × Int) × ((List (Int) × Int × Int) × (Int × Int) × (Int × Int) × (Int × Int))) → T (((Unit × Unit × Unit × Unit × Int) × ((List (Int) × Int × Int) × (Int × Int) × (Int × Int) × (Int × Int))) ⊕ ((Unit × Unit × Unit) × ((List (Int) × Int × Int) × (Int × Int) × (Int × Int) × (Int × Int)))) := fun (((), (), (), (), k), ((c_0, c_1, c_2), (t2_0, t2_1), (low_0, low_1), (high_0, high_1))) =>
  (.test (decide (k > 0))
  (.sub (s_nbMediant ((low_0, low_1), (high_0, high_1))) fun z0 =>
   (.sub (s_l1Cur_one (((), (2 : Int)), (c_0, (c_1, c_2)))) fun z1 =>
   (.test z1.1
   (.ret (Sum.inl (((), ((), ((), ((), (w64 (k - 1)))))), ((z1.2.1, (z1.2.2.1, z1.2.2.2)), ((t2_0, t2_1), ((z0.1, z0.2), (high_0, high_1)))))))
   (.ret (Sum.inl (((), ((), ((), ((), (w64 (k - 1)))))), ((z1.2.1, (z1.2.2.1, z1.2.2.2)), ((t2_0, t2_1), ((low_0, low_1), (z0.1, z0.2))))))))))
  (.ret (Sum.inr (((), ((), ())), ((c_0, (c_1, c_2)), ((t2_0, t2_1), ((low_0, low_1), (high_0, high_1))))))))
noncomputable def s_l1Cur_fraction_L5 (v : ((Unit × Unit × Unit × Unit × Int) × ((List (Int) × Int × Int) × (Int × Int) × (Int × Int) × (Int × Int)))) : Option ((Unit × Unit × Unit) × ((List (Int) × Int × Int) × (Int × Int) × (Int × Int) × (Int × Int))) := loopO (fun v => (s_l1Cur_fraction_L5_step v).run) v

def s_l1Cur_fraction_fo : List FO := [⟨[(.ag [(.si .i64), (.si .i64)])], [(.rcd 0 [(.sl (.int .u8) false true), (.si .i64), (.si .u64)])]⟩]
noncomputable def s_l1Cur_fraction_t : (Unit × (List (Int) × Int × Int)) → T ((Int × Int) × (List (Int) × Int × Int)) := fun ((), (c_0, c_1, c_2)) =>
  (.sub (s_l1Cur_one (((), (10 : Int)), (c_0, (c_1, c_2)))) fun z0 =>
  (.test z0.1
  (.test true
   (.sub (s_l1Cur_among (((), (win (List.set (List.set (List.set (List.set (List.set (List.set (List.replicate 6 (0 : Int)) 0 (0 : Int)) 1 (1 : Int)) 2 (2 : Int)) 3 (-1)) 4 (1000000 : Int)) 5 (1000001 : Int)) 0 6)), (z0.2.1, (z0.2.2.1, z0.2.2.2)))) fun z1 =>
    (.test true
    (.sub (s_l1Cur_among (((), (win (List.set (List.set (List.set (List.set (List.set (List.set (List.replicate 6 (0 : Int)) 0 (0 : Int)) 1 (1 : Int)) 2 (2 : Int)) 3 (4 : Int)) 4 (-1)) 5 (999999 : Int)) 0 6)), (z1.2.1, (z1.2.2.1, z1.2.2.2)))) fun z2 =>
     (.ret ((z1.1, z2.1), (z2.2.1, (z2.2.2.1, z2.2.2.2)))))
    .fail))
   .fail)
  (.sub (s_l1Cur_pick (((), (8 : Int)), (z0.2.1, (z0.2.2.1, z0.2.2.2)))) fun z3 =>
   (.sub (s_l1Cur_fraction_L5 (((), ((), ((), ((), z3.1)))), ((z3.2.1, (z3.2.2.1, z3.2.2.2)), (((0 : Int), (0 : Int)), (((0 : Int), (1 : Int)), ((1 : Int), (0 : Int))))))) fun z4 =>
   (.sub (s_nbMediant ((z4.2.2.2.1.1, z4.2.2.2.1.2), (z4.2.2.2.2.1, z4.2.2.2.2.2))) fun z5 =>
   (.ret ((z5.1, z5.2), (z4.2.1.1, (z4.2.1.2.1, z4.2.1.2.2)))))))))
noncomputable def s_l1Cur_fraction (v : (Unit × (List (Int) × Int × Int))) : Option ((Int × Int) × (List (Int) × Int × Int)) := (s_l1Cur_fraction_t v).run
noncomputable def s_l1Cur_fraction_E : TEnv := ((((E0.add1 n_s_l1Cur_one s_l1Cur_one_sh s_l1Cur_one_fo s_l1Cur_one).add1 n_s_l1Cur_among s_l1Cur_among_sh s_l1Cur_among_fo s_l1Cur_among).add1 n_s_l1Cur_pick s_l1Cur_pick_sh s_l1Cur_pick_fo s_l1Cur_pick).add1 n_s_nbMediant s_nbMediant_sh s_nbMediant_fo s_nbMediant)
theorem s_l1Cur_fraction_Eok : (s_l1Cur_fraction_E).OK := ((((E0ok.add1 s_l1Cur_one_ok).add1 s_l1Cur_among_ok).add1 s_l1Cur_pick_ok).add1 s_nbMediant_ok)
noncomputable def s_l1Cur_fraction_told : Nat → Option SealT := fun id => if id = 5 then some (LSh.told s_l1Cur_fraction_L5_sh 1 (s_l1Cur_fraction_L5_step)) else none
theorem s_l1Cur_fraction_L5_ok : ToldOK Tryd.prog 1 (loopAt (bodyOf fn_s_l1Cur_fraction) [0]) (LSh.told s_l1Cur_fraction_L5_sh 1 (s_l1Cur_fraction_L5_step)) :=
  loop_ok (E := s_l1Cur_fraction_E) (s_l1Cur_fraction_Eok) (told := s_l1Cur_fraction_told) (l := s_l1Cur_fraction_L5_sh) (step := s_l1Cur_fraction_L5_step) (loopsOK_of (ls := []) (by kernel_rfl) trivial) (by kernel_rfl) (fun v => by kernel_rfl)
theorem s_l1Cur_fraction_ok : FOK Tryd.prog n_s_l1Cur_fraction s_l1Cur_fraction_sh s_l1Cur_fraction_fo s_l1Cur_fraction :=
  fn_ok (E := s_l1Cur_fraction_E) (s_l1Cur_fraction_Eok) (told := s_l1Cur_fraction_told) (fl := []) (c := bodyOf fn_s_l1Cur_fraction) (s := s_l1Cur_fraction_sh) (l := s_l1Cur_fraction_fo) (tree := s_l1Cur_fraction_t) fnat_s_l1Cur_fraction (by kernel_rfl) (by kernel_rfl) (by kernel_rfl) (loopsOK_of (ls := [loopAt (bodyOf fn_s_l1Cur_fraction) [0]]) (by kernel_rfl) ⟨.inr ⟨_, by kernel_rfl, s_l1Cur_fraction_L5_ok⟩, trivial⟩) (fun v => by kernel_rfl)

theorem fraction_L5_ok (t2 : Int × Int) : ∀ (m : Nat) (K : Int) (c : List Int × Int × Int) (lo hi : Int × Int), curOK K c → K + 2 * (m : Int) < 1000000000000 →
    ∃ c' lo' hi', s_l1Cur_fraction_L5 (((), ((), ((), ((), (m : Int))))), (c, (t2, (lo, hi)))) = some (((), ((), ())), (c', (t2, (lo', hi')))) ∧ curOK (K + 2 * (m : Int)) c' := by
  obtain ⟨t0, t1⟩ := t2
  intro m
  induction m with
  | zero =>
    intro K c lo hi hc hK
    obtain ⟨c0, c1, c2⟩ := c
    obtain ⟨l0, l1⟩ := lo
    obtain ⟨h0, h1⟩ := hi
    refine ⟨(c0, c1, c2), (l0, l1), (h0, h1), ?_, hc.mono (by omega)⟩
    simp only [s_l1Cur_fraction_L5]
    refine loopO_done ?_
    rw [s_l1Cur_fraction_L5_step, T.run_test, if_neg (by rw [decide_eq_true_eq]; omega), T.run_ret]
  | succ m ih =>
    intro K c lo hi hc hK
    obtain ⟨c0, c1, c2⟩ := c
    obtain ⟨l0, l1⟩ := lo
    obtain ⟨h0, h1⟩ := hi
    have hK0 : 0 ≤ K := Int.le_trans hc.2.1 hc.2.2
    obtain ⟨b, ⟨d0, d1, d2⟩, e, hc1⟩ := one_ok 2 hc (by omega)
    have wm : w64 (((m + 1 : Nat) : Int) - 1) = (m : Int) := by rw [w64_id (by omega) (by omega)]; omega
    have hm : s_nbMediant ((l0, l1), (h0, h1)) = some (w64 (l0 + h0), w64 (l1 + h1)) := rfl
    cases b with
    | true =>
      obtain ⟨c3, lo3, hi3, e4, hc4⟩ := ih (K + 2) (d0, d1, d2) (w64 (l0 + h0), w64 (l1 + h1)) (h0, h1) hc1 (by omega)
      refine ⟨c3, lo3, hi3, ?_, hc4.mono (by omega)⟩
      simp only [s_l1Cur_fraction_L5] at e4 ⊢
      rw [← e4]
      refine loopO_next ?_
      rw [s_l1Cur_fraction_L5_step, T.run_test, if_pos (decide_eq_true (by omega)), T.run_sub, hm, Option.bind_some, T.run_sub, e, Option.bind_some, T.run_test, if_pos rfl, T.run_ret, wm]
    | false =>
      obtain ⟨c3, lo3, hi3, e4, hc4⟩ := ih (K + 2) (d0, d1, d2) (l0, l1) (w64 (l0 + h0), w64 (l1 + h1)) hc1 (by omega)
      refine ⟨c3, lo3, hi3, ?_, hc4.mono (by omega)⟩
      simp only [s_l1Cur_fraction_L5] at e4 ⊢
      rw [← e4]
      refine loopO_next ?_
      rw [s_l1Cur_fraction_L5_step, T.run_test, if_pos (decide_eq_true (by omega)), T.run_sub, hm, Option.bind_some, T.run_sub, e, Option.bind_some, T.run_test, if_neg (by simp), T.run_ret, wm]
theorem fraction_ok {K : Int} {c : List Int × Int × Int} (h : curOK K c) (hK : K < 10000000) : ∃ f c', s_l1Cur_fraction ((), c) = some (f, c') ∧ curOK (K + 30) c' := by
  obtain ⟨c0, c1, c2⟩ := c
  obtain ⟨b, ⟨d0, d1, d2⟩, e, hc⟩ := one_ok 10 h (by omega)
  rw [s_l1Cur_fraction, s_l1Cur_fraction_t, T.run_sub, e, Option.bind_some, T.run_test]
  cases b with
  | true =>
    have hw1 : (win (List.set (List.set (List.set (List.set (List.set (List.set (List.replicate 6 (0 : Int)) 0 (0 : Int)) 1 (1 : Int)) 2 (2 : Int)) 3 (-1)) 4 (1000000 : Int)) 5 (1000001 : Int)) 0 6) = [0, 1, 2, -1, 1000000, 1000001] := rfl
    have hw2 : (win (List.set (List.set (List.set (List.set (List.set (List.set (List.replicate 6 (0 : Int)) 0 (0 : Int)) 1 (1 : Int)) 2 (2 : Int)) 3 (4 : Int)) 4 (-1)) 5 (999999 : Int)) 0 6) = [0, 1, 2, 4, -1, 999999] := rfl
    obtain ⟨x1, ⟨f0, f1, f2⟩, e1, _, hc1⟩ := among_ok [0, 1, 2, -1, 1000000, 1000001] hc (by omega) (by simp)
    obtain ⟨x2, ⟨g0, g1, g2⟩, e2, _, hc2⟩ := among_ok [0, 1, 2, 4, -1, 999999] hc1 (by omega) (by simp)
    rw [if_pos rfl, T.run_test, if_pos rfl, T.run_sub, hw1, e1, Option.bind_some, T.run_test, if_pos rfl, T.run_sub, hw2, e2, Option.bind_some, T.run_ret]
    exact ⟨_, _, rfl, hc2.mono (by omega)⟩
  | false =>
    obtain ⟨v, ⟨f0, f1, f2⟩, e1, v0, v1, _, hc1⟩ := pick_ok 8 hc (by omega)
    have v1 := v1 (by omega)
    obtain ⟨n, hn⟩ : ∃ n : Nat, v = (n : Int) := ⟨v.toNat, by omega⟩
    subst hn
    obtain ⟨⟨g0, g1, g2⟩, ⟨l0, l1⟩, ⟨h0, h1⟩, e2, hc2⟩ := fraction_L5_ok (0, 0) n _ _ (0, 1) (1, 0) hc1 (by omega)
    have hm : s_nbMediant ((l0, l1), (h0, h1)) = some (w64 (l0 + h0), w64 (l1 + h1)) := rfl
    rw [if_neg (by simp), T.run_sub, e1, Option.bind_some, T.run_sub, e2, Option.bind_some, T.run_sub, hm, Option.bind_some, T.run_ret]
    exact ⟨_, _, rfl, hc2.mono (by omega)⟩


def s_DrawMoveFraction_sh : FSh := ⟨[(.one (.sl (.int .u8) false true))], []⟩

def s_DrawMoveFraction_fo : List FO := [⟨[(.ag [(.si .i64), (.si .i64), (.si .i64), (.si .i64)]), (.ag [(.si .i64), (.si .i64)])], []⟩]
noncomputable def s_DrawMoveFraction_t : List (Int) → T ((Int × Int × Int × Int) × (Int × Int)) := fun code =>
  (.sub (s_l1Cur_matrix ((), (code, ((0 : Int), (0 : Int))))) fun z0 =>
  (.sub (s_l1Cur_fraction ((), (z0.2.1, (z0.2.2.1, z0.2.2.2)))) fun z1 =>
  (.ret ((z0.1.1, (z0.1.2.1, (z0.1.2.2.1, z0.1.2.2.2))), (z1.1.1, z1.1.2)))))
noncomputable def s_DrawMoveFraction (v : List (Int)) : Option ((Int × Int × Int × Int) × (Int × Int)) := (s_DrawMoveFraction_t v).run
noncomputable def s_DrawMoveFraction_E : TEnv := ((E0.add1 n_s_l1Cur_matrix s_l1Cur_matrix_sh s_l1Cur_matrix_fo s_l1Cur_matrix).add1 n_s_l1Cur_fraction s_l1Cur_fraction_sh s_l1Cur_fraction_fo s_l1Cur_fraction)
theorem s_DrawMoveFraction_Eok : (s_DrawMoveFraction_E).OK := ((E0ok.add1 s_l1Cur_matrix_ok).add1 s_l1Cur_fraction_ok)
noncomputable def s_DrawMoveFraction_told : Nat → Option SealT := fun id => none
theorem s_DrawMoveFraction_ok : FOK Tryd.prog n_s_DrawMoveFraction s_DrawMoveFraction_sh s_DrawMoveFraction_fo s_DrawMoveFraction :=
  fn_ok (E := s_DrawMoveFraction_E) (s_DrawMoveFraction_Eok) (told := s_DrawMoveFraction_told) (fl := []) (c := bodyOf fn_s_DrawMoveFraction) (s := s_DrawMoveFraction_sh) (l := s_DrawMoveFraction_fo) (tree := s_DrawMoveFraction_t) fnat_s_DrawMoveFraction (by kernel_rfl) (by kernel_rfl) (by kernel_rfl) (loopsOK_of (ls := []) (by kernel_rfl) trivial) (fun v => by kernel_rfl)

def i_divisor_sh : FSh := ⟨[(.one (.si .i64)), (.one (.si .i64))], []⟩

def i_divisor_L1_sh : LSh := ⟨(fun ex => match ex with | .norm => [(0, none), (1, none)] | .exit i => if i = 0 then [(0, none)] else [] | .ret => [(4, none)]), [(0, (.one (.si .i64))), (1, (.one (.si .i64)))], [], [⟨(.exit 0), [(0, (.one (.si .i64)))], []⟩], [], []⟩
noncomputable def i_divisor_L1_step : (Int × Int) → T ((Int × Int) ⊕ Int) := fun (a, b) =>
  (.test (b != 0)
  (.test (decide (b ≠ 0))
   (.ret (Sum.inl (b, (Int.tmod a b))))
   .fail)
  (.ret (Sum.inr a)))
noncomputable def i_divisor_L1 (v : (Int × Int)) : Option Int := loopO (fun v => (i_divisor_L1_step v).run) v

def i_divisor_fo : List FO := [⟨[(.one (.si .i64))], []⟩]
noncomputable def i_divisor_t : (Int × Int) → T Int := fun (a, b) =>
  (.sub (i_divisor_L1 (a, b)) fun z0 =>
  (.ret z0))
noncomputable def i_divisor (v : (Int × Int)) : Option Int := (i_divisor_t v).run
noncomputable def i_divisor_E : TEnv := E0
theorem i_divisor_Eok : (i_divisor_E).OK := E0ok
noncomputable def i_divisor_told : Nat → Option SealT := fun id => if id = 1 then some (LSh.told i_divisor_L1_sh 0 (i_divisor_L1_step)) else none
theorem i_divisor_L1_ok : ToldOK Tryd.prog 0 (loopAt (bodyOf fn_i_divisor) [0]) (LSh.told i_divisor_L1_sh 0 (i_divisor_L1_step)) :=
  loop_ok (E := i_divisor_E) (i_divisor_Eok) (told := i_divisor_told) (l := i_divisor_L1_sh) (step := i_divisor_L1_step) (loopsOK_of (ls := []) (by kernel_rfl) trivial) (by kernel_rfl) (fun v => by kernel_rfl)
theorem i_divisor_ok : FOK Tryd.prog n_i_divisor i_divisor_sh i_divisor_fo i_divisor :=
  fn_ok (E := i_divisor_E) (i_divisor_Eok) (told := i_divisor_told) (fl := []) (c := bodyOf fn_i_divisor) (s := i_divisor_sh) (l := i_divisor_fo) (tree := i_divisor_t) fnat_i_divisor (by kernel_rfl) (by kernel_rfl) (by kernel_rfl) (loopsOK_of (ls := [loopAt (bodyOf fn_i_divisor) [0]]) (by kernel_rfl) ⟨.inr ⟨_, by kernel_rfl, i_divisor_L1_ok⟩, trivial⟩) (fun v => by kernel_rfl)

theorem i_divisor_eq (a b : Int) (ha : 0 ≤ a) (hb : 0 ≤ b) : i_divisor (a, b) = some ((Nat.gcd a.toNat b.toNat : Nat) : Int) := by
  have h := loop_eq (step := fun v => (i_divisor_L1_step v).run) (fun v => v.2.toNat) (fun v => 0 ≤ v.1 ∧ 0 ≤ v.2) (fun v => ((Nat.gcd v.1.toNat v.2.toNat : Nat) : Int))
    (by
      rintro ⟨a, b⟩ ⟨ha, hb⟩
      simp only at ha hb
      by_cases h0 : b = 0
      · right
        subst h0
        have : ((a.toNat : Nat) : Int) = a := Int.toNat_of_nonneg ha
        simp [i_divisor_L1_step, T.run, this]
      · left
        obtain ⟨g1, g2, g3⟩ := gcd_toNat_step ha (show 0 < b by omega)
        refine ⟨(b, Int.tmod a b), ?_, ⟨hb, g2⟩, ?_, ?_⟩
        · simp [i_divisor_L1_step, T.run, h0]
        · simp only; omega
        · simp only [g1]) (a, b) ⟨ha, hb⟩
  simp only [i_divisor, i_divisor_t, T.run, i_divisor_L1]
  rw [h]; rfl



theorem mul4_as (a b c : M4) : mul4 (mul4 a b) c = mul4 a (mul4 b c) := by
  obtain ⟨a1, a2, a3, a4⟩ := a
  obtain ⟨b1, b2, b3, b4⟩ := b
  obtain ⟨c1, c2, c3, c4⟩ := c
  simp only [mul4, Prod.mk.injEq]
  refine ⟨?_, ?_, ?_, ?_⟩ <;> grind
theorem mul4_1 (a : M4) : mul4 one4 a = a := by
  obtain ⟨a1, a2, a3, a4⟩ := a
  simp [mul4, one4]
theorem wordG_mul : ∀ (w : List UInt8) (m : M4), wordG m w = mul4 m (wordG one4 w)
  | [], m => by
    obtain ⟨a1, a2, a3, a4⟩ := m
    simp [wordG, mul4, one4]
  | c :: w, m => by
    show wordG (mul4 m (wL c)) w = mul4 m (wordG (mul4 one4 (wL c)) w)
    rw [wordG_mul w, wordG_mul w (mul4 one4 (wL c)), mul4_1, mul4_as]
theorem wordG_cons (c : UInt8) (w : List UInt8) : wordG one4 (c :: w) = mul4 (wL c) (wordG one4 w) := by
  show wordG (mul4 one4 (wL c)) w = _
  rw [wordG_mul, mul4_1]
theorem wordG_append (u w : List UInt8) : wordG one4 (u ++ w) = mul4 (wordG one4 u) (wordG one4 w) := by
  unfold wordG
  rw [List.foldl_append]
  exact wordG_mul w _
/-- Numbers that are not less than 0, and the determinant one. -/
def wn (m : M4) : Prop := 0 ≤ m.1 ∧ 0 ≤ m.2.1 ∧ 0 ≤ m.2.2.1 ∧ 0 ≤ m.2.2.2 ∧ m.1 * m.2.2.2 - m.2.1 * m.2.2.1 = 1
theorem wordG_wn : ∀ w : List UInt8, wn (wordG one4 w)
  | [] => by simp [wordG, one4, wn]
  | c :: w => by
    have h := wordG_wn w
    rw [wordG_cons]
    generalize wordG one4 w = m at *
    obtain ⟨a, b, d, e⟩ := m
    unfold wL
    simp only [wn] at h
    split
    · refine ⟨?_, ?_, ?_, ?_, ?_⟩ <;> simp only [mul4] <;> first | omega | grind
    · refine ⟨?_, ?_, ?_, ?_, ?_⟩ <;> simp only [mul4] <;> first | omega | grind
theorem wn_diag {m : M4} (h : wn m) : 1 ≤ m.1 ∧ 1 ≤ m.2.2.2 := by
  obtain ⟨a, b, c, d⟩ := m
  simp only [wn] at h ⊢
  obtain ⟨h1, h2, h3, h4, h5⟩ := h
  have h6 : 0 ≤ b * c := Int.mul_nonneg h2 h3
  constructor
  · rcases Int.lt_or_le 0 a with h | h
    · omega
    · have : a = 0 := by omega
      subst this; rw [Int.zero_mul] at h5; omega
  · rcases Int.lt_or_le 0 d with h | h
    · omega
    · have : d = 0 := by omega
      subst this; rw [Int.mul_zero] at h5; omega
theorem wn_le {a b : M4} (ha : wn a) (hb : wn b) : (a.1 ≤ (mul4 a b).1 ∧ a.2.1 ≤ (mul4 a b).2.1 ∧ a.2.2.1 ≤ (mul4 a b).2.2.1 ∧ a.2.2.2 ≤ (mul4 a b).2.2.2) ∧
    (b.1 ≤ (mul4 a b).1 ∧ b.2.1 ≤ (mul4 a b).2.1 ∧ b.2.2.1 ≤ (mul4 a b).2.2.1 ∧ b.2.2.2 ≤ (mul4 a b).2.2.2) := by
  have da := wn_diag ha
  have db := wn_diag hb
  obtain ⟨a1, a2, a3, a4⟩ := a
  obtain ⟨b1, b2, b3, b4⟩ := b
  simp only [wn] at ha hb
  simp only [mul4] at da db ⊢
  obtain ⟨h1, h2, h3, h4, _⟩ := ha
  obtain ⟨g1, g2, g3, g4, _⟩ := hb
  have k : ∀ x y : Int, 0 ≤ x → 1 ≤ y → x ≤ x * y := fun x y hx hy => by
    have := Int.mul_le_mul_of_nonneg_left hy hx
    rwa [Int.mul_one] at this
  have k' : ∀ x y : Int, 0 ≤ x → 1 ≤ y → x ≤ y * x := fun x y hx hy => by rw [Int.mul_comm]; exact k x y hx hy
  have p := fun (x y : Int) (hx : 0 ≤ x) (hy : 0 ≤ y) => Int.mul_nonneg hx hy
  have e1 := k a1 b1 h1 db.1; have e2 := k a2 b4 h2 db.2; have e3 := k a3 b1 h3 db.1; have e4 := k a4 b4 h4 db.2
  have f1 := k' b1 a1 g1 da.1; have f2 := k' b2 a1 g2 da.1; have f3 := k' b3 a4 g3 da.2; have f4 := k' b4 a4 g4 da.2
  have p1 := p a2 b3 h2 g3; have p2 := p a1 b2 h1 g2; have p3 := p a4 b3 h4 g3; have p4 := p a3 b2 h3 g2
  have p5 := p a2 b4 h2 g4; have p6 := p a3 b1 h3 g1
  refine ⟨⟨?_, ?_, ?_, ?_⟩, ?_, ?_, ?_, ?_⟩ <;> omega
theorem wn_good {a m : M4} (ha : wn a) (hm : good4 m = true) (h : a.1 ≤ m.1 ∧ a.2.1 ≤ m.2.1 ∧ a.2.2.1 ≤ m.2.2.1 ∧ a.2.2.2 ≤ m.2.2.2) : good4 a = true := by
  obtain ⟨a1, a2, a3, a4⟩ := a
  obtain ⟨m1, m2, m3, m4⟩ := m
  rw [good4_iff] at hm ⊢
  simp only [wn] at ha
  simp only at h
  omega
/-- The word of a word's matrix. -/
theorem wordF_word : ∀ (w : List UInt8) (n : Nat) (out : List UInt8), w.length ≤ n → isW w = true → wordF n (wordG one4 w) out = some (out ++ w)
  | [], n, out, _, _ => by cases n <;> simp [wordF, wordG, one4]
  | c :: w, 0, out, h, _ => by simp at h
  | c :: w, n + 1, out, h, hw => by
    have hw' : (c.toNat == 108 || c.toNat == 114) = true ∧ isW w = true := by
      unfold isW at hw
      rw [List.all_cons, Bool.and_eq_true] at hw
      exact hw
    have ih := fun out => wordF_word w n out (by simp only [List.length_cons] at h; omega) hw'.2
    have hn := wordG_wn w
    rw [wordG_cons]
    generalize wordG one4 w = m at *
    obtain ⟨a, b, d, e⟩ := m
    have hd := wn_diag hn
    simp only [wn] at hn
    simp only at hd
    rcases Bool.or_eq_true _ _ |>.mp hw'.1 with hc | hc
    · have hc := beq_iff_eq.1 hc
      have e1 : mul4 (wL c) (a, b, d, e) = (a, b, a + d, b + e) := by unfold wL; rw [if_pos hc]; simp [mul4]
      have hc8 : c = 108 := UInt8.toNat_inj.1 hc
      rw [e1, wordF, if_neg (by simp only [Prod.mk.injEq]; omega), if_neg (by simp only; omega), show a + d - a = d by omega, show b + e - b = e by omega, ih, hc8]
      simp
    · have hc := beq_iff_eq.1 hc
      have e1 : mul4 (wL c) (a, b, d, e) = (a + d, b + e, d, e) := by unfold wL; rw [if_neg (by omega)]; simp [mul4]
      have hc8 : c = 114 := UInt8.toNat_inj.1 hc
      rw [e1, wordF, if_neg (by simp only [Prod.mk.injEq]; omega), if_pos (by simp only; omega), show a + d - d = a by omega, show b + e - e = b by omega, ih, hc8]
      simp
theorem wordF_back : ∀ (n : Nat) (m : M4) (out o : List UInt8), wordF n m out = some o → ∃ w, o = out ++ w ∧ w.length ≤ n ∧ isW w = true ∧ m = wordG one4 w
  | 0, (a, b, c, d), out, o, h => by
    simp only [wordF] at h
    split at h
    · rename_i e
      refine ⟨[], by simpa using (Option.some.inj h).symm, by simp, rfl, e⟩
    · cases h
  | n + 1, (a, b, c, d), out, o, h => by
    simp only [wordF] at h
    split at h
    · rename_i e
      refine ⟨[], by simpa using (Option.some.inj h).symm, by simp, rfl, e⟩
    · split at h
      · obtain ⟨w, h1, h2, h3, h4⟩ := wordF_back n _ _ _ h
        refine ⟨114 :: w, by rw [h1]; simp, by simp; omega, ?_, ?_⟩
        · unfold isW at h3 ⊢; rw [List.all_cons, h3]; rfl
        · rw [wordG_cons, ← h4]
          have : wL 114 = (1, 1, 0, 1) := rfl
          rw [this]
          simp only [mul4, Prod.mk.injEq]
          refine ⟨?_, ?_, ?_, ?_⟩ <;> omega
      · obtain ⟨w, h1, h2, h3, h4⟩ := wordF_back n _ _ _ h
        refine ⟨108 :: w, by rw [h1]; simp, by simp; omega, ?_, ?_⟩
        · unfold isW at h3 ⊢; rw [List.all_cons, h3]; rfl
        · rw [wordG_cons, ← h4]
          have : wL 108 = (1, 0, 1, 1) := rfl
          rw [this]
          simp only [mul4, Prod.mk.injEq]
          refine ⟨?_, ?_, ?_, ?_⟩ <;> omega
/-- A fraction in its lowest terms. -/
def fracB (f : Int × Int) : Bool := inB 0 1000000 f.1 && (inB 0 1000000 f.2 && decide (Nat.gcd f.1.toNat f.2.toNat = 1))
def nrm (x y : Int) : Int × Int := if y < 0 ∨ y = 0 ∧ x < 0 then (-x, -y) else (x, y)
def lim (p : Int × Int) : Int × Int × Bool := if (-1000000000000000 ≤ p.1 ∧ p.1 ≤ 1000000000000000) ∧ p.2 ≤ 1000000000000000 then (p.1, p.2, true) else (0, 0, false)
def mvR (m : M4) (f : Int × Int) : Int × Int × Bool := if good4 m && fracB f then lim (nrm (m.1 * f.1 + m.2.1 * f.2) (m.2.2.1 * f.1 + m.2.2.2 * f.2)) else (0, 0, false)
def invM (m : M4) : M4 := (m.2.2.2, -m.2.1, -m.2.2.1, m.1)
theorem good4_inv {m : M4} (h : good4 m = true) : good4 (invM m) = true := by
  obtain ⟨a, b, c, d⟩ := m
  show good4 (d, -b, -c, a) = true
  rw [good4_iff] at h ⊢
  have : d * a - -b * -c = a * d - b * c := by grind
  omega
theorem fracB_iff {f : Int × Int} : fracB f = true ↔ (0 ≤ f.1 ∧ f.1 ≤ 1000000) ∧ (0 ≤ f.2 ∧ f.2 ≤ 1000000) ∧ Nat.gcd f.1.toNat f.2.toNat = 1 := by
  unfold fracB
  simp only [Bool.and_eq_true, inB_iff, decide_eq_true_eq]
theorem gcd_moved {a b c d p q x y : Int} (hdet : a * d - b * c = 1) (hp : 0 ≤ p) (hq : 0 ≤ q) (hg : Nat.gcd p.toNat q.toNat = 1) (hx : x = a * p + b * q) (hy : y = c * p + d * q) : Nat.gcd x.natAbs y.natAbs = 1 := by
  have e1 : p = d * x - b * y := by rw [hx, hy]; grind
  have e2 : q = a * y - c * x := by rw [hx, hy]; grind
  have h1 : ((Nat.gcd x.natAbs y.natAbs : Nat) : Int) ∣ x := Int.ofNat_dvd_left.2 (Nat.gcd_dvd_left _ _)
  have h2 : ((Nat.gcd x.natAbs y.natAbs : Nat) : Int) ∣ y := Int.ofNat_dvd_left.2 (Nat.gcd_dvd_right _ _)
  have h3 : ((Nat.gcd x.natAbs y.natAbs : Nat) : Int) ∣ p := by rw [e1]; exact Int.dvd_sub (Int.dvd_mul_of_dvd_right h1) (Int.dvd_mul_of_dvd_right h2)
  have h4 : ((Nat.gcd x.natAbs y.natAbs : Nat) : Int) ∣ q := by rw [e2]; exact Int.dvd_sub (Int.dvd_mul_of_dvd_right h2) (Int.dvd_mul_of_dvd_right h1)
  have h5 : Nat.gcd x.natAbs y.natAbs ∣ p.toNat := by have := Int.ofNat_dvd_left.1 h3; rwa [show p.natAbs = p.toNat by omega] at this
  have h6 : Nat.gcd x.natAbs y.natAbs ∣ q.toNat := by have := Int.ofNat_dvd_left.1 h4; rwa [show q.natAbs = q.toNat by omega] at this
  have := Nat.dvd_gcd h5 h6
  rw [hg] at this
  exact Nat.dvd_one.1 this
/-- A moved fraction is told, and moved back by the inverse. -/
theorem mv_back {m : M4} {f : Int × Int} {x y : Int} (h : mvR m f = (x, y, true)) : 0 ≤ y ∧ (y = 0 → x = 1) ∧ good4 m = true ∧ (0 ≤ x → x ≤ 1000000 → y ≤ 1000000 → fracB (x, y) = true ∧ mvR (invM m) (x, y) = (f.1, f.2, true)) := by
  obtain ⟨a, b, c, d⟩ := m
  obtain ⟨p, q⟩ := f
  unfold mvR at h
  split at h
  · rename_i hc
    rw [Bool.and_eq_true] at hc
    obtain ⟨hg, hf⟩ := hc
    have hg' := good4_inv hg
    have hdet := (good4_iff.1 hg).2.2.2.2
    have hF := fracB_iff.1 hf
    simp only at hF h
    obtain ⟨⟨p0, p1⟩, ⟨q0, q1⟩, hgc⟩ := hF
    unfold lim at h
    split at h
    · rename_i hl
      simp only [Prod.mk.injEq, and_true] at h
      obtain ⟨hx, hy⟩ := h
      have hgm := gcd_moved hdet p0 q0 hgc (x := a * p + b * q) (y := c * p + d * q) rfl rfl
      generalize hX : a * p + b * q = X at *
      generalize hY : c * p + d * q = Y at *
      have eP : d * X - b * Y = p := by rw [← hX, ← hY]; grind
      have eQ : a * Y - c * X = q := by rw [← hX, ← hY]; grind
      have hq0 : q = 0 → p = 1 := fun e => by subst e; simp at hgc; omega
      unfold nrm at hx hy
      by_cases hs : Y < 0 ∨ Y = 0 ∧ X < 0
      · rw [if_pos hs] at hx hy
        simp only at hx hy
        have hxy : Nat.gcd x.natAbs y.natAbs = 1 := by rw [← hx, ← hy, Int.natAbs_neg, Int.natAbs_neg]; exact hgm
        have hy0 : y = 0 → x = 1 := fun e => by rw [e] at hxy; simp at hxy; omega
        refine ⟨by omega, hy0, hg, fun x0 x1 y1 => ?_⟩
        have hfr : fracB (x, y) = true := by
          rw [fracB_iff]
          refine ⟨⟨x0, x1⟩, ⟨by omega, y1⟩, ?_⟩
          simp only
          rw [show x.toNat = x.natAbs by omega, show y.toNat = y.natAbs by omega]
          exact hxy
        refine ⟨hfr, ?_⟩
        unfold mvR
        rw [hg', hfr]
        simp only [Bool.and_self, if_true, invM]
        have i1 : d * x + -b * y = -p := by rw [← hx, ← hy, ← eP]; grind
        have i2 : -c * x + a * y = -q := by rw [← hx, ← hy, ← eQ]; grind
        rw [i1, i2]
        unfold nrm
        by_cases hq : q = 0
        · have := hq0 hq
          subst hq this
          rw [if_pos (by omega)]; rfl
        · rw [if_pos (by omega)]
          simp only [Int.neg_neg]
          unfold lim
          rw [if_pos (by simp only; omega)]
      · rw [if_neg hs] at hx hy
        simp only at hx hy
        have hxy : Nat.gcd x.natAbs y.natAbs = 1 := by rw [← hx, ← hy]; exact hgm
        have hy0 : y = 0 → x = 1 := fun e => by rw [e] at hxy; simp at hxy; omega
        refine ⟨by omega, hy0, hg, fun x0 x1 y1 => ?_⟩
        have hfr : fracB (x, y) = true := by
          rw [fracB_iff]
          refine ⟨⟨x0, x1⟩, ⟨by omega, y1⟩, ?_⟩
          simp only
          rw [show x.toNat = x.natAbs by omega, show y.toNat = y.natAbs by omega]
          exact hxy
        refine ⟨hfr, ?_⟩
        unfold mvR
        rw [hg', hfr]
        simp only [Bool.and_self, if_true, invM]
        have i1 : d * x + -b * y = p := by rw [← hx, ← hy, ← eP]; grind
        have i2 : -c * x + a * y = q := by rw [← hx, ← hy, ← eQ]; grind
        rw [i1, i2]
        unfold nrm
        rw [if_neg (by omega)]
        unfold lim
        rw [if_pos (by simp only; omega)]
    · simp only [Prod.mk.injEq] at h; exact absurd h.2.2 (by simp)
  · simp only [Prod.mk.injEq] at h; exact absurd h.2.2 (by simp)


def i_IsFraction_sh : FSh := ⟨[(.ag [(.si .i64), (.si .i64)])], []⟩

def i_IsFraction_fo : List FO := [⟨[(.one .sb)], []⟩]
noncomputable def i_IsFraction_t : (Int × Int) → T Bool := fun (f_0, f_1) =>
  (.sub (i_within (f_0, ((0 : Int), (1000000 : Int)))) fun z0 =>
  (.test z0
  (.sub (i_within (f_1, ((0 : Int), (1000000 : Int)))) fun z1 =>
   (.test z1
   (.sub (i_divisor (f_0, f_1)) fun z2 =>
    (.ret (z2 == 1)))
   (.ret false)))
  (.ret false)))
noncomputable def i_IsFraction (v : (Int × Int)) : Option Bool := (i_IsFraction_t v).run
noncomputable def i_IsFraction_E : TEnv := ((E0.add1 n_i_within i_within_sh i_within_fo i_within).add1 n_i_divisor i_divisor_sh i_divisor_fo i_divisor)
theorem i_IsFraction_Eok : (i_IsFraction_E).OK := ((E0ok.add1 i_within_ok).add1 i_divisor_ok)
noncomputable def i_IsFraction_told : Nat → Option SealT := fun id => none
theorem i_IsFraction_ok : FOK Tryd.prog n_i_IsFraction i_IsFraction_sh i_IsFraction_fo i_IsFraction :=
  fn_ok (E := i_IsFraction_E) (i_IsFraction_Eok) (told := i_IsFraction_told) (fl := []) (c := bodyOf fn_i_IsFraction) (s := i_IsFraction_sh) (l := i_IsFraction_fo) (tree := i_IsFraction_t) fnat_i_IsFraction (by kernel_rfl) (by kernel_rfl) (by kernel_rfl) (loopsOK_of (ls := []) (by kernel_rfl) trivial) (fun v => by kernel_rfl)

theorem i_IsFraction_eq (f : Int × Int) : i_IsFraction f = some (fracB f) := by
  obtain ⟨p, q⟩ := f
  rw [i_IsFraction, i_IsFraction_t, T.run_sub, i_within_eq, Option.bind_some, T.run_test]
  unfold fracB
  cases h1 : inB 0 1000000 p with
  | false => rfl
  | true =>
    rw [if_pos rfl, T.run_sub, i_within_eq, Option.bind_some, T.run_test]
    simp only
    cases h2 : inB 0 1000000 q with
    | false => rfl
    | true =>
      rw [inB_iff] at h1 h2
      rw [if_pos rfl, T.run_sub, i_divisor_eq p q (by omega) (by omega), Option.bind_some, T.run_ret, Bool.true_and, Bool.true_and]
      congr 1
      rw [Bool.eq_iff_iff, beq_iff_eq, decide_eq_true_eq]
      omega


def i_size_sh : FSh := ⟨[(.one (.si .i64))], []⟩

def i_size_fo : List FO := [⟨[(.one (.si .i64))], []⟩]
noncomputable def i_size_t : Int → T Int := fun n =>
  (.ret (if ((w64 (0 - n)) > n) then (w64 (0 - n)) else n))
noncomputable def i_size (v : Int) : Option Int := (i_size_t v).run
noncomputable def i_size_E : TEnv := E0
theorem i_size_Eok : (i_size_E).OK := E0ok
noncomputable def i_size_told : Nat → Option SealT := fun id => none
theorem i_size_ok : FOK Tryd.prog n_i_size i_size_sh i_size_fo i_size :=
  fn_ok (E := i_size_E) (i_size_Eok) (told := i_size_told) (fl := []) (c := bodyOf fn_i_size) (s := i_size_sh) (l := i_size_fo) (tree := i_size_t) fnat_i_size (by kernel_rfl) (by kernel_rfl) (by kernel_rfl) (loopsOK_of (ls := []) (by kernel_rfl) trivial) (fun v => by kernel_rfl)

theorem i_size_eq (n : Int) (h : -9000000000000000000 ≤ n ∧ n ≤ 9000000000000000000) : i_size n = some (if 0 - n > n then 0 - n else n) := by
  simp only [i_size, i_size_t, T.run]
  rw [w64_id (by omega) (by omega)]


def i_MoveFraction_sh : FSh := ⟨[(.ag [(.si .i64), (.si .i64), (.si .i64), (.si .i64)]), (.ag [(.si .i64), (.si .i64)])], []⟩

def i_MoveFraction_fo : List FO := [⟨[(.one (.si .i64)), (.one (.si .i64)), (.one .sb)], []⟩]
noncomputable def i_MoveFraction_t : ((Int × Int × Int × Int) × (Int × Int)) → T (Int × Int × Bool) := fun ((m_0, m_1, m_2, m_3), (f_0, f_1)) =>
  (.sub (i_IsMatrix (m_0, (m_1, (m_2, m_3)))) fun z0 =>
  (.test (! z0)
  (.ret ((0 : Int), ((0 : Int), false)))
  (.sub (i_IsFraction (f_0, f_1)) fun z1 =>
   (.test (! z1)
   (.ret ((0 : Int), ((0 : Int), false)))
   (.test (decide ((w64 ((w64 (m_2 * f_0)) + (w64 (m_3 * f_1)))) < 0))
    (.sub (i_size (w64 (0 - (w64 ((w64 (m_0 * f_0)) + (w64 (m_1 * f_1))))))) fun z2 =>
     (.test (decide ((if ((w64 (0 - (w64 ((w64 (m_2 * f_0)) + (w64 (m_3 * f_1)))))) > z2) then (w64 (0 - (w64 ((w64 (m_2 * f_0)) + (w64 (m_3 * f_1)))))) else z2) > 1000000000000000))
     (.ret ((0 : Int), ((0 : Int), false)))
     (.ret ((w64 (0 - (w64 ((w64 (m_0 * f_0)) + (w64 (m_1 * f_1)))))), ((w64 (0 - (w64 ((w64 (m_2 * f_0)) + (w64 (m_3 * f_1)))))), true)))))
    (.test ((w64 ((w64 (m_2 * f_0)) + (w64 (m_3 * f_1)))) == 0)
     (.test (decide ((w64 ((w64 (m_0 * f_0)) + (w64 (m_1 * f_1)))) < 0))
      (.sub (i_size (w64 (0 - (w64 ((w64 (m_0 * f_0)) + (w64 (m_1 * f_1))))))) fun z3 =>
       (.test (decide ((if ((w64 (0 - (w64 ((w64 (m_2 * f_0)) + (w64 (m_3 * f_1)))))) > z3) then (w64 (0 - (w64 ((w64 (m_2 * f_0)) + (w64 (m_3 * f_1)))))) else z3) > 1000000000000000))
       (.ret ((0 : Int), ((0 : Int), false)))
       (.ret ((w64 (0 - (w64 ((w64 (m_0 * f_0)) + (w64 (m_1 * f_1)))))), ((w64 (0 - (w64 ((w64 (m_2 * f_0)) + (w64 (m_3 * f_1)))))), true)))))
      (.sub (i_size (w64 ((w64 (m_0 * f_0)) + (w64 (m_1 * f_1))))) fun z4 =>
       (.test (decide ((if ((w64 ((w64 (m_2 * f_0)) + (w64 (m_3 * f_1)))) > z4) then (w64 ((w64 (m_2 * f_0)) + (w64 (m_3 * f_1)))) else z4) > 1000000000000000))
       (.ret ((0 : Int), ((0 : Int), false)))
       (.ret ((w64 ((w64 (m_0 * f_0)) + (w64 (m_1 * f_1)))), ((w64 ((w64 (m_2 * f_0)) + (w64 (m_3 * f_1)))), true))))))
     (.sub (i_size (w64 ((w64 (m_0 * f_0)) + (w64 (m_1 * f_1))))) fun z5 =>
      (.test (decide ((if ((w64 ((w64 (m_2 * f_0)) + (w64 (m_3 * f_1)))) > z5) then (w64 ((w64 (m_2 * f_0)) + (w64 (m_3 * f_1)))) else z5) > 1000000000000000))
      (.ret ((0 : Int), ((0 : Int), false)))
      (.ret ((w64 ((w64 (m_0 * f_0)) + (w64 (m_1 * f_1)))), ((w64 ((w64 (m_2 * f_0)) + (w64 (m_3 * f_1)))), true)))))))))))
noncomputable def i_MoveFraction (v : ((Int × Int × Int × Int) × (Int × Int))) : Option (Int × Int × Bool) := (i_MoveFraction_t v).run
noncomputable def i_MoveFraction_E : TEnv := (((E0.add1 n_i_IsMatrix i_IsMatrix_sh i_IsMatrix_fo i_IsMatrix).add1 n_i_IsFraction i_IsFraction_sh i_IsFraction_fo i_IsFraction).add1 n_i_size i_size_sh i_size_fo i_size)
theorem i_MoveFraction_Eok : (i_MoveFraction_E).OK := (((E0ok.add1 i_IsMatrix_ok).add1 i_IsFraction_ok).add1 i_size_ok)
noncomputable def i_MoveFraction_told : Nat → Option SealT := fun id => none
theorem i_MoveFraction_ok : FOK Tryd.prog n_i_MoveFraction i_MoveFraction_sh i_MoveFraction_fo i_MoveFraction :=
  fn_ok (E := i_MoveFraction_E) (i_MoveFraction_Eok) (told := i_MoveFraction_told) (fl := []) (c := bodyOf fn_i_MoveFraction) (s := i_MoveFraction_sh) (l := i_MoveFraction_fo) (tree := i_MoveFraction_t) fnat_i_MoveFraction (by kernel_rfl) (by kernel_rfl) (by kernel_rfl) (loopsOK_of (ls := []) (by kernel_rfl) trivial) (fun v => by kernel_rfl)

theorem mv_bounds {m : M4} {f : Int × Int} (hg : good4 m = true) (hf : fracB f = true) : (w64 (w64 (m.1 * f.1) + w64 (m.2.1 * f.2)) = m.1 * f.1 + m.2.1 * f.2 ∧ w64 (w64 (m.2.2.1 * f.1) + w64 (m.2.2.2 * f.2)) = m.2.2.1 * f.1 + m.2.2.2 * f.2) ∧
    (-2000000000000000 ≤ m.1 * f.1 + m.2.1 * f.2 ∧ m.1 * f.1 + m.2.1 * f.2 ≤ 2000000000000000) ∧ -2000000000000000 ≤ m.2.2.1 * f.1 + m.2.2.2 * f.2 ∧ m.2.2.1 * f.1 + m.2.2.2 * f.2 ≤ 2000000000000000 := by
  obtain ⟨a, b, c, d⟩ := m
  obtain ⟨p, q⟩ := f
  rw [good4_iff] at hg
  have hf := fracB_iff.1 hf
  simp only at hf ⊢
  obtain ⟨⟨p0, p1⟩, ⟨q0, q1⟩, _⟩ := hf
  have k : ∀ x y : Int, -1000000000 ≤ x → x ≤ 1000000000 → 0 ≤ y → y ≤ 1000000 → -1000000000000000 ≤ x * y ∧ x * y ≤ 1000000000000000 := fun x y h1 h2 h3 h4 => by
    have e1 := Int.mul_le_mul_of_nonneg_right h2 h3
    have e2 := Int.mul_le_mul_of_nonneg_right h1 h3
    omega
  have k1 := k a p (by omega) (by omega) p0 p1
  have k2 := k b q (by omega) (by omega) q0 q1
  have k3 := k c p (by omega) (by omega) p0 p1
  have k4 := k d q (by omega) (by omega) q0 q1
  rw [w64_id (z := a * p) (by omega) (by omega), w64_id (z := b * q) (by omega) (by omega), w64_id (z := c * p) (by omega) (by omega), w64_id (z := d * q) (by omega) (by omega), w64_id (by omega) (by omega), w64_id (by omega) (by omega)]
  exact ⟨⟨rfl, rfl⟩, by omega, by omega⟩
theorem lim_i (x y : Int) : (T.test (decide ((if y > (if 0 - x > x then 0 - x else x) then y else (if 0 - x > x then 0 - x else x)) > 1000000000000000)) (.ret ((0 : Int), ((0 : Int), false))) (.ret (x, (y, true)))).run = some (lim (x, y)) := by
  have h : ((if y > (if 0 - x > x then 0 - x else x) then y else (if 0 - x > x then 0 - x else x)) > 1000000000000000) ↔ ¬ ((-1000000000000000 ≤ x ∧ x ≤ 1000000000000000) ∧ y ≤ 1000000000000000) := by
    split <;> split <;> omega
  unfold lim
  rw [T.run_test]
  by_cases c : (-1000000000000000 ≤ x ∧ x ≤ 1000000000000000) ∧ y ≤ 1000000000000000
  · rw [if_neg (by rw [decide_eq_true_eq, h]; exact fun f => f c), if_pos c, T.run_ret]
  · rw [if_pos (by rw [decide_eq_true_eq, h]; exact c), if_neg c, T.run_ret]
theorem nrm_neg {x y : Int} (h : y < 0 ∨ y = 0 ∧ x < 0) : nrm x y = (-x, -y) := by unfold nrm; rw [if_pos h]
theorem nrm_pos {x y : Int} (h : ¬ (y < 0 ∨ y = 0 ∧ x < 0)) : nrm x y = (x, y) := by unfold nrm; rw [if_neg h]
theorem i_MoveFraction_eq (m : M4) (f : Int × Int) : i_MoveFraction (m, f) = some (mvR m f) := by
  obtain ⟨a, b, c, d⟩ := m
  obtain ⟨p, q⟩ := f
  rw [i_MoveFraction, i_MoveFraction_t, T.run_sub, show i_IsMatrix (a, (b, (c, d))) = _ from i_IsMatrix_eq (a, b, c, d), Option.bind_some, T.run_test]
  unfold mvR
  cases hg : good4 (a, b, c, d) with
  | false => rfl
  | true =>
    rw [if_neg (by simp), T.run_sub, i_IsFraction_eq, Option.bind_some, T.run_test]
    cases hf : fracB (p, q) with
    | false => rfl
    | true =>
      obtain ⟨⟨w1, w2⟩, ⟨b1, b2⟩, b3, b4⟩ := mv_bounds hg hf
      simp only at w1 w2 b1 b2 b3 b4
      rw [w1, w2]
      simp only [Bool.and_self, if_true]
      generalize a * p + b * q = x at *
      generalize c * p + d * q = y at *
      have sx := i_size_eq x (by omega)
      have snx := i_size_eq (-x) (by omega)
      have wx : w64 (0 - x) = -x := by rw [w64_id (by omega) (by omega)]; omega
      have wy : w64 (0 - y) = -y := by rw [w64_id (by omega) (by omega)]; omega
      have l1 := lim_i x y
      have l2 := lim_i (-x) (-y)
      rw [wx, wy, if_neg (by simp), T.run_test]
      by_cases h1 : y < 0
      · rw [if_pos (decide_eq_true h1), T.run_sub, snx, Option.bind_some, nrm_neg (Or.inl h1)]
        exact l2
      · rw [if_neg (by rw [decide_eq_true_eq]; exact h1), T.run_test]
        by_cases h2 : y = 0
        · rw [if_pos (by rw [h2]; rfl), T.run_test]
          by_cases h3 : x < 0
          · rw [if_pos (decide_eq_true h3), T.run_sub, snx, Option.bind_some, nrm_neg (Or.inr ⟨h2, h3⟩)]
            exact l2
          · rw [if_neg (by rw [decide_eq_true_eq]; exact h3), T.run_sub, sx, Option.bind_some, nrm_pos (by omega)]
            exact l1
        · rw [if_neg (by rw [beq_iff_eq]; exact h2), T.run_sub, sx, Option.bind_some, nrm_pos (by omega)]
          exact l1


def s_nbGood_sh : FSh := ⟨[(.ag [(.si .i64), (.si .i64)])], []⟩

def s_nbGood_L4_sh : LSh := ⟨(fun ex => match ex with | .norm => [(3, none), (4, none)] | .exit i => if i = 0 then [(3, none)] else [] | .ret => [(2, none)]), [(3, (.one (.si .i64))), (4, (.one (.si .i64)))], [], [⟨(.exit 0), [(3, (.one (.si .i64)))], []⟩], [], []⟩
noncomputable def s_nbGood_L4_step : (Int × Int) → T ((Int × Int) ⊕ Int) := fun (a, b) =>
  (.test (decide (b > 0))
  (.test (decide (b ≠ 0))
   (.ret (Sum.inl (b, (Int.tmod a b))))
   .fail)
  (.ret (Sum.inr a)))
noncomputable def s_nbGood_L4 (v : (Int × Int)) : Option Int := loopO (fun v => (s_nbGood_L4_step v).run) v

def s_nbGood_fo : List FO := [⟨[(.one .sb)], []⟩]
noncomputable def s_nbGood_t : (Int × Int) → T Bool := fun (f_0, f_1) =>
  (.sub (s_l1In (f_0, ((0 : Int), (1000000 : Int)))) fun z0 =>
  (.test (! z0)
  (.ret false)
  (.sub (s_l1In (f_1, ((0 : Int), (1000000 : Int)))) fun z1 =>
   (.test (! z1)
   (.ret false)
   (.sub (s_nbGood_L4 (f_0, f_1)) fun z2 =>
    (.ret (z2 == 1)))))))
noncomputable def s_nbGood (v : (Int × Int)) : Option Bool := (s_nbGood_t v).run
noncomputable def s_nbGood_E : TEnv := (E0.add1 n_s_l1In s_l1In_sh s_l1In_fo s_l1In)
theorem s_nbGood_Eok : (s_nbGood_E).OK := (E0ok.add1 s_l1In_ok)
noncomputable def s_nbGood_told : Nat → Option SealT := fun id => if id = 4 then some (LSh.told s_nbGood_L4_sh 0 (s_nbGood_L4_step)) else none
theorem s_nbGood_L4_ok : ToldOK Tryd.prog 0 (loopAt (bodyOf fn_s_nbGood) [0]) (LSh.told s_nbGood_L4_sh 0 (s_nbGood_L4_step)) :=
  loop_ok (E := s_nbGood_E) (s_nbGood_Eok) (told := s_nbGood_told) (l := s_nbGood_L4_sh) (step := s_nbGood_L4_step) (loopsOK_of (ls := []) (by kernel_rfl) trivial) (by kernel_rfl) (fun v => by kernel_rfl)
theorem s_nbGood_ok : FOK Tryd.prog n_s_nbGood s_nbGood_sh s_nbGood_fo s_nbGood :=
  fn_ok (E := s_nbGood_E) (s_nbGood_Eok) (told := s_nbGood_told) (fl := []) (c := bodyOf fn_s_nbGood) (s := s_nbGood_sh) (l := s_nbGood_fo) (tree := s_nbGood_t) fnat_s_nbGood (by kernel_rfl) (by kernel_rfl) (by kernel_rfl) (loopsOK_of (ls := [loopAt (bodyOf fn_s_nbGood) [0]]) (by kernel_rfl) ⟨.inr ⟨_, by kernel_rfl, s_nbGood_L4_ok⟩, trivial⟩) (fun v => by kernel_rfl)

theorem s_nbGood_L4_eq (a b : Int) (ha : 0 ≤ a) (hb : 0 ≤ b) : s_nbGood_L4 (a, b) = some ((Nat.gcd a.toNat b.toNat : Nat) : Int) := by
  have h := loop_eq (step := fun v => (s_nbGood_L4_step v).run) (fun v => v.2.toNat) (fun v => 0 ≤ v.1 ∧ 0 ≤ v.2) (fun v => ((Nat.gcd v.1.toNat v.2.toNat : Nat) : Int))
    (by
      rintro ⟨a, b⟩ ⟨ha, hb⟩
      simp only at ha hb
      by_cases h0 : b = 0
      · right
        subst h0
        have : ((a.toNat : Nat) : Int) = a := Int.toNat_of_nonneg ha
        simp [s_nbGood_L4_step, T.run, this]
      · left
        obtain ⟨g1, g2, g3⟩ := gcd_toNat_step ha (show 0 < b by omega)
        refine ⟨(b, Int.tmod a b), ?_, ⟨hb, g2⟩, ?_, ?_⟩
        · simp [s_nbGood_L4_step, T.run, h0, show 0 < b by omega]
        · simp only; omega
        · simp only [g1]) (a, b) ⟨ha, hb⟩
  simp only [s_nbGood_L4]
  exact h
theorem s_nbGood_eq (f : Int × Int) : s_nbGood f = some (fracB f) := by
  obtain ⟨p, q⟩ := f
  rw [s_nbGood, s_nbGood_t, T.run_sub, s_l1In_eq, Option.bind_some, T.run_test]
  unfold fracB
  cases h1 : inB 0 1000000 p with
  | false => rfl
  | true =>
    rw [if_neg (by simp), T.run_sub, s_l1In_eq, Option.bind_some, T.run_test]
    simp only
    cases h2 : inB 0 1000000 q with
    | false => rfl
    | true =>
      rw [inB_iff] at h1 h2
      rw [if_neg (by simp), T.run_sub, s_nbGood_L4_eq p q (by omega) (by omega), Option.bind_some, T.run_ret, Bool.true_and, Bool.true_and]
      congr 1
      rw [Bool.eq_iff_iff, beq_iff_eq, decide_eq_true_eq]
      omega


def s_l1Most_sh : FSh := ⟨[(.one (.si .i64)), (.one (.si .i64))], []⟩

def s_l1Most_fo : List FO := [⟨[(.one (.si .i64))], []⟩]
noncomputable def s_l1Most_t : (Int × Int) → T Int := fun (a, b) =>
  (.test (decide (a > b))
  (.ret a)
  (.ret b))
noncomputable def s_l1Most (v : (Int × Int)) : Option Int := (s_l1Most_t v).run
noncomputable def s_l1Most_E : TEnv := E0
theorem s_l1Most_Eok : (s_l1Most_E).OK := E0ok
noncomputable def s_l1Most_told : Nat → Option SealT := fun id => none
theorem s_l1Most_ok : FOK Tryd.prog n_s_l1Most s_l1Most_sh s_l1Most_fo s_l1Most :=
  fn_ok (E := s_l1Most_E) (s_l1Most_Eok) (told := s_l1Most_told) (fl := []) (c := bodyOf fn_s_l1Most) (s := s_l1Most_sh) (l := s_l1Most_fo) (tree := s_l1Most_t) fnat_s_l1Most (by kernel_rfl) (by kernel_rfl) (by kernel_rfl) (loopsOK_of (ls := []) (by kernel_rfl) trivial) (fun v => by kernel_rfl)

def s_l1Abs_sh : FSh := ⟨[(.one (.si .i64))], []⟩

def s_l1Abs_fo : List FO := [⟨[(.one (.si .i64))], []⟩]
noncomputable def s_l1Abs_t : Int → T Int := fun n =>
  (.sub (s_l1Most (n, (w64 (0 - n)))) fun z0 =>
  (.ret z0))
noncomputable def s_l1Abs (v : Int) : Option Int := (s_l1Abs_t v).run
noncomputable def s_l1Abs_E : TEnv := (E0.add1 n_s_l1Most s_l1Most_sh s_l1Most_fo s_l1Most)
theorem s_l1Abs_Eok : (s_l1Abs_E).OK := (E0ok.add1 s_l1Most_ok)
noncomputable def s_l1Abs_told : Nat → Option SealT := fun id => none
theorem s_l1Abs_ok : FOK Tryd.prog n_s_l1Abs s_l1Abs_sh s_l1Abs_fo s_l1Abs :=
  fn_ok (E := s_l1Abs_E) (s_l1Abs_Eok) (told := s_l1Abs_told) (fl := []) (c := bodyOf fn_s_l1Abs) (s := s_l1Abs_sh) (l := s_l1Abs_fo) (tree := s_l1Abs_t) fnat_s_l1Abs (by kernel_rfl) (by kernel_rfl) (by kernel_rfl) (loopsOK_of (ls := []) (by kernel_rfl) trivial) (fun v => by kernel_rfl)

theorem s_l1Abs_val (x : Int) (h : -9000000000000000000 ≤ x ∧ x ≤ 9000000000000000000) : s_l1Abs x = some (if x > -x then x else -x) := by
  have w : w64 (0 - x) = -x := by rw [w64_id (by omega) (by omega)]; omega
  rw [s_l1Abs, s_l1Abs_t, T.run_sub, w, s_l1Most, s_l1Most_t, T.run_test]
  by_cases h : x > -x
  · rw [if_pos (decide_eq_true h), T.run_ret, Option.bind_some, T.run_ret, if_pos h]
  · rw [if_neg (by rw [decide_eq_true_eq]; exact h), T.run_ret, Option.bind_some, T.run_ret, if_neg h]
theorem lim_s (x y : Int) : (T.test (decide ((if x > -x then x else -x) > 1000000000000000)) (.ret ((0 : Int), ((0 : Int), false))) (.test (decide (y > 1000000000000000)) (.ret ((0 : Int), ((0 : Int), false))) (.ret (x, (y, true))))).run = some (lim (x, y)) := by
  have h : ((if x > -x then x else -x) > 1000000000000000) ↔ ¬ (-1000000000000000 ≤ x ∧ x ≤ 1000000000000000) := by
    split <;> omega
  unfold lim
  rw [T.run_test]
  by_cases c : -1000000000000000 ≤ x ∧ x ≤ 1000000000000000
  · rw [if_neg (by rw [decide_eq_true_eq, h]; exact fun f => f c), T.run_test]
    by_cases e : y ≤ 1000000000000000
    · rw [if_neg (by rw [decide_eq_true_eq]; omega), if_pos ⟨c, e⟩, T.run_ret]
    · rw [if_pos (by rw [decide_eq_true_eq]; omega), if_neg (fun f => e f.2), T.run_ret]
  · rw [if_pos (by rw [decide_eq_true_eq, h]; exact c), if_neg (fun f => c f.1), T.run_ret]


def s_MoveFraction_sh : FSh := ⟨[(.ag [(.si .i64), (.si .i64), (.si .i64), (.si .i64)]), (.ag [(.si .i64), (.si .i64)])], []⟩

def s_MoveFraction_fo : List FO := [⟨[(.one (.si .i64)), (.one (.si .i64)), (.one .sb)], []⟩]
noncomputable def s_MoveFraction_t : ((Int × Int × Int × Int) × (Int × Int)) → T (Int × Int × Bool) := fun ((m_0, m_1, m_2, m_3), (f_0, f_1)) =>
  (.sub (s_mxGood (m_0, (m_1, (m_2, m_3)))) fun z0 =>
  (.test (! z0)
  (.ret ((0 : Int), ((0 : Int), false)))
  (.sub (s_nbGood (f_0, f_1)) fun z1 =>
   (.test (! z1)
   (.ret ((0 : Int), ((0 : Int), false)))
   (.test (decide ((w64 ((w64 (m_2 * f_0)) + (w64 (m_3 * f_1)))) < 0))
    (.sub (s_l1Abs (w64 (0 - (w64 ((w64 (m_0 * f_0)) + (w64 (m_1 * f_1))))))) fun z2 =>
     (.test (decide (z2 > 1000000000000000))
     (.ret ((0 : Int), ((0 : Int), false)))
     (.test (decide ((w64 (0 - (w64 ((w64 (m_2 * f_0)) + (w64 (m_3 * f_1)))))) > 1000000000000000))
      (.ret ((0 : Int), ((0 : Int), false)))
      (.ret ((w64 (0 - (w64 ((w64 (m_0 * f_0)) + (w64 (m_1 * f_1)))))), ((w64 (0 - (w64 ((w64 (m_2 * f_0)) + (w64 (m_3 * f_1)))))), true))))))
    (.test ((w64 ((w64 (m_2 * f_0)) + (w64 (m_3 * f_1)))) == 0)
     (.test (decide ((w64 ((w64 (m_0 * f_0)) + (w64 (m_1 * f_1)))) < 0))
      (.sub (s_l1Abs (w64 (0 - (w64 ((w64 (m_0 * f_0)) + (w64 (m_1 * f_1))))))) fun z3 =>
       (.test (decide (z3 > 1000000000000000))
       (.ret ((0 : Int), ((0 : Int), false)))
       (.test (decide ((w64 (0 - (w64 ((w64 (m_2 * f_0)) + (w64 (m_3 * f_1)))))) > 1000000000000000))
        (.ret ((0 : Int), ((0 : Int), false)))
        (.ret ((w64 (0 - (w64 ((w64 (m_0 * f_0)) + (w64 (m_1 * f_1)))))), ((w64 (0 - (w64 ((w64 (m_2 * f_0)) + (w64 (m_3 * f_1)))))), true))))))
      (.sub (s_l1Abs (w64 ((w64 (m_0 * f_0)) + (w64 (m_1 * f_1))))) fun z4 =>
       (.test (decide (z4 > 1000000000000000))
       (.ret ((0 : Int), ((0 : Int), false)))
       (.test (decide ((w64 ((w64 (m_2 * f_0)) + (w64 (m_3 * f_1)))) > 1000000000000000))
        (.ret ((0 : Int), ((0 : Int), false)))
        (.ret ((w64 ((w64 (m_0 * f_0)) + (w64 (m_1 * f_1)))), ((w64 ((w64 (m_2 * f_0)) + (w64 (m_3 * f_1)))), true)))))))
     (.sub (s_l1Abs (w64 ((w64 (m_0 * f_0)) + (w64 (m_1 * f_1))))) fun z5 =>
      (.test (decide (z5 > 1000000000000000))
      (.ret ((0 : Int), ((0 : Int), false)))
      (.test (decide ((w64 ((w64 (m_2 * f_0)) + (w64 (m_3 * f_1)))) > 1000000000000000))
       (.ret ((0 : Int), ((0 : Int), false)))
       (.ret ((w64 ((w64 (m_0 * f_0)) + (w64 (m_1 * f_1)))), ((w64 ((w64 (m_2 * f_0)) + (w64 (m_3 * f_1)))), true))))))))))))
noncomputable def s_MoveFraction (v : ((Int × Int × Int × Int) × (Int × Int))) : Option (Int × Int × Bool) := (s_MoveFraction_t v).run
noncomputable def s_MoveFraction_E : TEnv := (((E0.add1 n_s_mxGood s_mxGood_sh s_mxGood_fo s_mxGood).add1 n_s_nbGood s_nbGood_sh s_nbGood_fo s_nbGood).add1 n_s_l1Abs s_l1Abs_sh s_l1Abs_fo s_l1Abs)
theorem s_MoveFraction_Eok : (s_MoveFraction_E).OK := (((E0ok.add1 s_mxGood_ok).add1 s_nbGood_ok).add1 s_l1Abs_ok)
noncomputable def s_MoveFraction_told : Nat → Option SealT := fun id => none
theorem s_MoveFraction_ok : FOK Tryd.prog n_s_MoveFraction s_MoveFraction_sh s_MoveFraction_fo s_MoveFraction :=
  fn_ok (E := s_MoveFraction_E) (s_MoveFraction_Eok) (told := s_MoveFraction_told) (fl := []) (c := bodyOf fn_s_MoveFraction) (s := s_MoveFraction_sh) (l := s_MoveFraction_fo) (tree := s_MoveFraction_t) fnat_s_MoveFraction (by kernel_rfl) (by kernel_rfl) (by kernel_rfl) (loopsOK_of (ls := []) (by kernel_rfl) trivial) (fun v => by kernel_rfl)

theorem s_MoveFraction_eq (m : M4) (f : Int × Int) : s_MoveFraction (m, f) = some (mvR m f) := by
  obtain ⟨a, b, c, d⟩ := m
  obtain ⟨p, q⟩ := f
  rw [s_MoveFraction, s_MoveFraction_t, T.run_sub, show s_mxGood (a, (b, (c, d))) = _ from s_mxGood_eq (a, b, c, d), Option.bind_some, T.run_test]
  unfold mvR
  cases hg : good4 (a, b, c, d) with
  | false => rfl
  | true =>
    rw [if_neg (by simp), T.run_sub, s_nbGood_eq, Option.bind_some, T.run_test]
    cases hf : fracB (p, q) with
    | false => rfl
    | true =>
      obtain ⟨⟨w1, w2⟩, ⟨b1, b2⟩, b3, b4⟩ := mv_bounds hg hf
      simp only at w1 w2 b1 b2 b3 b4
      rw [w1, w2]
      simp only [Bool.and_self, if_true]
      generalize a * p + b * q = x at *
      generalize c * p + d * q = y at *
      have sx := s_l1Abs_val x (by omega)
      have snx := s_l1Abs_val (-x) (by omega)
      have wx : w64 (0 - x) = -x := by rw [w64_id (by omega) (by omega)]; omega
      have wy : w64 (0 - y) = -y := by rw [w64_id (by omega) (by omega)]; omega
      have l1 := lim_s x y
      have l2 := lim_s (-x) (-y)
      rw [wx, wy, if_neg (by simp), T.run_test]
      by_cases h1 : y < 0
      · rw [if_pos (decide_eq_true h1), T.run_sub, snx, Option.bind_some, nrm_neg (Or.inl h1)]
        exact l2
      · rw [if_neg (by rw [decide_eq_true_eq]; exact h1), T.run_test]
        by_cases h2 : y = 0
        · rw [if_pos (by rw [h2]; rfl), T.run_test]
          by_cases h3 : x < 0
          · rw [if_pos (decide_eq_true h3), T.run_sub, snx, Option.bind_some, nrm_neg (Or.inr ⟨h2, h3⟩)]
            exact l2
          · rw [if_neg (by rw [decide_eq_true_eq]; exact h3), T.run_sub, sx, Option.bind_some, nrm_pos (by omega)]
            exact l1
        · rw [if_neg (by rw [beq_iff_eq]; exact h2), T.run_sub, sx, Option.bind_some, nrm_pos (by omega)]
          exact l1


def i_inverse_sh : FSh := ⟨[(.ag [(.si .i64), (.si .i64), (.si .i64), (.si .i64)])], []⟩

def i_inverse_fo : List FO := [⟨[(.ag [(.si .i64), (.si .i64), (.si .i64), (.si .i64)])], []⟩]
noncomputable def i_inverse_t : (Int × Int × Int × Int) → T (Int × Int × Int × Int) := fun (m_0, m_1, m_2, m_3) =>
  (.ret (m_3, ((w64 (0 - m_1)), ((w64 (0 - m_2)), m_0))))
noncomputable def i_inverse (v : (Int × Int × Int × Int)) : Option (Int × Int × Int × Int) := (i_inverse_t v).run
noncomputable def i_inverse_E : TEnv := E0
theorem i_inverse_Eok : (i_inverse_E).OK := E0ok
noncomputable def i_inverse_told : Nat → Option SealT := fun id => none
theorem i_inverse_ok : FOK Tryd.prog n_i_inverse i_inverse_sh i_inverse_fo i_inverse :=
  fn_ok (E := i_inverse_E) (i_inverse_Eok) (told := i_inverse_told) (fl := []) (c := bodyOf fn_i_inverse) (s := i_inverse_sh) (l := i_inverse_fo) (tree := i_inverse_t) fnat_i_inverse (by kernel_rfl) (by kernel_rfl) (by kernel_rfl) (loopsOK_of (ls := []) (by kernel_rfl) trivial) (fun v => by kernel_rfl)

def i_InverseMatrix_sh : FSh := ⟨[(.ag [(.si .i64), (.si .i64), (.si .i64), (.si .i64)])], []⟩

def i_InverseMatrix_fo : List FO := [⟨[(.ag [(.si .i64), (.si .i64), (.si .i64), (.si .i64)]), (.one .sb)], []⟩]
noncomputable def i_InverseMatrix_t : (Int × Int × Int × Int) → T ((Int × Int × Int × Int) × Bool) := fun (m_0, m_1, m_2, m_3) =>
  (.sub (i_IsMatrix (m_0, (m_1, (m_2, m_3)))) fun z0 =>
  (.test (! z0)
  (.ret (((0 : Int), ((0 : Int), ((0 : Int), (0 : Int)))), false))
  (.sub (i_inverse (m_0, (m_1, (m_2, m_3)))) fun z1 =>
   (.ret ((z1.1, (z1.2.1, (z1.2.2.1, z1.2.2.2))), true)))))
noncomputable def i_InverseMatrix (v : (Int × Int × Int × Int)) : Option ((Int × Int × Int × Int) × Bool) := (i_InverseMatrix_t v).run
noncomputable def i_InverseMatrix_E : TEnv := ((E0.add1 n_i_IsMatrix i_IsMatrix_sh i_IsMatrix_fo i_IsMatrix).add1 n_i_inverse i_inverse_sh i_inverse_fo i_inverse)
theorem i_InverseMatrix_Eok : (i_InverseMatrix_E).OK := ((E0ok.add1 i_IsMatrix_ok).add1 i_inverse_ok)
noncomputable def i_InverseMatrix_told : Nat → Option SealT := fun id => none
theorem i_InverseMatrix_ok : FOK Tryd.prog n_i_InverseMatrix i_InverseMatrix_sh i_InverseMatrix_fo i_InverseMatrix :=
  fn_ok (E := i_InverseMatrix_E) (i_InverseMatrix_Eok) (told := i_InverseMatrix_told) (fl := []) (c := bodyOf fn_i_InverseMatrix) (s := i_InverseMatrix_sh) (l := i_InverseMatrix_fo) (tree := i_InverseMatrix_t) fnat_i_InverseMatrix (by kernel_rfl) (by kernel_rfl) (by kernel_rfl) (loopsOK_of (ls := []) (by kernel_rfl) trivial) (fun v => by kernel_rfl)

theorem i_InverseMatrix_eq (m : M4) : i_InverseMatrix m = some (if good4 m then (invM m, true) else ((0, 0, 0, 0), false)) := by
  obtain ⟨a, b, c, d⟩ := m
  have e1 := i_IsMatrix_eq (a, b, c, d)
  rw [i_InverseMatrix, i_InverseMatrix_t, T.run_sub, e1, Option.bind_some, T.run_test]
  cases h1 : good4 (a, b, c, d) with
  | false => rfl
  | true =>
    have hi : i_inverse (a, b, c, d) = some (invM (a, b, c, d)) := by
      rw [good4_iff] at h1
      rw [i_inverse, i_inverse_t, T.run_ret, w64_id (z := 0 - b) (by omega) (by omega), w64_id (z := 0 - c) (by omega) (by omega), Int.zero_sub, Int.zero_sub]
      rfl
    rw [if_neg (by simp), T.run_sub, hi, Option.bind_some, T.run_ret]
    rfl


end Go.Proofs.W
