/- Functions of the program, walked, and what they compute. -/
import Derived.Test.YtigenooglogcfaaHoWk3
set_option linter.unusedVariables false
set_option linter.unusedSimpArgs false
set_option maxRecDepth 100000
set_option maxHeartbeats 4000000
namespace Go.Proofs.W
open Go Go.Gm Go.Proofs
open Go.RowKit Go.Shelf
def i_Puzzle_solutions_sh : FSh := ⟨[(.ag [(.sl (.int .i64) false false)])], []⟩

def i_Puzzle_solutions_fo : List FO := [⟨[(.one (.rw 0 0))], [(.row 0 (.list true (.int .i64)))]⟩]
noncomputable def i_Puzzle_solutions_t : List (Int) → T (Unit × List (List (Int))) := fun p_0 =>
  (.sub (i_allQuiddities ((List.length p_0) : Int)) fun z0 =>
  (.test (decide ((0 = 0) ∧ ((List.length z0.2) = (List.length z0.2))))
  (.sub (slices_DeleteFunc_Lint__i_Puzzle_solutions_1 (((), p_0), z0.2)) fun z1 =>
   (.test (decide ((0 = 0) ∧ ((List.length z1.2) = (List.length z1.2))))
   (.ret ((), z1.2))
   .fail))
  .fail))
noncomputable def i_Puzzle_solutions (v : List (Int)) : Option (Unit × List (List (Int))) := (i_Puzzle_solutions_t v).run
noncomputable def i_Puzzle_solutions_E : TEnv := ((E0.add1 n_i_allQuiddities i_allQuiddities_sh i_allQuiddities_fo i_allQuiddities).add1 n_slices_DeleteFunc_Lint slices_DeleteFunc_Lint__i_Puzzle_solutions_1_sh slices_DeleteFunc_Lint__i_Puzzle_solutions_1_fo slices_DeleteFunc_Lint__i_Puzzle_solutions_1)
theorem i_Puzzle_solutions_Eok : (i_Puzzle_solutions_E).OK := ((E0ok.add1 i_allQuiddities_ok).add1 slices_DeleteFunc_Lint__i_Puzzle_solutions_1_ok)
noncomputable def i_Puzzle_solutions_told : Nat → Option SealT := fun id => none
theorem i_Puzzle_solutions_ok : FOK Try.prog n_i_Puzzle_solutions i_Puzzle_solutions_sh i_Puzzle_solutions_fo i_Puzzle_solutions :=
  fn_ok (E := i_Puzzle_solutions_E) (i_Puzzle_solutions_Eok) (told := i_Puzzle_solutions_told) (fl := []) (c := bodyOf fn_i_Puzzle_solutions) (s := i_Puzzle_solutions_sh) (l := i_Puzzle_solutions_fo) (tree := i_Puzzle_solutions_t) fnat_i_Puzzle_solutions (by kernel_rfl) (by kernel_rfl) (by kernel_rfl) (loopsOK_of (ls := []) (by kernel_rfl) trivial) (fun v => by kernel_rfl)

theorem i_Puzzle_solutions_eq (p : List Int) (hp : isPz p = true) : i_Puzzle_solutions p = some ((), solL p) := by
  have hpl := isPz_len hp
  have hq := allQ_len p.length hpl.2
  have hd := slices_DeleteFunc_Lint__i_Puzzle_solutions_1_eq (allQ p.length) p (by omega) (by omega)
  have hsl : (allQ p.length).filter (fits p) = solL p := rfl
  rw [hsl] at hd
  rw [i_Puzzle_solutions, i_Puzzle_solutions_t, T.run_sub, i_allQuiddities_eq p.length hpl, Option.bind_some, T.run_test, if_pos (by simp), T.run_sub, hd, Option.bind_some, T.run_test, if_pos (by simp), T.run_ret]


def slices_Clone_Lint_sh : FSh := ⟨[.one (.sl (.list true (.int .i64)) false false)], []⟩
def slices_Clone_Lint_fo : List FO := [⟨[.one (.rw 0 0)], [.row 0 (.list true (.int .i64))]⟩]
def slices_Clone_Lint (v : List (List Int)) : Option (Unit × List (List Int)) := if v.length ≤ maxLen ∧ v.length * 24 ≤ 140737488355328 then some ((), v) else none
def slices_Clone_Lint_ren : Shelf.Ren := ⟨fun _ => n_slices_Clone_Lint, fun t => if t = 4 then 4 else if t = 22 then 49 else 22, fun x => x⟩
theorem slices_Clone_Lint_lay : SlLaysE0.n41 Try.prog slices_Clone_Lint_ren :=
  { mixed := by kernel_rfl, f41 := ⟨"slices.Clone[[][]int,[]int]", by kernel_rfl, by kernel_rfl⟩, t4 := by kernel_rfl, a4 := fun w => by kernel_rfl, z4 := fun w => by kernel_rfl, v4 := fun w => by kernel_rfl, t22 := by kernel_rfl, a22 := fun w => by kernel_rfl, z22 := fun w => by kernel_rfl, v22 := fun w => by kernel_rfl }
noncomputable def slices_Clone_Lint_info : TypeInfo := (Try.prog.info? 22).get (by kernel_rfl)
theorem slices_Clone_Lint_ok : FOK Try.prog n_slices_Clone_Lint slices_Clone_Lint_sh slices_Clone_Lint_fo slices_Clone_Lint :=
  clone_ok (e := (.list true (.int .i64))) ⟨_, fnat_slices_Clone_Lint, by kernel_rfl, by kernel_rfl⟩ (ρr := slices_Clone_Lint_ren) rfl slices_Clone_Lint_lay rfl slices_Clone_Lint_info (.slice none 0 0) 24 (by kernel_rfl) (by kernel_rfl) (by kernel_rfl) (by kernel_rfl) (by decide) (by decide) (fun w => by kernel_rfl)

def i_Solutions_sh : FSh := ⟨[(.ag [(.sl (.int .i64) false false)])], []⟩

def i_Solutions_fo : List FO := [⟨[(.one (.rw 0 0)), (.one .sb)], [(.row 0 (.list true (.int .i64)))]⟩]
noncomputable def i_Solutions_t : List (Int) → T ((Unit × Bool) × List (List (Int))) := fun p_0 =>
  (.sub (i_IsPuzzle p_0) fun z0 =>
  (.test (! z0)
  (.test true
   (.ret (((), false), ([] : List (List Int))))
   .fail)
  (.sub (i_Puzzle_solutions p_0) fun z1 =>
   (.test (decide (((List.length z1.2) : Int) > 300))
   (.test true
    (.ret (((), false), ([] : List (List Int))))
    .fail)
   (.test (decide ((0 + (List.length z1.2)) ≤ (List.length z1.2)))
    (.sub (slices_Clone_Lint (win z1.2 0 (List.length z1.2))) fun z2 =>
     (.test (decide ((0 = 0) ∧ ((List.length z2.2) = (List.length z2.2))))
     (.ret (((), true), z2.2))
     .fail))
    .fail)))))
noncomputable def i_Solutions (v : List (Int)) : Option ((Unit × Bool) × List (List (Int))) := (i_Solutions_t v).run
noncomputable def i_Solutions_E : TEnv := (((E0.add1 n_i_IsPuzzle i_IsPuzzle_sh i_IsPuzzle_fo i_IsPuzzle).add1 n_i_Puzzle_solutions i_Puzzle_solutions_sh i_Puzzle_solutions_fo i_Puzzle_solutions).add1 n_slices_Clone_Lint slices_Clone_Lint_sh slices_Clone_Lint_fo slices_Clone_Lint)
theorem i_Solutions_Eok : (i_Solutions_E).OK := (((E0ok.add1 i_IsPuzzle_ok).add1 i_Puzzle_solutions_ok).add1 slices_Clone_Lint_ok)
noncomputable def i_Solutions_told : Nat → Option SealT := fun id => none
theorem i_Solutions_ok : FOK Try.prog n_i_Solutions i_Solutions_sh i_Solutions_fo i_Solutions :=
  fn_ok (E := i_Solutions_E) (i_Solutions_Eok) (told := i_Solutions_told) (fl := []) (c := bodyOf fn_i_Solutions) (s := i_Solutions_sh) (l := i_Solutions_fo) (tree := i_Solutions_t) fnat_i_Solutions (by kernel_rfl) (by kernel_rfl) (by kernel_rfl) (loopsOK_of (ls := []) (by kernel_rfl) trivial) (fun v => by kernel_rfl)

theorem i_Solutions_eq (p : List Int) (hl : p.length < 4611686018427387904) : i_Solutions p = some (((), (solR p).1), (solR p).2) := by
  rw [i_Solutions, i_Solutions_t, T.run_sub, i_IsPuzzle_eq p hl, Option.bind_some, T.run_test]
  unfold solR
  cases hp : isPz p with
  | false => simp [T.run]
  | true =>
    have hpl := isPz_len hp
    have hq := allQ_len p.length hpl.2
    have hsol : i_Puzzle_solutions p = some ((), solL p) := by
      have hd := slices_DeleteFunc_Lint__i_Puzzle_solutions_1_eq (allQ p.length) p hl (by omega)
      have hsl : (allQ p.length).filter (fits p) = solL p := rfl
      rw [hsl] at hd
      rw [i_Puzzle_solutions, i_Puzzle_solutions_t, T.run_sub, i_allQuiddities_eq p.length hpl, Option.bind_some, T.run_test, if_pos (by simp), T.run_sub, hd, Option.bind_some, T.run_test, if_pos (by simp), T.run_ret]
    rw [if_neg (by simp), T.run_sub, hsol, Option.bind_some]
    have hle := solL_len p hpl.2
    generalize solL p = r at *
    have hc : slices_Clone_Lint r = some ((), r) := by
      unfold slices_Clone_Lint
      rw [if_pos]
      exact ⟨by unfold maxLen; omega, by omega⟩
    simp only [T.run_test, T.run_sub, T.run_ret, T.run_fail, Nat.zero_add, win_all]
    by_cases h3 : r.length ≤ 300
    · have c : ¬ ((r.length : Int) > 300) := by omega
      simp [c, h3, hc]
    · have c : (r.length : Int) > 300 := by omega
      simp [c, h3]


def i_someSolutions_sh : FSh := ⟨[(.ag [(.sl (.int .i64) false false)])], []⟩

def i_someSolutions_fo : List FO := [⟨[(.one (.rw 0 0)), (.one .sb)], [(.row 0 (.list true (.int .i64)))]⟩]
noncomputable def i_someSolutions_t : List (Int) → T ((Unit × Bool) × List (List (Int))) := fun p_0 =>
  (.sub (i_Solutions p_0) fun z0 =>
  (.test z0.1.2
  (.test (decide ((0 = 0) ∧ ((List.length z0.2) = (List.length z0.2))))
   (.ret (((), (decide (((List.length z0.2) : Int) > 0))), z0.2))
   .fail)
  (.test (decide ((0 = 0) ∧ ((List.length z0.2) = (List.length z0.2))))
   (.ret (((), false), z0.2))
   .fail)))
noncomputable def i_someSolutions (v : List (Int)) : Option ((Unit × Bool) × List (List (Int))) := (i_someSolutions_t v).run
noncomputable def i_someSolutions_E : TEnv := (E0.add1 n_i_Solutions i_Solutions_sh i_Solutions_fo i_Solutions)
theorem i_someSolutions_Eok : (i_someSolutions_E).OK := (E0ok.add1 i_Solutions_ok)
noncomputable def i_someSolutions_told : Nat → Option SealT := fun id => none
theorem i_someSolutions_ok : FOK Try.prog n_i_someSolutions i_someSolutions_sh i_someSolutions_fo i_someSolutions :=
  fn_ok (E := i_someSolutions_E) (i_someSolutions_Eok) (told := i_someSolutions_told) (fl := []) (c := bodyOf fn_i_someSolutions) (s := i_someSolutions_sh) (l := i_someSolutions_fo) (tree := i_someSolutions_t) fnat_i_someSolutions (by kernel_rfl) (by kernel_rfl) (by kernel_rfl) (loopsOK_of (ls := []) (by kernel_rfl) trivial) (fun v => by kernel_rfl)

def slices_Clone_int_sh : FSh := ⟨[.one (.sl (.int .i64) false false)], []⟩
def slices_Clone_int_fo : List FO := [⟨[.one (.rw 0 0)], [.row 0 (.int .i64)]⟩]
def slices_Clone_int (v : List Int) : Option (Unit × List Int) := if v.length ≤ maxLen ∧ v.length * 8 ≤ 140737488355328 then some ((), v) else none
def slices_Clone_int_ren : Shelf.Ren := ⟨fun _ => n_slices_Clone_int, fun t => if t = 4 then 4 else if t = 22 then 22 else 3, fun x => x⟩
theorem slices_Clone_int_lay : SlLaysE0.n41 Try.prog slices_Clone_int_ren :=
  { mixed := by kernel_rfl, f41 := ⟨"slices.Clone[[]int,int]", by kernel_rfl, by kernel_rfl⟩, t4 := by kernel_rfl, a4 := fun w => by kernel_rfl, z4 := fun w => by kernel_rfl, v4 := fun w => by kernel_rfl, t22 := by kernel_rfl, a22 := fun w => by kernel_rfl, z22 := fun w => by kernel_rfl, v22 := fun w => by kernel_rfl }
noncomputable def slices_Clone_int_info : TypeInfo := (Try.prog.info? 3).get (by kernel_rfl)
theorem slices_Clone_int_ok : FOK Try.prog n_slices_Clone_int slices_Clone_int_sh slices_Clone_int_fo slices_Clone_int :=
  clone_ok (e := .int .i64) ⟨_, fnat_slices_Clone_int, by kernel_rfl, by kernel_rfl⟩ (ρr := slices_Clone_int_ren) rfl slices_Clone_int_lay rfl slices_Clone_int_info (.int .i64 0) 8 (by kernel_rfl) (by kernel_rfl) (by kernel_rfl) (by kernel_rfl) (by decide) (by decide) (fun w => by kernel_rfl)

def i_SureNumbers_sh : FSh := ⟨[(.ag [(.sl (.int .i64) false false)])], []⟩

def i_SureNumbers_L9_sh : LSh := ⟨(fun ex => match ex with | .norm => [(6, none), (8, none), (21, none), (22, none), (23, none), (28, none), (29, none)] | .exit i => if i = 2 then [(6, none), (21, none), (22, none), (23, none)] else if i = 1 then [(6, none), (21, none), (22, none), (23, none)] else if i = 0 then [(6, none)] else [] | .ret => [(2, none), (3, none)]), [(6, (.one (.rw 0 0))), (8, (.one (.sl (.int .i64) false true))), (21, (.one (.rw 1 0))), (22, (.one (.si .i64))), (23, (.one (.si .i64))), (28, (.one (.si .i64))), (29, (.one (.si .i64)))], [(.row 0 (.int .i64)), (.row 0 (.list true (.int .i64)))], [⟨(.exit 2), [(6, (.one (.rw 0 0))), (21, (.one (.rw 1 0))), (22, (.one (.si .i64))), (23, (.one (.si .i64)))], [(.row 0 (.int .i64)), (.row 0 (.list true (.int .i64)))]⟩], [], []⟩
noncomputable def i_SureNumbers_L9_step : ((Unit × List (Int) × Unit × Int × Int × Int × Int) × (List (Int) × List (List (Int)))) → T (((Unit × List (Int) × Unit × Int × Int × Int × Int) × (List (Int) × List (List (Int)))) ⊕ ((Unit × Unit × Int × Int) × (List (Int) × List (List (Int))))) := fun (((), next, (), t22, t23, t28, t29), (out, t21)) =>
  (.test (decide (t29 < t28))
  (.test (decide ((0 ≤ t29) ∧ (t29 < ((List.length out) : Int))))
   (.sub (out[(0 + (Int.toNat t29))]?) fun z0 =>
    (.test (decide ((0 ≤ t29) ∧ (t29 < ((List.length next) : Int))))
    (.sub (next[(Int.toNat t29)]?) fun z1 =>
     (.test (z0 != z1)
     (.test (decide ((0 ≤ t29) ∧ (t29 < ((List.length out) : Int))))
      (.sub (out[(0 + (Int.toNat t29))]?) fun z2 =>
       (.test (decide ((0 = 0) ∧ ((List.length out) = (List.length (List.set out (0 + (Int.toNat t29)) (0 : Int))))))
       (.test (decide ((0 = 0) ∧ ((List.length t21) = (List.length t21))))
        (.ret (Sum.inl (((), (next, ((), (t22, (t23, (t28, (w64 (t29 + 1)))))))), ((List.set out (0 + (Int.toNat t29)) (0 : Int)), t21))))
        .fail)
       .fail))
      .fail)
     (.test (decide ((0 = 0) ∧ ((List.length out) = (List.length out))))
      (.test (decide ((0 = 0) ∧ ((List.length t21) = (List.length t21))))
       (.ret (Sum.inl (((), (next, ((), (t22, (t23, (t28, (w64 (t29 + 1)))))))), (out, t21))))
       .fail)
      .fail)))
    .fail))
   .fail)
  (.test (decide ((0 = 0) ∧ ((List.length out) = (List.length out))))
   (.test (decide ((0 = 0) ∧ ((List.length t21) = (List.length t21))))
    (.ret (Sum.inr (((), ((), (t22, t23))), (out, t21))))
    .fail)
   .fail))
noncomputable def i_SureNumbers_L9 (v : ((Unit × List (Int) × Unit × Int × Int × Int × Int) × (List (Int) × List (List (Int))))) : Option ((Unit × Unit × Int × Int) × (List (Int) × List (List (Int)))) := loopO (fun v => (i_SureNumbers_L9_step v).run) v

def i_SureNumbers_L6_sh : LSh := ⟨(fun ex => match ex with | .norm => [(6, none), (21, none), (22, none), (23, none)] | .exit i => if i = 0 then [(6, none)] else [] | .ret => [(2, none), (3, none)]), [(6, (.one (.rw 0 0))), (21, (.one (.rw 1 0))), (22, (.one (.si .i64))), (23, (.one (.si .i64)))], [(.row 0 (.int .i64)), (.row 0 (.list true (.int .i64)))], [⟨(.exit 0), [(6, (.one (.rw 0 0)))], [(.row 0 (.int .i64))]⟩], [], []⟩
noncomputable def i_SureNumbers_L6_step : ((Unit × Unit × Int × Int) × (List (Int) × List (List (Int)))) → T (((Unit × Unit × Int × Int) × (List (Int) × List (List (Int)))) ⊕ (Unit × List (Int))) := fun (((), (), t22, t23), (out, t21)) =>
  (.test (decide (t23 < t22))
  (.test (decide ((0 ≤ t23) ∧ (t23 < ((List.length t21) : Int))))
   (.sub (t21[(0 + (Int.toNat t23))]?) fun z0 =>
    (.test (decide ((0 = 0) ∧ ((List.length out) = (List.length out))))
    (.test (decide ((0 = 0) ∧ ((List.length t21) = (List.length t21))))
     (.sub (i_SureNumbers_L9 (((), (z0, ((), (t22, (t23, (((List.length out) : Int), (0 : Int))))))), (out, t21))) fun z1 =>
      (.test (decide ((0 = 0) ∧ ((List.length z1.2.1) = (List.length z1.2.1))))
      (.test (decide ((0 = 0) ∧ ((List.length z1.2.2) = (List.length z1.2.2))))
       (.ret (Sum.inl (((), ((), (z1.1.2.2.1, (w64 (z1.1.2.2.2 + 1))))), (z1.2.1, z1.2.2))))
       .fail)
      .fail))
     .fail)
    .fail))
   .fail)
  (.test (decide ((0 = 0) ∧ ((List.length out) = (List.length out))))
   (.ret (Sum.inr ((), out)))
   .fail))
noncomputable def i_SureNumbers_L6 (v : ((Unit × Unit × Int × Int) × (List (Int) × List (List (Int))))) : Option (Unit × List (Int)) := loopO (fun v => (i_SureNumbers_L6_step v).run) v

def i_SureNumbers_fo : List FO := [⟨[(.one (.rw 0 0)), (.one .sb)], [(.row 0 (.int .i64))]⟩]
noncomputable def i_SureNumbers_t : List (Int) → T ((Unit × Bool) × List (Int)) := fun p_0 =>
  (.sub (i_someSolutions p_0) fun z0 =>
  (.test (! z0.1.2)
  (.test true
   (.ret (((), false), ([] : List (Int))))
   .fail)
  (.test (decide (((0 : Int) ≤ (0 : Int)) ∧ (0 < ((List.length z0.2) : Int))))
   (.sub (z0.2[0]?) fun z1 =>
    (.sub (slices_Clone_int z1) fun z2 =>
    (.test (decide ((0 = 0) ∧ ((List.length z2.2) = (List.length z2.2))))
    (.test (decide ((0 = 0) ∧ ((List.length z0.2) = (List.length z0.2))))
     (.sub (i_SureNumbers_L6 (((), ((), (((List.length z0.2) : Int), (0 : Int)))), (z2.2, z0.2))) fun z3 =>
      (.test (decide ((0 = 0) ∧ ((List.length z3.2) = (List.length z3.2))))
      (.ret (((), true), z3.2))
      .fail))
     .fail)
    .fail)))
   .fail)))
noncomputable def i_SureNumbers (v : List (Int)) : Option ((Unit × Bool) × List (Int)) := (i_SureNumbers_t v).run
noncomputable def i_SureNumbers_E : TEnv := ((E0.add1 n_i_someSolutions i_someSolutions_sh i_someSolutions_fo i_someSolutions).add1 n_slices_Clone_int slices_Clone_int_sh slices_Clone_int_fo slices_Clone_int)
theorem i_SureNumbers_Eok : (i_SureNumbers_E).OK := ((E0ok.add1 i_someSolutions_ok).add1 slices_Clone_int_ok)
noncomputable def i_SureNumbers_told : Nat → Option SealT := fun id => if id = 9 then some (LSh.told i_SureNumbers_L9_sh 0 (i_SureNumbers_L9_step)) else if id = 6 then some (LSh.told i_SureNumbers_L6_sh 0 (i_SureNumbers_L6_step)) else none
theorem i_SureNumbers_L9_ok : ToldOK Try.prog 0 (loopAt (bodyOf fn_i_SureNumbers) [0, 0]) (LSh.told i_SureNumbers_L9_sh 0 (i_SureNumbers_L9_step)) :=
  loop_ok (E := i_SureNumbers_E) (i_SureNumbers_Eok) (told := i_SureNumbers_told) (l := i_SureNumbers_L9_sh) (step := i_SureNumbers_L9_step) (loopsOK_of (ls := []) (by kernel_rfl) trivial) (by kernel_rfl) (fun v => by kernel_rfl)
theorem i_SureNumbers_L6_ok : ToldOK Try.prog 0 (loopAt (bodyOf fn_i_SureNumbers) [0]) (LSh.told i_SureNumbers_L6_sh 0 (i_SureNumbers_L6_step)) :=
  loop_ok (E := i_SureNumbers_E) (i_SureNumbers_Eok) (told := i_SureNumbers_told) (l := i_SureNumbers_L6_sh) (step := i_SureNumbers_L6_step) (loopsOK_of (ls := [loopAt (bodyOf fn_i_SureNumbers) [0, 0]]) (by kernel_rfl) ⟨.inr ⟨_, by kernel_rfl, i_SureNumbers_L9_ok⟩, trivial⟩) (by kernel_rfl) (fun v => by kernel_rfl)
theorem i_SureNumbers_ok : FOK Try.prog n_i_SureNumbers i_SureNumbers_sh i_SureNumbers_fo i_SureNumbers :=
  fn_ok (E := i_SureNumbers_E) (i_SureNumbers_Eok) (told := i_SureNumbers_told) (fl := []) (c := bodyOf fn_i_SureNumbers) (s := i_SureNumbers_sh) (l := i_SureNumbers_fo) (tree := i_SureNumbers_t) fnat_i_SureNumbers (by kernel_rfl) (by kernel_rfl) (by kernel_rfl) (loopsOK_of (ls := [loopAt (bodyOf fn_i_SureNumbers) [0]]) (by kernel_rfl) ⟨.inr ⟨_, by kernel_rfl, i_SureNumbers_L6_ok⟩, trivial⟩) (fun v => by kernel_rfl)

theorem i_SureNumbers_one (q s : List Int) (t21 : List (List Int)) (t22 t23 : Int) (hl : s.length < 1000000) (hq : q.length = s.length) : i_SureNumbers_L9 (((), (q, ((), (t22, (t23, ((s.length : Int), (0 : Int))))))), (s, t21)) = some (((), ((), (t22, t23))), (sureQ s q, t21)) := by
  have h := loop_fold (step := fun v => (i_SureNumbers_L9_step v).run) (xs := List.range s.length) (fun k (o : List Int) => o.length = s.length) (fun k o => (((), (q, ((), (t22, (t23, ((s.length : Int), (k : Int))))))), (o, t21))) (sureG q) (fun o => (((), ((), (t22, t23))), (o, t21)))
    (fun k o x hP hx => by
      obtain ⟨hk, e⟩ := List.getElem?_eq_some_iff.1 hx
      simp only [List.getElem_range] at e
      subst e
      rw [List.length_range] at hk
      refine ⟨?_, by rw [sureG_len, hP]⟩
      have g0 := set_getD (l := o) (p := k) (by omega)
      have g1 := set_getD (l := q) (p := k) (by omega)
      have c0 : (k : Int) < (s.length : Int) := by omega
      have c1 : (0 : Int) ≤ (k : Int) ∧ (k : Int) < (o.length : Int) := by omega
      have c2 : (0 : Int) ≤ (k : Int) ∧ (k : Int) < (q.length : Int) := by omega
      have w1 : w64 ((k : Int) + 1) = ((k + 1 : Nat) : Int) := by rw [w64_id (by omega) (by omega)]; omega
      unfold sureG
      by_cases hz : o.getD k 0 = q.getD k 0
      · have e2 : (o.getD k 0 != q.getD k 0) = false := by simp only [hz]; simp
        rw [if_neg (fun hne => hne hz)]
        simp only [i_SureNumbers_L9_step, T.run, c0, c1, c2, decide_true, if_true, and_self, Int.toNat_natCast, Nat.zero_add, g0, g1, Option.bind_some, e2, Bool.false_eq_true, if_false, w1]
      · have e2 : (o.getD k 0 != q.getD k 0) = true := by rw [bne_iff_ne]; exact hz
        rw [if_pos hz]
        simp only [i_SureNumbers_L9_step, T.run, c0, c1, c2, decide_true, if_true, and_self, Int.toNat_natCast, Nat.zero_add, g0, g1, Option.bind_some, e2, List.length_set, w1])
    (fun o hs => by simp [i_SureNumbers_L9_step, T.run])
    s rfl
  simp only [Int.natCast_zero] at h
  simp only [i_SureNumbers_L9]
  exact h.1
theorem i_SureNumbers_all (n : Nat) (t : List (List Int)) (s : List Int) (hn : n < 1000) (hl : t.length < 1000000000) (hs : s.length = n) (ht : ∀ q ∈ t, q.length = n) : i_SureNumbers_L6 (((), ((), ((t.length : Int), (0 : Int)))), (s, t)) = some ((), t.foldl sureQ s) := by
  have h := loop_fold (step := fun v => (i_SureNumbers_L6_step v).run) (xs := t) (fun k (o : List Int) => o.length = n) (fun k o => (((), ((), ((t.length : Int), (k : Int)))), (o, t))) sureQ (fun o => ((), o))
    (fun k o x hP hx => by
      have hlt := getElem?_lt hx
      refine ⟨?_, by rw [sureQ_len, hP]⟩
      have c0 : (k : Int) < (t.length : Int) := by omega
      have c1 : (0 : Int) ≤ (k : Int) ∧ (k : Int) < (t.length : Int) := by omega
      have w1 : w64 ((k : Int) + 1) = ((k + 1 : Nat) : Int) := by rw [w64_id (by omega) (by omega)]; omega
      have h1 := i_SureNumbers_one x o t (t.length : Int) (k : Int) (by omega) (by rw [ht x (List.mem_of_getElem? hx), hP])
      simp only [i_SureNumbers_L6_step, T.run, c0, c1, decide_true, if_true, and_self, true_and, Int.toNat_natCast, Nat.zero_add, hx, Option.bind_some, h1, w1])
    (fun o hs => by simp [i_SureNumbers_L6_step, T.run])
    s hs
  simp only [Int.natCast_zero] at h
  simp only [i_SureNumbers_L6]
  exact h.1
theorem i_SureNumbers_eq (p : List Int) (hl : p.length < 4611686018427387904) : i_SureNumbers p = some (((), (surR p).1), (surR p).2) := by
  have hsome : i_someSolutions p = some (((), ((solR p).1 && decide (((solR p).2.length : Int) > 0))), (solR p).2) := by
    rw [i_someSolutions, i_someSolutions_t, T.run_sub, i_Solutions_eq p hl, Option.bind_some, T.run_test]
    cases (solR p).1 <;> simp [T.run]
  rw [i_SureNumbers, i_SureNumbers_t, T.run_sub, hsome, Option.bind_some, T.run_test]
  unfold surR
  have hm : ∀ q ∈ (solR p).2, q.length = p.length ∧ p.length ≤ 9 := fun q h => solR_mem h
  have h3 := solR_len p
  generalize solR p = r at *
  obtain ⟨ok, l⟩ := r
  simp only at hm h3
  cases ok with
  | false => simp [T.run]
  | true =>
    cases l with
    | nil => simp [T.run]
    | cons q t =>
      have hq := hm q (by simp)
      have hc : slices_Clone_int q = some ((), q) := by
        unfold slices_Clone_int
        rw [if_pos]
        exact ⟨by unfold maxLen; omega, by omega⟩
      have h6 := i_SureNumbers_all p.length (q :: t) q (by omega) (by omega) hq.1 (fun x hx => (hm x hx).1)
      have hpos : decide ((((q :: t).length : Nat) : Int) > 0) = true := decide_eq_true (by rw [List.length_cons]; omega)
      simp only [T.run, hpos, Bool.and_self, Bool.not_true, Bool.false_eq_true, if_false]
      simp [hc]
      simp at h6
      rw [h6]
      simp
      try omega


def i_HintOf_sh : FSh := ⟨[(.ag [(.sl (.int .i64) false false)])], []⟩

def i_HintOf_L5_sh : LSh := ⟨(fun ex => match ex with | .norm => [(5, none), (17, none), (18, none), (19, none)] | .exit i => if i = 0 then [] else [] | .ret => [(2, none), (3, none), (4, none)]), [(5, (.one (.rw 0 0))), (17, (.one (.sl (.int .i64) false false))), (18, (.one (.si .i64))), (19, (.one (.si .i64)))], [(.row 0 (.int .i64))], [⟨.ret, [(2, (.one (.si .i64))), (3, (.one (.si .i64))), (4, (.one .sb))], []⟩, ⟨(.exit 0), [], []⟩], [], []⟩
noncomputable def i_HintOf_L5_step : ((Unit × List (Int) × Int × Int) × List (Int)) → T (((Unit × List (Int) × Int × Int) × List (Int)) ⊕ ((Int × Int × Bool) ⊕ Unit)) := fun (((), t17, t18, t19), sure) =>
  (.test (decide (t19 < t18))
  (.test (decide ((0 ≤ t19) ∧ (t19 < ((List.length t17) : Int))))
   (.sub (t17[(Int.toNat t19)]?) fun z0 =>
    (.test (z0 == 0)
    (.test (decide ((0 ≤ t19) ∧ (t19 < ((List.length sure) : Int))))
     (.sub (sure[(0 + (Int.toNat t19))]?) fun z1 =>
      (.test (decide (z1 > 0))
      (.test (decide ((0 ≤ t19) ∧ (t19 < ((List.length sure) : Int))))
       (.sub (sure[(0 + (Int.toNat t19))]?) fun z2 =>
        (.ret (Sum.inr (Sum.inl (t19, (z2, true))))))
       .fail)
      (.test (decide ((0 = 0) ∧ ((List.length sure) = (List.length sure))))
       (.ret (Sum.inl (((), (t17, (t18, (w64 (t19 + 1))))), sure)))
       .fail)))
     .fail)
    (.test (decide ((0 = 0) ∧ ((List.length sure) = (List.length sure))))
     (.ret (Sum.inl (((), (t17, (t18, (w64 (t19 + 1))))), sure)))
     .fail)))
   .fail)
  (.ret (Sum.inr (Sum.inr ()))))
noncomputable def i_HintOf_L5 (v : ((Unit × List (Int) × Int × Int) × List (Int))) : Option ((Int × Int × Bool) ⊕ Unit) := loopO (fun v => (i_HintOf_L5_step v).run) v

def i_HintOf_fo : List FO := [⟨[(.one (.si .i64)), (.one (.si .i64)), (.one .sb)], []⟩]
noncomputable def i_HintOf_t : List (Int) → T (Int × Int × Bool) := fun p_0 =>
  (.sub (i_SureNumbers p_0) fun z0 =>
  (.test (! z0.1.2)
  (.ret ((0 : Int), ((0 : Int), false)))
  (.test (decide ((0 = 0) ∧ ((List.length z0.2) = (List.length z0.2))))
   (.sub (i_HintOf_L5 (((), (p_0, (((List.length p_0) : Int), (0 : Int)))), z0.2)) fun z1 =>
    (.test (Sum.isLeft z1)
    (.sub (Sum.getLeft? z1) fun z2 =>
     (.ret (z2.1, (z2.2.1, z2.2.2))))
    (.sub (Sum.getRight? z1) fun z3 =>
     (.ret ((0 : Int), ((0 : Int), false))))))
   .fail)))
noncomputable def i_HintOf (v : List (Int)) : Option (Int × Int × Bool) := (i_HintOf_t v).run
noncomputable def i_HintOf_E : TEnv := (E0.add1 n_i_SureNumbers i_SureNumbers_sh i_SureNumbers_fo i_SureNumbers)
theorem i_HintOf_Eok : (i_HintOf_E).OK := (E0ok.add1 i_SureNumbers_ok)
noncomputable def i_HintOf_told : Nat → Option SealT := fun id => if id = 5 then some (LSh.told i_HintOf_L5_sh 0 (i_HintOf_L5_step)) else none
theorem i_HintOf_L5_ok : ToldOK Try.prog 0 (loopAt (bodyOf fn_i_HintOf) [0]) (LSh.told i_HintOf_L5_sh 0 (i_HintOf_L5_step)) :=
  loop_ok (E := i_HintOf_E) (i_HintOf_Eok) (told := i_HintOf_told) (l := i_HintOf_L5_sh) (step := i_HintOf_L5_step) (loopsOK_of (ls := []) (by kernel_rfl) trivial) (by kernel_rfl) (fun v => by kernel_rfl)
theorem i_HintOf_ok : FOK Try.prog n_i_HintOf i_HintOf_sh i_HintOf_fo i_HintOf :=
  fn_ok (E := i_HintOf_E) (i_HintOf_Eok) (told := i_HintOf_told) (fl := []) (c := bodyOf fn_i_HintOf) (s := i_HintOf_sh) (l := i_HintOf_fo) (tree := i_HintOf_t) fnat_i_HintOf (by kernel_rfl) (by kernel_rfl) (by kernel_rfl) (loopsOK_of (ls := [loopAt (bodyOf fn_i_HintOf) [0]]) (by kernel_rfl) ⟨.inr ⟨_, by kernel_rfl, i_HintOf_L5_ok⟩, trivial⟩) (fun v => by kernel_rfl)

theorem i_HintOf_find (p s : List Int) (hl : p.length < 1000) (hs : s.length = p.length) : i_HintOf_L5 (((), (p, ((p.length : Int), (0 : Int)))), s) = some (match hintR p s with | some j => .inl ((j : Int), (s.getD j 0, true)) | none => .inr ()) := by
  have key : ∀ m k, k + m = p.length → i_HintOf_L5 (((), (p, ((p.length : Int), (k : Int)))), s) = some (match ((List.range p.length).drop k).find? (fun j => p.getD j 0 == 0 && decide (s.getD j 0 > 0)) with | some j => .inl ((j : Int), (s.getD j 0, true)) | none => .inr ()) := by
    intro m
    induction m with
    | zero =>
      intro k hk
      have : k = p.length := by omega
      subst this
      rw [List.drop_of_length_le (by simp)]
      simp only [i_HintOf_L5]
      exact loopO_done (by simp [i_HintOf_L5_step, T.run])
    | succ m ih =>
      intro k hk
      have hlt : k < p.length := by omega
      have ih := ih (k + 1) (by omega)
      have c0 : (k : Int) < (p.length : Int) := by omega
      have c1 : (0 : Int) ≤ (k : Int) ∧ (k : Int) < (p.length : Int) := by omega
      have c2 : (0 : Int) ≤ (k : Int) ∧ (k : Int) < (s.length : Int) := by omega
      have w1 : w64 ((k : Int) + 1) = ((k + 1 : Nat) : Int) := by rw [w64_id (by omega) (by omega)]; omega
      have g1 := set_getD hlt
      have g2 := set_getD (l := s) (p := k) (by omega)
      rw [List.drop_eq_getElem_cons (l := List.range p.length) (i := k) (by simpa using hlt), List.find?_cons, List.getElem_range]
      simp only [i_HintOf_L5] at ih ⊢
      cases hz : p.getD k 0 == 0 with
      | false =>
        simp only [Bool.false_and]
        rw [← ih]
        refine loopO_next ?_
        simp only [i_HintOf_L5_step, T.run, c0, c1, decide_true, if_true, and_self, true_and, Int.toNat_natCast, g1, Option.bind_some, hz, Bool.false_eq_true, if_false, w1]
      | true =>
        by_cases hp : s.getD k 0 > 0
        · simp only [hp, decide_true, Bool.and_self]
          refine loopO_done ?_
          simp only [i_HintOf_L5_step, T.run, c0, c1, c2, decide_true, if_true, and_self, true_and, Int.toNat_natCast, Nat.zero_add, g1, g2, Option.bind_some, hz, hp]
        · simp only [hp, decide_false, Bool.and_false]
          rw [← ih]
          refine loopO_next ?_
          simp only [i_HintOf_L5_step, T.run, c0, c1, c2, decide_true, if_true, and_self, true_and, Int.toNat_natCast, Nat.zero_add, g1, g2, Option.bind_some, hz, hp, decide_false, Bool.false_eq_true, if_false, w1]
  have h := key p.length 0 (by omega)
  rw [List.drop_zero, Int.natCast_zero] at h
  exact h
theorem i_HintOf_eq (p : List Int) (hl : p.length < 4611686018427387904) : i_HintOf p = some (hintV p) := by
  have h0 := i_SureNumbers_eq p hl
  rw [i_HintOf, i_HintOf_t, T.run_sub, h0, Option.bind_some, T.run_test]
  unfold hintV
  have h1 := surR_len_ok (p := p)
  have h2 := surR_puz (p := p)
  generalize surR p = r at *
  obtain ⟨ok, s⟩ := r
  cases ok with
  | false => simp [T.run]
  | true =>
    have h1 := h1 rfl
    have h2 := h2 rfl
    have hf := i_HintOf_find p s (by omega) h1
    simp only [Bool.not_true, Bool.false_eq_true, if_false, T.run_test, T.run_sub, T.run_ret, T.run_fail, and_self, decide_true, if_true, hf, Option.bind_some]
    cases hintR p s with
    | none => simp
    | some j => simp


def l_eqIntS_sh : FSh := ⟨[(.one (.sl (.int .i64) false false)), (.one (.sl (.int .i64) false false))], []⟩

def l_eqIntS_L4_sh : LSh := ⟨(fun ex => match ex with | .norm => [(0, none), (1, none), (5, none)] | .exit i => if i = 0 then [] else [] | .ret => [(4, none)]), [(0, (.one (.sl (.int .i64) false false))), (1, (.one (.sl (.int .i64) false false))), (5, (.one (.si .i64)))], [], [⟨.ret, [(4, (.one .sb))], []⟩, ⟨(.exit 0), [], []⟩], [], []⟩
noncomputable def l_eqIntS_L4_step : (List (Int) × List (Int) × Int) → T ((List (Int) × List (Int) × Int) ⊕ (Bool ⊕ Unit)) := fun (a, b, i) =>
  (.test (decide (i < ((List.length a) : Int)))
  (.test (decide ((0 ≤ i) ∧ (i < ((List.length a) : Int))))
   (.sub (a[(Int.toNat i)]?) fun z0 =>
    (.test (decide ((0 ≤ i) ∧ (i < ((List.length b) : Int))))
    (.sub (b[(Int.toNat i)]?) fun z1 =>
     (.test (z0 != z1)
     (.ret (Sum.inr (Sum.inl false)))
     (.ret (Sum.inl (a, (b, (w64 (i + 1))))))))
    .fail))
   .fail)
  (.ret (Sum.inr (Sum.inr ()))))
noncomputable def l_eqIntS_L4 (v : (List (Int) × List (Int) × Int)) : Option (Bool ⊕ Unit) := loopO (fun v => (l_eqIntS_L4_step v).run) v

def l_eqIntS_fo : List FO := [⟨[(.one .sb)], []⟩]
noncomputable def l_eqIntS_t : (List (Int) × List (Int)) → T Bool := fun (a, b) =>
  (.test (((List.length a) : Int) != ((List.length b) : Int))
  (.ret false)
  (.sub (l_eqIntS_L4 (a, (b, (0 : Int)))) fun z0 =>
   (.test (Sum.isLeft z0)
   (.sub (Sum.getLeft? z0) fun z1 =>
    (.ret z1))
   (.sub (Sum.getRight? z0) fun z2 =>
    (.ret true)))))
noncomputable def l_eqIntS (v : (List (Int) × List (Int))) : Option Bool := (l_eqIntS_t v).run
noncomputable def l_eqIntS_E : TEnv := E0
theorem l_eqIntS_Eok : (l_eqIntS_E).OK := E0ok
noncomputable def l_eqIntS_told : Nat → Option SealT := fun id => if id = 4 then some (LSh.told l_eqIntS_L4_sh 0 (l_eqIntS_L4_step)) else none
theorem l_eqIntS_L4_ok : ToldOK Try.prog 0 (loopAt (bodyOf fn_l_eqIntS) [0]) (LSh.told l_eqIntS_L4_sh 0 (l_eqIntS_L4_step)) :=
  loop_ok (E := l_eqIntS_E) (l_eqIntS_Eok) (told := l_eqIntS_told) (l := l_eqIntS_L4_sh) (step := l_eqIntS_L4_step) (loopsOK_of (ls := []) (by kernel_rfl) trivial) (by kernel_rfl) (fun v => by kernel_rfl)
theorem l_eqIntS_ok : FOK Try.prog n_l_eqIntS l_eqIntS_sh l_eqIntS_fo l_eqIntS :=
  fn_ok (E := l_eqIntS_E) (l_eqIntS_Eok) (told := l_eqIntS_told) (fl := []) (c := bodyOf fn_l_eqIntS) (s := l_eqIntS_sh) (l := l_eqIntS_fo) (tree := l_eqIntS_t) fnat_l_eqIntS (by kernel_rfl) (by kernel_rfl) (by kernel_rfl) (loopsOK_of (ls := [loopAt (bodyOf fn_l_eqIntS) [0]]) (by kernel_rfl) ⟨.inr ⟨_, by kernel_rfl, l_eqIntS_L4_ok⟩, trivial⟩) (fun v => by kernel_rfl)

theorem l_eqIntS_eq (a b : List Int) (hl : a.length < 4611686018427387904) : l_eqIntS (a, b) = some (decide (a = b)) := by
  by_cases hab : a.length = b.length
  · have h := loop_any (step := fun v => (l_eqIntS_L4_step v).run) (xs := a.zip b) (fun p => p.1 != p.2) (fun k => (a, b, (k : Int))) (.inl false) (.inr ())
      (fun k x hx => by
        have hk := getElem?_lt hx
        rw [List.length_zip, hab, Nat.min_self] at hk
        rw [List.getElem?_zip_eq_some] at hx
        simp only [l_eqIntS_L4_step, T.run, Option.bind_some, Int.toNat_natCast, hx.1, hx.2]
        rw [w64_id (by omega) (by omega)]
        have hka : k < a.length := by omega
        cases x.1 != x.2 <;> simp [hk, hka])
      (by simp [l_eqIntS_L4_step, T.run, hab])
    simp only [l_eqIntS, l_eqIntS_t, T.run, l_eqIntS_L4]
    simp only [Int.natCast_zero] at h
    rw [h, hab]
    have e : (a.zip b).any (fun p => p.1 != p.2) = !decide (a = b) := zip_any_ne a b hab
    rw [e]
    cases decide (a = b) <;> simp
  · simp only [l_eqIntS, l_eqIntS_t, T.run]
    have : a ≠ b := fun e => hab (by rw [e])
    simp [this]
    omega


def l_eqPuzzle_sh : FSh := ⟨[(.ag [(.sl (.int .i64) false false)]), (.ag [(.sl (.int .i64) false false)])], []⟩

def l_eqPuzzle_fo : List FO := [⟨[(.one .sb)], []⟩]
noncomputable def l_eqPuzzle_t : (List (Int) × List (Int)) → T Bool := fun (a_0, b_0) =>
  (.sub (l_eqIntS (a_0, b_0)) fun z0 =>
  (.test (! z0)
  (.ret false)
  (.ret true)))
noncomputable def l_eqPuzzle (v : (List (Int) × List (Int))) : Option Bool := (l_eqPuzzle_t v).run
noncomputable def l_eqPuzzle_E : TEnv := (E0.add1 n_l_eqIntS l_eqIntS_sh l_eqIntS_fo l_eqIntS)
theorem l_eqPuzzle_Eok : (l_eqPuzzle_E).OK := (E0ok.add1 l_eqIntS_ok)
noncomputable def l_eqPuzzle_told : Nat → Option SealT := fun id => none
theorem l_eqPuzzle_ok : FOK Try.prog n_l_eqPuzzle l_eqPuzzle_sh l_eqPuzzle_fo l_eqPuzzle :=
  fn_ok (E := l_eqPuzzle_E) (l_eqPuzzle_Eok) (told := l_eqPuzzle_told) (fl := []) (c := bodyOf fn_l_eqPuzzle) (s := l_eqPuzzle_sh) (l := l_eqPuzzle_fo) (tree := l_eqPuzzle_t) fnat_l_eqPuzzle (by kernel_rfl) (by kernel_rfl) (by kernel_rfl) (loopsOK_of (ls := []) (by kernel_rfl) trivial) (fun v => by kernel_rfl)

theorem l_eqPuzzle_eq (a b : List Int) (hl : a.length < 4611686018427387904) : l_eqPuzzle (a, b) = some (decide (a = b)) := by
  simp only [l_eqPuzzle, l_eqPuzzle_t, T.run, l_eqIntS_eq a b hl, Option.bind_some]
  cases decide (a = b) <;> rfl


def l_FnExactHintOf_sh : FSh := ⟨[(.ag [(.sl (.int .i64) false false)])], []⟩

def l_FnExactHintOf_fo : List FO := [⟨[(.one .sb)], []⟩]
noncomputable def l_FnExactHintOf_t : List (Int) → T Bool := fun aP_0 =>
  (.sub (l_szPuzzle (aP_0, (1048576 : Int))) fun z0 =>
  (.test (decide (z0 < 0))
  (.ret true)
  (.sub (l_toPuzzle aP_0) fun z1 =>
   (.test (decide ((0 + (List.length z1.2)) ≤ (List.length z1.2)))
   (.sub (s_HintOf (win z1.2 0 (List.length z1.2))) fun z2 =>
    (.sub (l_toPuzzle aP_0) fun z3 =>
    (.test (decide ((0 + (List.length z3.2)) ≤ (List.length z3.2)))
    (.sub (i_HintOf (win z3.2 0 (List.length z3.2))) fun z4 =>
     (.test (z4.1 != z2.1)
     (.ret false)
     (.test (z4.2.1 != z2.2.1)
      (.ret false)
      (.test (! (z4.2.2 == z2.2.2))
       (.ret false)
       (.sub (l_toPuzzle aP_0) fun z5 =>
        (.test (decide ((0 + (List.length z3.2)) ≤ (List.length z3.2)))
        (.test (decide ((0 + (List.length z5.2)) ≤ (List.length z5.2)))
         (.sub (l_eqPuzzle ((win z3.2 0 (List.length z3.2)), (win z5.2 0 (List.length z5.2)))) fun z6 =>
          (.test (! z6)
          (.ret false)
          (.ret true)))
         .fail)
        .fail))))))
    .fail)))
   .fail))))
noncomputable def l_FnExactHintOf (v : List (Int)) : Option Bool := (l_FnExactHintOf_t v).run
noncomputable def l_FnExactHintOf_E : TEnv := (((((E0.add1 n_l_szPuzzle l_szPuzzle_sh l_szPuzzle_fo l_szPuzzle).add1 n_l_toPuzzle l_toPuzzle_sh l_toPuzzle_fo l_toPuzzle).add1 n_s_HintOf s_HintOf_sh s_HintOf_fo s_HintOf).add1 n_i_HintOf i_HintOf_sh i_HintOf_fo i_HintOf).add1 n_l_eqPuzzle l_eqPuzzle_sh l_eqPuzzle_fo l_eqPuzzle)
theorem l_FnExactHintOf_Eok : (l_FnExactHintOf_E).OK := (((((E0ok.add1 l_szPuzzle_ok).add1 l_toPuzzle_ok).add1 s_HintOf_ok).add1 i_HintOf_ok).add1 l_eqPuzzle_ok)
noncomputable def l_FnExactHintOf_told : Nat → Option SealT := fun id => none
theorem l_FnExactHintOf_ok : FOK Try.prog n_l_FnExactHintOf l_FnExactHintOf_sh l_FnExactHintOf_fo l_FnExactHintOf :=
  fn_ok (E := l_FnExactHintOf_E) (l_FnExactHintOf_Eok) (told := l_FnExactHintOf_told) (fl := []) (c := bodyOf fn_l_FnExactHintOf) (s := l_FnExactHintOf_sh) (l := l_FnExactHintOf_fo) (tree := l_FnExactHintOf_t) fnat_l_FnExactHintOf (by kernel_rfl) (by kernel_rfl) (by kernel_rfl) (loopsOK_of (ls := []) (by kernel_rfl) trivial) (fun v => by kernel_rfl)

theorem l_FnExactHintOf_true (l : List Int) (hs : smallL ASh.small [.ag [.sl (.int .i64) false false]] l) : l_FnExactHintOf l = some true := by
  have hl0 : l.length < 140737488355328 := hs.1
  have hl : l.length < 4611686018427387904 := by omega
  have hi := i_HintOf_eq l hl
  have hsp := s_HintOf_eq l hl
  generalize hintV l = r at hi hsp
  rw [l_FnExactHintOf, l_FnExactHintOf_t, T.run_sub, l_szPuzzle_eq l _ (by decide) hl, Option.bind_some, T.run_test]
  split
  · rfl
  · have h : l.length < 10000000000000 := by omega
    simp [T.run, l_toPuzzle_eq l h, win_all, hi, hsp, l_eqPuzzle_eq l l hl]


end Go.Proofs.W
