/- Functions of the program, walked, and what they compute. -/
import Derived.Test.YtaoeghfoifhhcaaGreatDxWk4
set_option linter.unusedVariables false
set_option linter.unusedSimpArgs false
set_option maxRecDepth 100000
set_option maxHeartbeats 4000000
namespace Go.Proofs.W
open Go Go.Gm Go.Proofs
open Go.RowKit Go.Shelf
def F103_sh : FSh := ⟨[(.one (.sl (.int .i64) false false))], []⟩

def F103_L3_sh : LSh := ⟨(fun ex => match ex with | .norm => [(0, none), (3, none), (4, none)] | .exit i => if i = 0 then [(3, none)] else [] | .ret => [(2, none)]), [(0, (.one (.sl (.int .i64) false false))), (3, (.one (.rw 0 0))), (4, (.one (.si .i64)))], [(.row 0 (.list true (.int .i64)))], [⟨(.exit 0), [(3, (.one (.rw 0 0)))], [(.row 0 (.list true (.int .i64)))]⟩], [], []⟩
noncomputable def F103_L3_step : ((List (Int) × Unit × Int) × List (List (Int))) → T (((List (Int) × Unit × Int) × List (List (Int))) ⊕ (Unit × List (List (Int)))) := fun ((quiddity, (), k), out) =>
 (.test (decide (k ≤ (w64 (((List.length quiddity) : Int) - 3))))
 (.sub (F88 (quiddity, k)) fun z0 =>
 (.test (decide ((0 + (List.length z0.2)) ≤ (List.length z0.2)))
 (.test (decide (1 ≤ 1))
 (.test (decide ((0 + (List.length out)) ≤ (List.length out)))
 (.test (decide ((2 * (((List.length out) + 1) * 25)) ≤ 140737488355328))
 (.test (decide ((0 = 0) ∧ (((List.length out) + 1) = (List.length ((win out 0 (List.length out)) ++ [(win z0.2 0 (List.length z0.2))])))))
 (.ret (Sum.inl ((quiddity, ((), (w64 (k + 1)))), ((win out 0 (List.length out)) ++ [(win z0.2 0 (List.length z0.2))]))))
 .fail)
 .fail)
 .fail)
 .fail)
 .fail))
 (.test (decide ((0 = 0) ∧ ((List.length out) = (List.length out))))
 (.ret (Sum.inr ((), out)))
 .fail))
noncomputable def F103_L3 (v : ((List (Int) × Unit × Int) × List (List (Int)))) : Option (Unit × List (List (Int))) := loopO (fun v => (F103_L3_step v).run) v

def F103_fo : List FO := [⟨[(.one (.rw 0 0))], [(.row 0 (.list true (.int .i64)))]⟩]
noncomputable def F103_t : List (Int) → T (Unit × List (List (Int))) := fun quiddity =>
 (.test true
 (.sub (F103_L3 ((quiddity, ((), (1 : Int))), ([] : List (List Int)))) fun z0 =>
 (.test (decide ((0 = 0) ∧ ((List.length z0.2) = (List.length z0.2))))
 (.ret ((), z0.2))
 .fail))
 .fail)
noncomputable def F103 (v : List (Int)) : Option (Unit × List (List (Int))) := (F103_t v).run
noncomputable def F103_E : TEnv := (E0.add1 n_F88 F88_sh F88_fo F88)
theorem F103_Eok : (F103_E).OK := (E0ok.add1 F88_ok)
noncomputable def F103_told : Nat → Option SealT := fun id => if id = 3 then some (LSh.told F103_L3_sh 0 (F103_L3_step)) else none
theorem F103_L3_ok : ToldOK Tryz.prog 0 (loopAt (bodyOf fn_F103) [0]) (LSh.told F103_L3_sh 0 (F103_L3_step)) :=
  loop_ok (E := F103_E) (F103_Eok) (told := F103_told) (l := F103_L3_sh) (step := F103_L3_step) (loopsOK_of (ls := []) (by kernel_rfl) trivial) (by kernel_rfl) (fun v => by kernel_rfl)
theorem F103_ok : FOK Tryz.prog n_F103 F103_sh F103_fo F103 :=
  fn_ok (E := F103_E) (F103_Eok) (told := F103_told) (fl := []) (c := bodyOf fn_F103) (s := F103_sh) (l := F103_fo) (tree := F103_t) fnat_F103 (by kernel_rfl) (by kernel_rfl) (by kernel_rfl) (loopsOK_of (ls := [loopAt (bodyOf fn_F103) [0]]) (by kernel_rfl) ⟨.inr ⟨_, by kernel_rfl, F103_L3_ok⟩, trivial⟩) (fun v => by kernel_rfl)

theorem F103_eq {q : List Int} {ds : List Dg} (h : trOf q = some ds) : F103 q = some ((), frF q) := by
  have hb := (trOf_bounds (l := q) (by rw [h]; rfl)).1
  have w3 : w64 ((q.length : Int) - 3) = (q.length : Int) - 3 := w64_id (by omega) (by omega)
  have key : ∀ m j : Nat, j + m = q.length - 3 → F103_L3 ((q, ((), ((j + 1 : Nat) : Int))), (frF q).take j) = some ((), frF q) := by
    intro m
    induction m with
    | zero =>
      intro j hj
      rw [List.take_of_length_le (by rw [frF_length]; omega)]
      simp only [F103_L3]
      refine loopO_done ?_
      rw [F103_L3_step, w3, T.run_test, if_neg (by rw [decide_eq_true_eq]; omega), T.run_test, if_pos (by simp), T.run_ret]
    | succ m ih =>
      intro j hj
      have w1 : w64 (((j + 1 : Nat) : Int) + 1) = ((j + 1 + 1 : Nat) : Int) := by rw [w64_id (by omega) (by omega)]; omega
      have er := F88_eq h (j + 1) (by omega)
      have hr := frF_get (q := q) (t := j) (by omega)
      have hrl : j < (frF q).length := by rw [frF_length]; omega
      rw [List.getElem?_eq_getElem hrl] at hr
      have ht : (frF q).take (j + 1) = (frF q).take j ++ [rowF q (j + 1)] := by rw [List.take_succ_eq_append_getElem hrl, Option.some.inj hr]
      have htl : ((frF q).take j).length = j := by rw [List.length_take]; omega
      rw [← ih (j + 1) (by omega), ht]
      simp only [F103_L3]
      refine loopO_next ?_
      generalize (frF q).take j = out at *
      rw [F103_L3_step, w3, T.run_test, if_pos (decide_eq_true (by omega)), T.run_sub, er, Option.bind_some]
      simp only [win_all]
      rw [T.run_test, if_pos (by simp), T.run_test, if_pos (by simp), T.run_test, if_pos (by simp), T.run_test, if_pos (decide_eq_true (by omega)), T.run_test, if_pos (decide_eq_true (by simp)), T.run_ret, w1]
  have this : F103_L3 ((q, ((), (1 : Int))), []) = _ := key (q.length - 3) 0 (by omega)
  rw [F103, F103_t, T.run_test, if_pos rfl, T.run_sub, this, Option.bind_some, T.run_test, if_pos (by simp), T.run_ret]


def F60_sh : FSh := ⟨[(.one (.sl (.int .i64) false false))], []⟩

def F60_fo : List FO := [⟨[(.one (.rw 0 0)), (.one .sb)], [(.row 0 (.list true (.int .i64)))]⟩]
noncomputable def F60_t : List (Int) → T ((Unit × Bool) × List (List (Int))) := fun quiddity =>
 (.sub (F80 quiddity) fun z0 =>
 (.test (! z0)
 (.test true
 (.ret (((), false), ([] : List (List Int))))
 .fail)
 (.sub (F103 quiddity) fun z1 =>
 (.test (decide ((0 = 0) ∧ ((List.length z1.2) = (List.length z1.2))))
 (.ret (((), true), z1.2))
 .fail))))
noncomputable def F60 (v : List (Int)) : Option ((Unit × Bool) × List (List (Int))) := (F60_t v).run
noncomputable def F60_E : TEnv := ((E0.add1 n_F80 F80_sh F80_fo F80).add1 n_F103 F103_sh F103_fo F103)
theorem F60_Eok : (F60_E).OK := ((E0ok.add1 F80_ok).add1 F103_ok)
noncomputable def F60_told : Nat → Option SealT := fun id => none
theorem F60_ok : FOK Tryz.prog n_F60 F60_sh F60_fo F60 :=
  fn_ok (E := F60_E) (F60_Eok) (told := F60_told) (fl := []) (c := bodyOf fn_F60) (s := F60_sh) (l := F60_fo) (tree := F60_t) fnat_F60 (by kernel_rfl) (by kernel_rfl) (by kernel_rfl) (loopsOK_of (ls := []) (by kernel_rfl) trivial) (fun v => by kernel_rfl)

theorem F60_eq (q : List Int) (hl : q.length < 4611686018427387904) : F60 q = some (((), rowed q), if rowed q then frF q else []) := by
  rw [F60, F60_t, T.run_sub, F80_eq q hl, Option.bind_some, T.run_test]
  cases h : rowed q with
  | false => rw [if_pos (by simp), T.run_test, if_pos rfl, T.run_ret]; rfl
  | true =>
    obtain ⟨h4, ds, hd⟩ := rowed_some h
    rw [if_neg (by simp), T.run_sub, F103_eq hd, Option.bind_some, T.run_test, if_pos (by simp), T.run_ret]; rfl


def F33_sh : FSh := ⟨[.one (.nl true true), .one (.si .i64)], []⟩
def F33_fo : List FO := [⟨[.one (.rw 0 0)], [.row 0 (.int .i64)]⟩]
def F33 (v : Unit × Int) : Option (Unit × List Int) := if 0 ≤ v.2 ∧ v.2 ≤ 1000000000000 ∧ v.2.toNat * 8 ≤ 140737488355328 then some ((), []) else none
def F33_ren : Shelf.Ren := ⟨fun _ => n_F33, fun t => if t = 0 then 0 else if t = 4 then 4 else if t = 9 then 9 else if t = 20 then 20 else if t = 22 then 24 else 3, fun x => x⟩
theorem F33_lay : Lays8.n4 Tryz.prog F33_ren :=
  { f4 := ⟨"slices.Grow[[]int,int]", by kernel_rfl, by kernel_rfl⟩, mixed := by kernel_rfl, t0 := by kernel_rfl, a0 := fun w => by kernel_rfl, z0 := fun w => by kernel_rfl, v0 := fun w => by kernel_rfl, t3 := by kernel_rfl, a3 := fun w => by kernel_rfl, z3 := fun w => by kernel_rfl, v3 := fun w => by kernel_rfl, t4 := by kernel_rfl, a4 := fun w => by kernel_rfl, z4 := fun w => by kernel_rfl, v4 := fun w => by kernel_rfl, t9 := by kernel_rfl, a9 := fun w => by kernel_rfl, z9 := fun w => by kernel_rfl, v9 := fun w => by kernel_rfl, t20 := by kernel_rfl, a20 := fun w => by kernel_rfl, z20 := fun w => by kernel_rfl, v20 := fun w => by kernel_rfl, t22 := by kernel_rfl, a22 := fun w => by kernel_rfl, z22 := fun w => by kernel_rfl, v22 := fun w => by kernel_rfl }
noncomputable def F33_info : TypeInfo := (Tryz.prog.info? 3).get (by kernel_rfl)
theorem F33_ok : FOK Tryz.prog n_F33 F33_sh F33_fo F33 :=
  grow_ok ⟨_, fnat_F33, by kernel_rfl, by kernel_rfl⟩ (ρr := F33_ren) rfl F33_lay (.int .i64) F33_info (.int .i64 0) (by kernel_rfl) (by kernel_rfl) (by kernel_rfl) (by decide) 8 (by kernel_rfl)

def F25_sh : FSh := ⟨[(.one (.sl (.list true (.int .i64)) false false))], []⟩

def F25_L3_sh : LSh := ⟨(fun ex => match ex with | .norm => [(0, none), (3, none), (9, none), (10, none), (11, none)] | .exit i => if i = 0 then [(0, none), (3, none)] else [] | .ret => [(2, none)]), [(0, (.one (.sl (.list true (.int .i64)) false false))), (3, (.one (.si .i64))), (9, (.one (.sl (.list true (.int .i64)) false false))), (10, (.one (.si .i64))), (11, (.one (.si .i64)))], [], [⟨(.exit 0), [(0, (.one (.sl (.list true (.int .i64)) false false))), (3, (.one (.si .i64)))], []⟩], [], []⟩
noncomputable def F25_L3_step : (List (List (Int)) × Int × List (List (Int)) × Int × Int) → T ((List (List (Int)) × Int × List (List (Int)) × Int × Int) ⊕ (List (List (Int)) × Int)) := fun (slices, size, t9, t10, t11) =>
 (.test (decide (t11 < t10))
 (.test (decide ((0 ≤ t11) ∧ (t11 < ((List.length t9) : Int))))
 (.sub (t9[(Int.toNat t11)]?) fun z0 =>
 (.test (decide ((w64 (size + ((List.length z0) : Int))) < 0))
 .fail
 (.ret (Sum.inl (slices, ((w64 (size + ((List.length z0) : Int))), (t9, (t10, (w64 (t11 + 1))))))))))
 .fail)
 (.ret (Sum.inr (slices, size))))
noncomputable def F25_L3 (v : (List (List (Int)) × Int × List (List (Int)) × Int × Int)) : Option (List (List (Int)) × Int) := loopO (fun v => (F25_L3_step v).run) v

def F25_L11_sh : LSh := ⟨(fun ex => match ex with | .norm => [(6, none), (25, none), (26, none), (27, none)] | .exit i => if i = 2 then [(6, none)] else [] | .ret => [(2, none)]), [(6, (.one (.rw 0 0))), (25, (.one (.sl (.list true (.int .i64)) false false))), (26, (.one (.si .i64))), (27, (.one (.si .i64)))], [(.row 0 (.int .i64))], [⟨(.exit 2), [(6, (.one (.rw 0 0)))], [(.row 0 (.int .i64))]⟩], [], []⟩
noncomputable def F25_L11_step : ((Unit × List (List (Int)) × Int × Int) × List (Int)) → T (((Unit × List (List (Int)) × Int × Int) × List (Int)) ⊕ (Unit × List (Int))) := fun (((), t25, t26, t27), newslice) =>
 (.test (decide (t27 < t26))
 (.test (decide ((0 ≤ t27) ∧ (t27 < ((List.length t25) : Int))))
 (.sub (t25[(Int.toNat t27)]?) fun z0 =>
 (.test (decide ((0 + (List.length newslice)) ≤ (List.length newslice)))
 (.test (decide ((2 * (((List.length newslice) + (List.length z0)) * 9)) ≤ 140737488355328))
 (.test (decide ((0 = 0) ∧ (((List.length newslice) + (List.length z0)) = (List.length ((win newslice 0 (List.length newslice)) ++ z0)))))
 (.ret (Sum.inl (((), (t25, (t26, (w64 (t27 + 1))))), ((win newslice 0 (List.length newslice)) ++ z0))))
 .fail)
 .fail)
 .fail))
 .fail)
 (.test (decide ((0 = 0) ∧ ((List.length newslice) = (List.length newslice))))
 (.ret (Sum.inr ((), newslice)))
 .fail))
noncomputable def F25_L11 (v : ((Unit × List (List (Int)) × Int × Int) × List (Int))) : Option (Unit × List (Int)) := loopO (fun v => (F25_L11_step v).run) v

def F25_fo : List FO := [⟨[(.one (.rw 0 0))], [(.row 0 (.int .i64))]⟩]
noncomputable def F25_t : List (List (Int)) → T (Unit × List (Int)) := fun slices =>
 (.sub (F25_L3 (slices, ((0 : Int), (slices, (((List.length slices) : Int), (0 : Int)))))) fun z0 =>
 (.sub (F33 ((), z0.2)) fun z1 =>
 (.test (decide ((0 = 0) ∧ ((List.length z1.2) = (List.length z1.2))))
 (.sub (F25_L11 (((), (z0.1, (((List.length z0.1) : Int), (0 : Int)))), z1.2)) fun z2 =>
 (.test (decide ((0 = 0) ∧ ((List.length z2.2) = (List.length z2.2))))
 (.ret ((), z2.2))
 .fail))
 .fail)))
noncomputable def F25 (v : List (List (Int))) : Option (Unit × List (Int)) := (F25_t v).run
noncomputable def F25_E : TEnv := (E0.add1 n_F33 F33_sh F33_fo F33)
theorem F25_Eok : (F25_E).OK := (E0ok.add1 F33_ok)
noncomputable def F25_told : Nat → Option SealT := fun id => if id = 3 then some (LSh.told F25_L3_sh 0 (F25_L3_step)) else if id = 11 then some (LSh.told F25_L11_sh 0 (F25_L11_step)) else none
theorem F25_L3_ok : ToldOK Tryz.prog 0 (loopAt (bodyOf fn_F25) [0]) (LSh.told F25_L3_sh 0 (F25_L3_step)) :=
  loop_ok (E := F25_E) (F25_Eok) (told := F25_told) (l := F25_L3_sh) (step := F25_L3_step) (loopsOK_of (ls := []) (by kernel_rfl) trivial) (by kernel_rfl) (fun v => by kernel_rfl)
theorem F25_L11_ok : ToldOK Tryz.prog 0 (loopAt (bodyOf fn_F25) [1]) (LSh.told F25_L11_sh 0 (F25_L11_step)) :=
  loop_ok (E := F25_E) (F25_Eok) (told := F25_told) (l := F25_L11_sh) (step := F25_L11_step) (loopsOK_of (ls := []) (by kernel_rfl) trivial) (by kernel_rfl) (fun v => by kernel_rfl)
theorem F25_ok : FOK Tryz.prog n_F25 F25_sh F25_fo F25 :=
  fn_ok (E := F25_E) (F25_Eok) (told := F25_told) (fl := []) (c := bodyOf fn_F25) (s := F25_sh) (l := F25_fo) (tree := F25_t) fnat_F25 (by kernel_rfl) (by kernel_rfl) (by kernel_rfl) (loopsOK_of (ls := [loopAt (bodyOf fn_F25) [0], loopAt (bodyOf fn_F25) [1]]) (by kernel_rfl) ⟨.inr ⟨_, by kernel_rfl, F25_L3_ok⟩, ⟨.inr ⟨_, by kernel_rfl, F25_L11_ok⟩, trivial⟩⟩) (fun v => by kernel_rfl)

def F37_sh : FSh := ⟨[(.one (.sl (.int .i64) false false))], []⟩

def F37_L5_sh : LSh := ⟨(fun ex => match ex with | .norm => [(0, none), (3, none), (4, none)] | .exit i => if i = 0 then [(3, none)] else [] | .ret => [(2, none)]), [(0, (.one (.sl (.int .i64) false false))), (3, (.one (.si .i64))), (4, (.one (.si .i64)))], [], [⟨(.exit 0), [(3, (.one (.si .i64)))], []⟩], [], []⟩
noncomputable def F37_L5_step : (List (Int) × Int × Int) → T ((List (Int) × Int × Int) ⊕ Int) := fun (x, m, i) =>
 (.test (decide (i < ((List.length x) : Int)))
 (.test (decide ((0 ≤ i) ∧ (i < ((List.length x) : Int))))
 (.sub (x[(Int.toNat i)]?) fun z0 =>
 (.ret (Sum.inl (x, ((if (z0 > m) then z0 else m), (w64 (i + 1)))))))
 .fail)
 (.ret (Sum.inr m)))
noncomputable def F37_L5 (v : (List (Int) × Int × Int)) : Option Int := loopO (fun v => (F37_L5_step v).run) v

def F37_fo : List FO := [⟨[(.one (.si .i64))], []⟩]
noncomputable def F37_t : List (Int) → T Int := fun x =>
 (.test (decide (((List.length x) : Int) < 1))
 .fail
 (.test (decide (((0 : Int) ≤ (0 : Int)) ∧ (0 < ((List.length x) : Int))))
 (.sub (x[0]?) fun z0 =>
 (.sub (F37_L5 (x, (z0, (1 : Int)))) fun z1 =>
 (.ret z1)))
 .fail))
noncomputable def F37 (v : List (Int)) : Option Int := (F37_t v).run
noncomputable def F37_E : TEnv := E0
theorem F37_Eok : (F37_E).OK := E0ok
noncomputable def F37_told : Nat → Option SealT := fun id => if id = 5 then some (LSh.told F37_L5_sh 0 (F37_L5_step)) else none
theorem F37_L5_ok : ToldOK Tryz.prog 0 (loopAt (bodyOf fn_F37) [0]) (LSh.told F37_L5_sh 0 (F37_L5_step)) :=
  loop_ok (E := F37_E) (F37_Eok) (told := F37_told) (l := F37_L5_sh) (step := F37_L5_step) (loopsOK_of (ls := []) (by kernel_rfl) trivial) (by kernel_rfl) (fun v => by kernel_rfl)
theorem F37_ok : FOK Tryz.prog n_F37 F37_sh F37_fo F37 :=
  fn_ok (E := F37_E) (F37_Eok) (told := F37_told) (fl := []) (c := bodyOf fn_F37) (s := F37_sh) (l := F37_fo) (tree := F37_t) fnat_F37 (by kernel_rfl) (by kernel_rfl) (by kernel_rfl) (loopsOK_of (ls := [loopAt (bodyOf fn_F37) [0]]) (by kernel_rfl) ⟨.inr ⟨_, by kernel_rfl, F37_L5_ok⟩, trivial⟩) (fun v => by kernel_rfl)

theorem F37_eq (x : Int) (t : List Int) (hl : t.length < 1000000) : F37 (x :: t) = some (mxI (x :: t)) := by
  have h := loop_fold (step := fun v => (F37_L5_step v).run) (xs := t) (fun _ (_ : Int) => True) (fun k s => (x :: t, (s, ((k + 1 : Nat) : Int)))) mx2 (fun s => s)
    (fun k s y _ hy => by
      have hk := getElem?_lt hy
      have w1 : w64 (((k + 1 : Nat) : Int) + 1) = ((k + 1 + 1 : Nat) : Int) := by rw [w64_id (by omega) (by omega)]; omega
      refine ⟨?_, trivial⟩
      rw [F37_L5_step, T.run_test, if_pos (decide_eq_true (by rw [List.length_cons]; omega)), T.run_test, if_pos (decide_eq_true (by rw [List.length_cons]; omega)), T.run_sub, Int.toNat_natCast, List.getElem?_cons_succ, hy, Option.bind_some, T.run_ret, w1]
      have : (if y > s then y else s) = mx2 s y := by unfold mx2; split <;> split <;> omega
      rw [this])
    (fun s _ => by rw [F37_L5_step, T.run_test, if_neg (by rw [decide_eq_true_eq, List.length_cons]; omega), T.run_ret])
    x trivial
  have h' : F37_L5 (x :: t, (x, (1 : Int))) = _ := h.1
  rw [F37, F37_t, T.run_test, if_neg (by rw [decide_eq_true_eq, List.length_cons]; omega), T.run_test, if_pos (decide_eq_true (by rw [List.length_cons]; omega)), T.run_sub, List.getElem?_cons_zero, Option.bind_some, T.run_sub, h', Option.bind_some, T.run_ret]
  rfl



theorem flat_take_succ {ls : List (List Int)} {k : Nat} {x : List Int} (h : ls[k]? = some x) : (ls.take (k + 1)).flatten = (ls.take k).flatten ++ x := by
  have hk := getElem?_lt h
  rw [List.getElem?_eq_getElem hk] at h
  rw [List.take_succ_eq_append_getElem hk, List.flatten_append, Option.some.inj h]
  simp
theorem flat_take_le (ls : List (List Int)) (k : Nat) : (ls.take k).flatten.length ≤ ls.flatten.length := by
  conv => rhs; rw [← List.take_append_drop k ls, List.flatten_append, List.length_append]
  omega
theorem concat_all (ls : List (List Int)) (hl : ls.flatten.length ≤ 1000) (hn : ls.length ≤ 100000) : F25 ls = some ((), ls.flatten) := by
  have h3 := loop_fold (step := fun v => (F25_L3_step v).run) (xs := ls) (fun k (s : Int) => s = ((ls.take k).flatten.length : Int)) (fun k s => (ls, (s, (ls, ((ls.length : Int), (k : Int)))))) (fun s x => s + (x.length : Int)) (fun s => (ls, s))
    (fun k s x hP hx => by
      have hk := getElem?_lt hx
      have hf := flat_take_succ hx
      have hle := flat_take_le ls (k + 1)
      have hlen : (ls.take (k + 1)).flatten.length = (ls.take k).flatten.length + x.length := by rw [hf, List.length_append]
      have w1 : w64 ((k : Int) + 1) = ((k + 1 : Nat) : Int) := by rw [w64_id (by omega) (by omega)]; omega
      have w2 : w64 (s + (x.length : Int)) = s + (x.length : Int) := w64_id (by omega) (by omega)
      refine ⟨?_, by omega⟩
      rw [F25_L3_step, T.run_test, if_pos (decide_eq_true (by omega)), T.run_test, if_pos (decide_eq_true (by omega)), T.run_sub, Int.toNat_natCast, hx, Option.bind_some, w2, T.run_test, if_neg (by rw [decide_eq_true_eq]; omega), T.run_ret, w1])
    (fun s hs => by rw [F25_L3_step, T.run_test, if_neg (by simp), T.run_ret])
    (0 : Int) (by simp)
  have h11 := loop_fold (step := fun v => (F25_L11_step v).run) (xs := ls) (fun k (s : List Int) => s = (ls.take k).flatten) (fun k s => (((), (ls, ((ls.length : Int), (k : Int)))), s)) (fun s x => s ++ x) (fun s => ((), s))
    (fun k s x hP hx => by
      have hk := getElem?_lt hx
      have hf := flat_take_succ hx
      have hle := flat_take_le ls (k + 1)
      have hlen : (ls.take (k + 1)).flatten.length = s.length + x.length := by rw [hf, List.length_append, hP]
      have w1 : w64 ((k : Int) + 1) = ((k + 1 : Nat) : Int) := by rw [w64_id (by omega) (by omega)]; omega
      refine ⟨?_, by rw [hf, hP]⟩
      rw [F25_L11_step, T.run_test, if_pos (decide_eq_true (by omega)), T.run_test, if_pos (decide_eq_true (by omega)), T.run_sub, Int.toNat_natCast, hx, Option.bind_some]
      simp only [win_all]
      rw [T.run_test, if_pos (by simp), T.run_test, if_pos (decide_eq_true (by omega)), T.run_test, if_pos (decide_eq_true (by simp)), T.run_ret, w1])
    (fun s hs => by rw [F25_L11_step, T.run_test, if_neg (by simp), T.run_test, if_pos (by simp), T.run_ret])
    ([] : List Int) (by simp)
  obtain ⟨h3a, h3b⟩ := h3
  obtain ⟨h11a, h11b⟩ := h11
  rw [h3b] at h3a
  rw [h11b] at h11a
  rw [List.take_length] at h3a h11a
  have hg : F33 ((), (ls.flatten.length : Int)) = some ((), []) := by
    unfold F33
    rw [if_pos ⟨by simp only []; omega, by simp only []; omega, by simp only []; omega⟩]
  have h3' : F25_L3 (ls, ((0 : Int), (ls, ((ls.length : Int), (0 : Int))))) = _ := h3a
  have h11' : F25_L11 (((), (ls, ((ls.length : Int), (0 : Int)))), ([] : List Int)) = _ := h11a
  rw [F25, F25_t, T.run_sub, h3', Option.bind_some, T.run_sub, hg, Option.bind_some, T.run_test, if_pos (by simp), T.run_sub, h11', Option.bind_some, T.run_test, if_pos (by simp), T.run_ret]


def F34_sh : FSh := ⟨[(.one (.sl (.int .i64) false false))], []⟩

def F34_fo : List FO := [⟨[(.one (.si .i64)), (.one .sb)], []⟩]
noncomputable def F34_t : List (Int) → T (Int × Bool) := fun quiddity =>
 (.sub (F64 quiddity) fun z0 =>
 (.test (! z0)
 (.ret ((0 : Int), false))
 (.sub (F77 quiddity) fun z1 =>
 (.test (decide ((0 + (List.length z1.2)) ≤ (List.length z1.2)))
 (.sub (F25 (win z1.2 0 (List.length z1.2))) fun z2 =>
 (.test (decide ((0 + (List.length z2.2)) ≤ (List.length z2.2)))
 (.sub (F37 (win z2.2 0 (List.length z2.2))) fun z3 =>
 (.ret (z3, true)))
 .fail))
 .fail))))
noncomputable def F34 (v : List (Int)) : Option (Int × Bool) := (F34_t v).run
noncomputable def F34_E : TEnv := ((((E0.add1 n_F64 F64_sh F64_fo F64).add1 n_F77 F77_sh F77_fo F77).add1 n_F25 F25_sh F25_fo F25).add1 n_F37 F37_sh F37_fo F37)
theorem F34_Eok : (F34_E).OK := ((((E0ok.add1 F64_ok).add1 F77_ok).add1 F25_ok).add1 F37_ok)
noncomputable def F34_told : Nat → Option SealT := fun id => none
theorem F34_ok : FOK Tryz.prog n_F34 F34_sh F34_fo F34 :=
  fn_ok (E := F34_E) (F34_Eok) (told := F34_told) (fl := []) (c := bodyOf fn_F34) (s := F34_sh) (l := F34_fo) (tree := F34_t) fnat_F34 (by kernel_rfl) (by kernel_rfl) (by kernel_rfl) (loopsOK_of (ls := []) (by kernel_rfl) trivial) (fun v => by kernel_rfl)

theorem frF_flat {q : List Int} (h4 : 4 ≤ q.length) (h12 : q.length ≤ 12) : (frF q).flatten.length ≤ 108 ∧ ∃ x t, (frF q).flatten = x :: t := by
  have hall : ∀ n : Nat, (((List.range n).map fun t => rowF q (t + 1)).flatten).length = n * q.length := by
    intro n
    induction n with
    | zero => simp
    | succ n ih => rw [List.range_succ, List.map_append, List.flatten_append, List.length_append, ih]; simp [rowF_length]; rw [Nat.add_mul]; omega
  have hl : (frF q).flatten.length = (q.length - 3) * q.length := hall _
  have hle : (q.length - 3) * q.length ≤ 9 * 12 := Nat.mul_le_mul (by omega) (by omega)
  refine ⟨by omega, ?_⟩
  cases hf : (frF q).flatten with
  | nil =>
    rw [hf] at hl
    have : 1 * 4 ≤ (q.length - 3) * q.length := Nat.mul_le_mul (by omega) (by omega)
    simp at hl
    omega
  | cons x t => exact ⟨x, t, rfl⟩
theorem F34_eq (q : List Int) (hl : q.length < 4611686018427387904) : F34 q = some (if rowed q then (mxI (frF q).flatten, true) else (0, false)) := by
  rw [F34, F34_t, T.run_sub, F64_eq q hl, Option.bind_some, T.run_test]
  cases h : rowed q with
  | false => rw [if_pos (by simp), T.run_ret]; rfl
  | true =>
    obtain ⟨h4, ds, hd⟩ := rowed_some h
    have hb := (trOf_bounds (l := q) (by rw [hd]; rfl)).1
    obtain ⟨f1, x, t, f2⟩ := frF_flat h4 (by omega)
    have hc := concat_all (frF q) (by omega) (by rw [frF_length]; omega)
    rw [f2] at hc f1
    rw [if_neg (by simp), T.run_sub, F77_eq hd, Option.bind_some]
    simp only [win_all]
    rw [T.run_test, if_pos (by simp), T.run_sub, hc, Option.bind_some, T.run_test, if_pos (by simp), T.run_sub, F37_eq x t (by rw [List.length_cons] at f1; omega), Option.bind_some, T.run_ret, f2]
    rfl


def F35_sh : FSh := ⟨[(.one (.sl (.int .i64) false false))], []⟩

def F35_L8_sh : LSh := ⟨(fun ex => match ex with | .norm => [(4, none), (13, none), (14, none), (15, none), (19, none), (20, none), (21, none)] | .exit i => if i = 2 then [(4, none), (13, none), (14, none), (15, none)] else if i = 1 then [(4, none), (13, none), (14, none), (15, none)] else if i = 0 then [(4, none)] else [] | .ret => [(2, none), (3, none)]), [(4, (.one (.si .i64))), (13, (.one (.rw 0 0))), (14, (.one (.si .i64))), (15, (.one (.si .i64))), (19, (.one (.sl (.int .i64) false true))), (20, (.one (.si .i64))), (21, (.one (.si .i64)))], [(.row 0 (.list true (.int .i64)))], [⟨(.exit 2), [(4, (.one (.si .i64))), (13, (.one (.rw 0 0))), (14, (.one (.si .i64))), (15, (.one (.si .i64)))], [(.row 0 (.list true (.int .i64)))]⟩], [], []⟩
noncomputable def F35_L8_step : ((Int × Unit × Int × Int × List (Int) × Int × Int) × List (List (Int))) → T (((Int × Unit × Int × Int × List (Int) × Int × Int) × List (List (Int))) ⊕ ((Int × Unit × Int × Int) × List (List (Int)))) := fun ((most, (), t14, t15, t19, t20, t21), t13) =>
 (.test (decide (t21 < t20))
 (.test (decide ((0 ≤ t21) ∧ (t21 < ((List.length t19) : Int))))
 (.sub (t19[(Int.toNat t21)]?) fun z0 =>
 (.sub (F78 (most, z0)) fun z1 =>
 (.test (decide ((0 = 0) ∧ ((List.length t13) = (List.length t13))))
 (.ret (Sum.inl ((z1, ((), (t14, (t15, (t19, (t20, (w64 (t21 + 1)))))))), t13)))
 .fail)))
 .fail)
 (.test (decide ((0 = 0) ∧ ((List.length t13) = (List.length t13))))
 (.ret (Sum.inr ((most, ((), (t14, t15))), t13)))
 .fail))
noncomputable def F35_L8 (v : ((Int × Unit × Int × Int × List (Int) × Int × Int) × List (List (Int)))) : Option ((Int × Unit × Int × Int) × List (List (Int))) := loopO (fun v => (F35_L8_step v).run) v

def F35_L5_sh : LSh := ⟨(fun ex => match ex with | .norm => [(4, none), (13, none), (14, none), (15, none)] | .exit i => if i = 0 then [(4, none)] else [] | .ret => [(2, none), (3, none)]), [(4, (.one (.si .i64))), (13, (.one (.rw 0 0))), (14, (.one (.si .i64))), (15, (.one (.si .i64)))], [(.row 0 (.list true (.int .i64)))], [⟨(.exit 0), [(4, (.one (.si .i64)))], []⟩], [], []⟩
noncomputable def F35_L5_step : ((Int × Unit × Int × Int) × List (List (Int))) → T (((Int × Unit × Int × Int) × List (List (Int))) ⊕ Int) := fun ((most, (), t14, t15), t13) =>
 (.test (decide (t15 < t14))
 (.test (decide ((0 ≤ t15) ∧ (t15 < ((List.length t13) : Int))))
 (.sub (t13[(0 + (Int.toNat t15))]?) fun z0 =>
 (.test (decide ((0 = 0) ∧ ((List.length t13) = (List.length t13))))
 (.sub (F35_L8 ((most, ((), (t14, (t15, (z0, (((List.length z0) : Int), (0 : Int))))))), t13)) fun z1 =>
 (.test (decide ((0 = 0) ∧ ((List.length z1.2) = (List.length z1.2))))
 (.ret (Sum.inl ((z1.1.1, ((), (z1.1.2.2.1, (w64 (z1.1.2.2.2 + 1))))), z1.2)))
 .fail))
 .fail))
 .fail)
 (.ret (Sum.inr most)))
noncomputable def F35_L5 (v : ((Int × Unit × Int × Int) × List (List (Int)))) : Option Int := loopO (fun v => (F35_L5_step v).run) v

def F35_fo : List FO := [⟨[(.one (.si .i64)), (.one .sb)], []⟩]
noncomputable def F35_t : List (Int) → T (Int × Bool) := fun quiddity =>
 (.sub (F80 quiddity) fun z0 =>
 (.test (! z0)
 (.ret ((0 : Int), false))
 (.sub (F103 quiddity) fun z1 =>
 (.test (decide ((0 = 0) ∧ ((List.length z1.2) = (List.length z1.2))))
 (.sub (F35_L5 (((0 : Int), ((), (((List.length z1.2) : Int), (0 : Int)))), z1.2)) fun z2 =>
 (.ret (z2, true)))
 .fail))))
noncomputable def F35 (v : List (Int)) : Option (Int × Bool) := (F35_t v).run
noncomputable def F35_E : TEnv := (((E0.add1 n_F80 F80_sh F80_fo F80).add1 n_F103 F103_sh F103_fo F103).add1 n_F78 F78_sh F78_fo F78)
theorem F35_Eok : (F35_E).OK := (((E0ok.add1 F80_ok).add1 F103_ok).add1 F78_ok)
noncomputable def F35_told : Nat → Option SealT := fun id => if id = 8 then some (LSh.told F35_L8_sh 0 (F35_L8_step)) else if id = 5 then some (LSh.told F35_L5_sh 0 (F35_L5_step)) else none
theorem F35_L8_ok : ToldOK Tryz.prog 0 (loopAt (bodyOf fn_F35) [0, 0]) (LSh.told F35_L8_sh 0 (F35_L8_step)) :=
  loop_ok (E := F35_E) (F35_Eok) (told := F35_told) (l := F35_L8_sh) (step := F35_L8_step) (loopsOK_of (ls := []) (by kernel_rfl) trivial) (by kernel_rfl) (fun v => by kernel_rfl)
theorem F35_L5_ok : ToldOK Tryz.prog 0 (loopAt (bodyOf fn_F35) [0]) (LSh.told F35_L5_sh 0 (F35_L5_step)) :=
  loop_ok (E := F35_E) (F35_Eok) (told := F35_told) (l := F35_L5_sh) (step := F35_L5_step) (loopsOK_of (ls := [loopAt (bodyOf fn_F35) [0, 0]]) (by kernel_rfl) ⟨.inr ⟨_, by kernel_rfl, F35_L8_ok⟩, trivial⟩) (by kernel_rfl) (fun v => by kernel_rfl)
theorem F35_ok : FOK Tryz.prog n_F35 F35_sh F35_fo F35 :=
  fn_ok (E := F35_E) (F35_Eok) (told := F35_told) (fl := []) (c := bodyOf fn_F35) (s := F35_sh) (l := F35_fo) (tree := F35_t) fnat_F35 (by kernel_rfl) (by kernel_rfl) (by kernel_rfl) (loopsOK_of (ls := [loopAt (bodyOf fn_F35) [0]]) (by kernel_rfl) ⟨.inr ⟨_, by kernel_rfl, F35_L5_ok⟩, trivial⟩) (fun v => by kernel_rfl)

theorem F35_eq (q : List Int) (hl : q.length < 4611686018427387904) : F35 q = some (if rowed q then (mxI (frF q).flatten, true) else (0, false)) := by
  rw [F35, F35_t, T.run_sub, F80_eq q hl, Option.bind_some, T.run_test]
  cases h : rowed q with
  | false => rw [if_pos (by simp), T.run_ret]; rfl
  | true =>
    obtain ⟨h4, ds, hd⟩ := rowed_some h
    have hb := (trOf_bounds (l := q) (by rw [hd]; rfl)).1
    obtain ⟨f1, x, t, f2⟩ := frF_flat h4 (by omega)
    have inner : ∀ (row : List Int) (hr : row.length ≤ 100) (t14 t15 most : Int) (rs : List (List Int)), F35_L8 ((most, ((), (t14, (t15, (row, ((row.length : Int), (0 : Int))))))), rs) = some ((row.foldl mx2 most, ((), (t14, t15))), rs) := by
      intro row hr t14 t15 most rs
      have h := loop_fold (step := fun v => (F35_L8_step v).run) (xs := row) (fun _ (_ : Int) => True) (fun k s => ((s, ((), (t14, (t15, (row, ((row.length : Int), (k : Int))))))), rs)) mx2 (fun s => ((s, ((), (t14, t15))), rs))
        (fun k s y _ hy => by
          have hk := getElem?_lt hy
          have w1 : w64 ((k : Int) + 1) = ((k + 1 : Nat) : Int) := by rw [w64_id (by omega) (by omega)]; omega
          refine ⟨?_, trivial⟩
          rw [F35_L8_step, T.run_test, if_pos (decide_eq_true (by omega)), T.run_test, if_pos (decide_eq_true (by omega)), T.run_sub, Int.toNat_natCast, hy, Option.bind_some, T.run_sub, F78_eq, Option.bind_some, T.run_test, if_pos (by simp), T.run_ret, w1])
        (fun s _ => by rw [F35_L8_step, T.run_test, if_neg (by simp), T.run_test, if_pos (by simp), T.run_ret])
        most trivial
      exact h.1
    have outer := loop_fold (step := fun v => (F35_L5_step v).run) (xs := frF q) (fun _ (_ : Int) => True) (fun k s => ((s, ((), (((frF q).length : Int), (k : Int)))), frF q)) (fun s row => row.foldl mx2 s) (fun s => s)
      (fun k s row _ hy => by
        have hk := getElem?_lt hy
        have hk' := hk
        rw [frF_length] at hk'
        have hrow : row.length ≤ 100 := by
          rw [frF_get hk'] at hy
          rw [← Option.some.inj hy, rowF_length]; omega
        have w1 : w64 ((k : Int) + 1) = ((k + 1 : Nat) : Int) := by rw [w64_id (by omega) (by omega)]; omega
        refine ⟨?_, trivial⟩
        rw [F35_L5_step, T.run_test, if_pos (decide_eq_true (by omega)), T.run_test, if_pos (decide_eq_true (by omega)), T.run_sub, Nat.zero_add, Int.toNat_natCast, hy, Option.bind_some, T.run_test, if_pos (by simp), T.run_sub, inner row hrow, Option.bind_some, T.run_test, if_pos (by simp), T.run_ret, w1])
      (fun s _ => by rw [F35_L5_step, T.run_test, if_neg (by simp), T.run_ret])
      (0 : Int) trivial
    have h' : F35_L5 (((0 : Int), ((), (((frF q).length : Int), (0 : Int)))), frF q) = _ := outer.1
    rw [if_neg (by simp), T.run_sub, F103_eq hd, Option.bind_some, T.run_test, if_pos (by simp), T.run_sub, h', Option.bind_some, T.run_ret, ← List.foldl_flatten, f2, List.foldl_cons]
    have hx : 1 ≤ x := by
      have hm : x ∈ (frF q).flatten := by rw [f2]; simp
      obtain ⟨row, hr, hx⟩ := List.mem_flatten.1 hm
      obtain ⟨k, hk⟩ := List.getElem?_of_mem hr
      have hkl := getElem?_lt hk
      rw [frF_length] at hkl
      rw [frF_get hkl] at hk
      rw [← Option.some.inj hk] at hx
      unfold rowF at hx
      obtain ⟨i, _, e⟩ := List.mem_map.1 hx
      rw [← e]
      exact (en_pos hd _ (by omega) (by omega)).1
    have : mx2 0 x = x := by unfold mx2; rw [if_neg (by omega)]
    rw [this]
    rfl


def F38_sh : FSh := ⟨[(.one (.si .i64))], []⟩

def F38_L6_sh : LSh := ⟨(fun ex => match ex with | .norm => [(0, none), (3, none), (4, none), (5, none), (8, none), (9, none)] | .exit i => if i = 2 then [(0, none), (3, none), (8, none), (9, none)] else if i = 1 then [(0, none), (3, none), (8, none), (9, none)] else if i = 0 then [(3, none)] else [] | .ret => [(2, none)]), [(0, (.one (.si .i64))), (3, (.one (.rw 0 0))), (4, (.one (.si .i64))), (5, (.one (.si .i64))), (8, (.one (.si .i64))), (9, (.one (.si .i64)))], [(.row 0 (.pair (.int .i64) (.int .i64)))], [⟨(.exit 2), [(0, (.one (.si .i64))), (3, (.one (.rw 0 0))), (8, (.one (.si .i64))), (9, (.one (.si .i64)))], [(.row 0 (.pair (.int .i64) (.int .i64)))]⟩], [], []⟩
noncomputable def F38_L6_step : ((Int × Unit × Int × Int × Int × Int) × List ((Int × Int))) → T (((Int × Unit × Int × Int × Int × Int) × List ((Int × Int))) ⊕ ((Int × Unit × Int × Int) × List ((Int × Int)))) := fun ((n, (), low, high, t8, t9), out) =>
 (.test (decide (high < n))
 (.sub (F50 (n, (low, high))) fun z0 =>
 (.test z0
 (.test (decide (1 ≤ (List.length (List.set (List.replicate 1 ((0 : Int), (0 : Int))) 0 (low, high)))))
 (.test (decide ((0 + (List.length out)) ≤ (List.length out)))
 (.test (decide ((2 * (((List.length out) + (List.length (win (List.set (List.replicate 1 ((0 : Int), (0 : Int))) 0 (low, high)) 0 1))) * 17)) ≤ 140737488355328))
 (.test (decide ((0 = 0) ∧ (((List.length out) + (List.length (win (List.set (List.replicate 1 ((0 : Int), (0 : Int))) 0 (low, high)) 0 1))) = (List.length ((win out 0 (List.length out)) ++ (win (List.set (List.replicate 1 ((0 : Int), (0 : Int))) 0 (low, high)) 0 1))))))
 (.ret (Sum.inl ((n, ((), (low, ((w64 (high + 1)), (t8, t9))))), ((win out 0 (List.length out)) ++ (win (List.set (List.replicate 1 ((0 : Int), (0 : Int))) 0 (low, high)) 0 1)))))
 .fail)
 .fail)
 .fail)
 .fail)
 (.test (decide ((0 = 0) ∧ ((List.length out) = (List.length out))))
 (.ret (Sum.inl ((n, ((), (low, ((w64 (high + 1)), (t8, t9))))), out)))
 .fail)))
 (.test (decide ((0 = 0) ∧ ((List.length out) = (List.length out))))
 (.ret (Sum.inr ((n, ((), (t8, t9))), out)))
 .fail))
noncomputable def F38_L6 (v : ((Int × Unit × Int × Int × Int × Int) × List ((Int × Int)))) : Option ((Int × Unit × Int × Int) × List ((Int × Int))) := loopO (fun v => (F38_L6_step v).run) v

def F38_L3_sh : LSh := ⟨(fun ex => match ex with | .norm => [(0, none), (3, none), (8, none), (9, none)] | .exit i => if i = 0 then [(3, none)] else [] | .ret => [(2, none)]), [(0, (.one (.si .i64))), (3, (.one (.rw 0 0))), (8, (.one (.si .i64))), (9, (.one (.si .i64)))], [(.row 0 (.pair (.int .i64) (.int .i64)))], [⟨(.exit 0), [(3, (.one (.rw 0 0)))], [(.row 0 (.pair (.int .i64) (.int .i64)))]⟩], [], []⟩
noncomputable def F38_L3_step : ((Int × Unit × Int × Int) × List ((Int × Int))) → T (((Int × Unit × Int × Int) × List ((Int × Int))) ⊕ (Unit × List ((Int × Int)))) := fun ((n, (), t8, t9), out) =>
 (.test (decide (t9 < t8))
 (.test (decide ((0 = 0) ∧ ((List.length out) = (List.length out))))
 (.sub (F38_L6 ((n, ((), (t9, ((w64 (t9 + 1)), (t8, t9))))), out)) fun z0 =>
 (.test (decide ((0 = 0) ∧ ((List.length z0.2) = (List.length z0.2))))
 (.ret (Sum.inl ((z0.1.1, ((), (z0.1.2.2.1, (w64 (z0.1.2.2.2 + 1))))), z0.2)))
 .fail))
 .fail)
 (.test (decide ((0 = 0) ∧ ((List.length out) = (List.length out))))
 (.ret (Sum.inr ((), out)))
 .fail))
noncomputable def F38_L3 (v : ((Int × Unit × Int × Int) × List ((Int × Int)))) : Option (Unit × List ((Int × Int))) := loopO (fun v => (F38_L3_step v).run) v

def F38_fo : List FO := [⟨[(.one (.rw 0 0))], [(.row 0 (.pair (.int .i64) (.int .i64)))]⟩]
noncomputable def F38_t : Int → T (Unit × List ((Int × Int))) := fun n =>
 (.test true
 (.sub (F38_L3 ((n, ((), (n, (0 : Int)))), (List.replicate 0 ((0 : Int), (0 : Int))))) fun z0 =>
 (.test (decide ((0 = 0) ∧ ((List.length z0.2) = (List.length z0.2))))
 (.ret ((), z0.2))
 .fail))
 .fail)
noncomputable def F38 (v : Int) : Option (Unit × List ((Int × Int))) := (F38_t v).run
noncomputable def F38_E : TEnv := (E0.add1 n_F50 F50_sh F50_fo F50)
theorem F38_Eok : (F38_E).OK := (E0ok.add1 F50_ok)
noncomputable def F38_told : Nat → Option SealT := fun id => if id = 6 then some (LSh.told F38_L6_sh 0 (F38_L6_step)) else if id = 3 then some (LSh.told F38_L3_sh 0 (F38_L3_step)) else none
theorem F38_L6_ok : ToldOK Tryz.prog 0 (loopAt (bodyOf fn_F38) [0, 0]) (LSh.told F38_L6_sh 0 (F38_L6_step)) :=
  loop_ok (E := F38_E) (F38_Eok) (told := F38_told) (l := F38_L6_sh) (step := F38_L6_step) (loopsOK_of (ls := []) (by kernel_rfl) trivial) (by kernel_rfl) (fun v => by kernel_rfl)
theorem F38_L3_ok : ToldOK Tryz.prog 0 (loopAt (bodyOf fn_F38) [0]) (LSh.told F38_L3_sh 0 (F38_L3_step)) :=
  loop_ok (E := F38_E) (F38_Eok) (told := F38_told) (l := F38_L3_sh) (step := F38_L3_step) (loopsOK_of (ls := [loopAt (bodyOf fn_F38) [0, 0]]) (by kernel_rfl) ⟨.inr ⟨_, by kernel_rfl, F38_L6_ok⟩, trivial⟩) (by kernel_rfl) (fun v => by kernel_rfl)
theorem F38_ok : FOK Tryz.prog n_F38 F38_sh F38_fo F38 :=
  fn_ok (E := F38_E) (F38_Eok) (told := F38_told) (fl := []) (c := bodyOf fn_F38) (s := F38_sh) (l := F38_fo) (tree := F38_t) fnat_F38 (by kernel_rfl) (by kernel_rfl) (by kernel_rfl) (loopsOK_of (ls := [loopAt (bodyOf fn_F38) [0]]) (by kernel_rfl) ⟨.inr ⟨_, by kernel_rfl, F38_L3_ok⟩, trivial⟩) (fun v => by kernel_rfl)

theorem F38_row (n a : Nat) (t8 t9 : Int) (hn : n ≤ 1000) : ∀ (m b : Nat) (out : List Dg), b + m = n → out.length + m ≤ 1000000 →
    F38_L6 (((n : Int), ((), ((a : Int), ((b : Int), (t8, t9))))), out) = some (((n : Int), ((), (t8, t9))), out ++ rowD n a b)
  | 0, b, out, hb, ho => by
    have : b = n := by omega
    subst this
    rw [rowD_end, List.append_nil]
    simp only [F38_L6]
    exact loopO_done (by simp [F38_L6_step, T.run])
  | m + 1, b, out, hb, ho => by
    have c0 : (b : Int) < (n : Int) := by omega
    have w1 : w64 ((b : Int) + 1) = ((b + 1 : Nat) : Int) := by rw [w64_id (by omega) (by omega)]; omega
    have c1 : 2 * ((out.length + 1) * 17) ≤ 140737488355328 := by omega
    have hd := F50_eq (n : Int) ((a : Int), (b : Int)) (by omega) (by omega)
    rw [rowD_step (by omega : b < n)]
    cases hg : inDg n ((a : Int), (b : Int)) with
    | true =>
      have ih := F38_row n a t8 t9 hn m (b + 1) (out ++ [((a : Int), (b : Int))]) (by omega) (by simp; omega)
      simp only [F38_L6] at ih ⊢
      rw [hg] at hd
      have st : (F38_L6_step (((n : Int), ((), ((a : Int), ((b : Int), (t8, t9))))), out)).run = some (.inl (((n : Int), ((), ((a : Int), (((b + 1 : Nat) : Int), (t8, t9))))), out ++ [((a : Int), (b : Int))])) := by
        simp only [F38_L6_step, T.run, c0, hd, decide_true, if_true, Option.bind_some, win_one, win_all, List.length_cons, List.length_nil, Nat.zero_add, c1, w1, List.length_set, List.length_replicate, Nat.le_refl, List.length_append, true_and]
      rw [loopO_next st, ih]
      simp
    | false =>
      have ih := F38_row n a t8 t9 hn m (b + 1) out (by omega) (by omega)
      simp only [F38_L6] at ih ⊢
      rw [hg] at hd
      have st : (F38_L6_step (((n : Int), ((), ((a : Int), ((b : Int), (t8, t9))))), out)).run = some (.inl (((n : Int), ((), ((a : Int), (((b + 1 : Nat) : Int), (t8, t9))))), out)) := by
        simp only [F38_L6_step, T.run, c0, hd, decide_true, if_true, Option.bind_some, Bool.false_eq_true, if_false, w1, true_and]
      rw [loopO_next st, ih]
      simp
theorem F38_rows (n : Nat) (hn : n ≤ 12) : ∀ (m a : Nat) (out : List Dg), a + m = n → out.length ≤ 1000 * a →
    F38_L3 (((n : Int), ((), ((n : Int), (a : Int)))), out) = some ((), out ++ rowsD n a)
  | 0, a, out, ha, ho => by
    have : a = n := by omega
    subst this
    rw [rowsD_end, List.append_nil]
    simp only [F38_L3]
    exact loopO_done (by simp [F38_L3_step, T.run])
  | m + 1, a, out, ha, ho => by
    have c0 : (a : Int) < (n : Int) := by omega
    have w1 : w64 ((a : Int) + 1) = ((a + 1 : Nat) : Int) := by rw [w64_id (by omega) (by omega)]; omega
    have hr := F38_row n a (n : Int) (a : Int) (by omega) (n - (a + 1)) (a + 1) out (by omega) (by omega)
    rw [← rowD_front n a (a + 1) (by omega)] at hr
    have hl := rowD_len n a 0
    have ih := F38_rows n hn m (a + 1) (out ++ rowD n a 0) (by omega) (by rw [List.length_append]; omega)
    rw [rowsD_step (by omega : a < n), ← List.append_assoc]
    simp only [F38_L3] at ih ⊢
    rw [← ih]
    refine loopO_next ?_
    simp only [F38_L3_step, T.run, c0, decide_true, if_true, true_and, w1, hr, Option.bind_some]
theorem F38_eq (n : Nat) (hn : n ≤ 12) : F38 (n : Int) = some ((), dgL n) := by
  have h := F38_rows n hn n 0 [] (by omega) (by simp)
  have e : rowsD n 0 = dgL n := by unfold rowsD; rw [List.drop_zero, dgL_rows]
  rw [e, List.nil_append, Int.natCast_zero] at h
  simp only [F38, F38_t, T.run, List.replicate_zero, h, Option.bind_some]
  simp


def F61_sh : FSh := ⟨[(.ag [(.si .i64), (.si .i64)]), (.one (.pb (.list false (.int .i64))))], []⟩

def F61_fo : List FO := [⟨[(.one .sb)], []⟩]
noncomputable def F61_t : ((Int × Int) × List (Int)) → T Bool := fun ((d_0, d_1), t1) =>
 (.sub ([t1][0]?) fun z0 =>
 (.sub (F65 (z0, d_0)) fun z1 =>
 (.test (decide ((0 ≤ (w64 (d_1 - d_0))) ∧ ((w64 (d_1 - d_0)) < ((List.length z1.2) : Int))))
 (.sub (z1.2[(0 + (Int.toNat (w64 (d_1 - d_0))))]?) fun z2 =>
 (.ret (z2 != 1)))
 .fail)))
noncomputable def F61 (v : ((Int × Int) × List (Int))) : Option Bool := (F61_t v).run
noncomputable def F61_E : TEnv := (E0.add1 n_F65 F65_sh F65_fo F65)
theorem F61_Eok : (F61_E).OK := (E0ok.add1 F65_ok)
noncomputable def F61_told : Nat → Option SealT := fun id => none
theorem F61_ok : FOK Tryz.prog n_F61 F61_sh F61_fo F61 :=
  fn_ok (E := F61_E) (F61_Eok) (told := F61_told) (fl := []) (c := bodyOf fn_F61) (s := F61_sh) (l := F61_fo) (tree := F61_t) fnat_F61 (by kernel_rfl) (by kernel_rfl) (by kernel_rfl) (loopsOK_of (ls := []) (by kernel_rfl) trivial) (fun v => by kernel_rfl)

theorem F61_eq {q : List Int} {ds : List Dg} (h : trOf q = some ds) {d : Dg} (hd : inDg (q.length : Nat) d = true) : F61 (d, q) = some (!decide (en (qa q) d.1 (d.2 - d.1).toNat = 1)) := by
  have hb := (trOf_bounds (l := q) (by rw [h]; rfl)).1
  have hi := inDg_iff.1 hd
  obtain ⟨d1, d2⟩ := d
  simp only at hi
  have w : w64 (d2 - d1) = d2 - d1 := w64_id (by omega) (by omega)
  have e := ensL_get (q := q) (i := d1) (k := q.length + 1) (t := (d2 - d1).toNat) (by omega)
  rw [F61, F61_t, T.run_sub, List.getElem?_cons_zero, Option.bind_some, T.run_sub, F65_eq h d1 (by omega), Option.bind_some, w, T.run_test, if_pos (decide_eq_true (by rw [ensL_length]; omega)), T.run_sub, Nat.zero_add, e, Option.bind_some, T.run_ret]
  by_cases hx : en (qa q) d1 (d2 - d1).toNat = 1
  · simp [hx]
  · simp [hx]


def F7_sh : FSh := ⟨[(.one (.sl (.pair (.int .i64) (.int .i64)) false false)), (.clo n_F61 [(.one (.pb (.list false (.int .i64))))])], []⟩

def F7_L2_sh : LSh := ⟨(fun ex => match ex with | .norm => [(0, none), (1, none), (7, none), (8, none)] | .exit i => if i = 0 then [] else [] | .ret => [(4, none)]), [(0, (.one (.sl (.pair (.int .i64) (.int .i64)) false false))), (1, (.clo n_F61 [(.one (.pb (.list false (.int .i64))))])), (7, (.one (.si .i64))), (8, (.one (.si .i64)))], [], [⟨.ret, [(4, (.one (.si .i64)))], []⟩, ⟨(.exit 0), [], []⟩], [], []⟩
noncomputable def F7_L2_step : (List ((Int × Int)) × List (Int) × Int × Int) → T ((List ((Int × Int)) × List (Int) × Int × Int) ⊕ (Int ⊕ Unit)) := fun (s, f_0, t7, t8) =>
 (.test (decide (t8 < t7))
 (.test (decide ((0 ≤ t8) ∧ (t8 < ((List.length s) : Int))))
 (.sub (s[(Int.toNat t8)]?) fun z0 =>
 (.sub (F61 (z0, f_0)) fun z1 =>
 (.test z1
 (.ret (Sum.inr (Sum.inl t8)))
 (.ret (Sum.inl (s, (f_0, (t7, (w64 (t8 + 1))))))))))
 .fail)
 (.ret (Sum.inr (Sum.inr ()))))
noncomputable def F7_L2 (v : (List ((Int × Int)) × List (Int) × Int × Int)) : Option (Int ⊕ Unit) := loopO (fun v => (F7_L2_step v).run) v

def F7_fo : List FO := [⟨[(.one (.si .i64))], []⟩]
noncomputable def F7_t : (List ((Int × Int)) × List (Int)) → T Int := fun (s, f_0) =>
 (.sub (F7_L2 (s, (f_0, (((List.length s) : Int), (0 : Int))))) fun z0 =>
 (.test (Sum.isLeft z0)
 (.sub (Sum.getLeft? z0) fun z1 =>
 (.ret z1))
 (.sub (Sum.getRight? z0) fun z2 =>
 (.ret (-1)))))
noncomputable def F7 (v : (List ((Int × Int)) × List (Int))) : Option Int := (F7_t v).run
noncomputable def F7_E : TEnv := (E0.add1 n_F61 F61_sh F61_fo F61)
theorem F7_Eok : (F7_E).OK := (E0ok.add1 F61_ok)
noncomputable def F7_told : Nat → Option SealT := fun id => if id = 2 then some (LSh.told F7_L2_sh 0 (F7_L2_step)) else none
theorem F7_L2_ok : ToldOK Tryz.prog 0 (loopAt (bodyOf fn_F12) [0]) (LSh.told F7_L2_sh 0 (F7_L2_step)) :=
  loop_ok (E := F7_E) (F7_Eok) (told := F7_told) (l := F7_L2_sh) (step := F7_L2_step) (loopsOK_of (ls := []) (by kernel_rfl) trivial) (by kernel_rfl) (fun v => by kernel_rfl)
theorem F7_ok : FOK Tryz.prog n_F12 F7_sh F7_fo F7 :=
  fn_ok (E := F7_E) (F7_Eok) (told := F7_told) (fl := []) (c := bodyOf fn_F12) (s := F7_sh) (l := F7_fo) (tree := F7_t) fnat_F12 (by kernel_rfl) (by kernel_rfl) (by kernel_rfl) (loopsOK_of (ls := [loopAt (bodyOf fn_F12) [0]]) (by kernel_rfl) ⟨.inr ⟨_, by kernel_rfl, F7_L2_ok⟩, trivial⟩) (fun v => by kernel_rfl)

theorem F7_eq {q : List Int} {ds : List Dg} (h : trOf q = some ds) (s : List Dg) (hs : ∀ d ∈ s, inDg (q.length : Nat) d = true) (hl : s.length < 4611686018427387904) :
    F7 (s, q) = some (idxI (fun d => !decide (en (qa q) d.1 (d.2 - d.1).toNat = 1)) s) := by
  have hf := loop_find (step := fun v => (F7_L2_step v).run) (xs := s) (fun d => !decide (en (qa q) d.1 (d.2 - d.1).toNat = 1)) (fun k => (s, (q, ((s.length : Int), (k : Int))))) (fun k => .inl (k : Int)) (.inr ())
    (fun k d hd => by
      have hk := getElem?_lt hd
      have w1 : w64 ((k : Int) + 1) = ((k + 1 : Nat) : Int) := by rw [w64_id (by omega) (by omega)]; omega
      rw [F7_L2_step, T.run_test, if_pos (decide_eq_true (by omega)), T.run_test, if_pos (decide_eq_true (by omega)), T.run_sub, Int.toNat_natCast, hd, Option.bind_some, T.run_sub, F61_eq h (hs d (List.mem_of_getElem? hd)), Option.bind_some, T.run_test]
      cases (!decide (en (qa q) d.1 (d.2 - d.1).toNat = 1)) with
      | true => rfl
      | false => rw [if_neg (by simp), T.run_ret, w1]; rfl)
    (by rw [F7_L2_step, T.run_test, if_neg (by simp), T.run_ret])
  have hf' : F7_L2 (s, (q, ((s.length : Int), (0 : Int)))) = _ := hf
  rw [F7, F7_t, T.run_sub, hf', Option.bind_some]
  unfold idxI
  cases s.findIdx? (fun d => !decide (en (qa q) d.1 (d.2 - d.1).toNat = 1)) <;> rfl



theorem del_loop {X : Type} {step : ((Unit × X × Int × Int) × List Dg) → Option (((Unit × X × Int × Int) × List Dg) ⊕ ((Unit × Int) × List Dg))} (x : X) (keep : Dg → Bool) (o : List Dg)
    (h1 : ∀ (s : List Dg) (i j : Nat) (d : Dg), s.length = o.length → i < j → j < s.length → s[j]? = some d → d ∈ o → keep d = true → step (((), (x, ((i : Int), (j : Int)))), s) = some (.inl (((), (x, (((i + 1 : Nat) : Int), ((j + 1 : Nat) : Int)))), s.set i d)))
    (h2 : ∀ (s : List Dg) (i j : Nat) (d : Dg), s.length = o.length → i < j → j < s.length → s[j]? = some d → d ∈ o → keep d = false → step (((), (x, ((i : Int), (j : Int)))), s) = some (.inl (((), (x, ((i : Int), ((j + 1 : Nat) : Int)))), s)))
    (h3 : ∀ (s : List Dg) (i : Nat), s.length = o.length → step (((), (x, ((i : Int), (o.length : Int)))), s) = some (.inr (((), (i : Int)), s))) :
    ∀ (m j : Nat) (s : List Dg) (i : Nat), j + m = o.length → s.length = o.length → i < j → s.take i = (o.take j).filter keep → s.drop j = o.drop j →
    ∃ (i' : Nat) (s' : List Dg), s'.length = o.length ∧ i' < o.length ∧ s'.take i' = o.filter keep ∧ loopO step (((), (x, ((i : Int), (j : Int)))), s) = some (((), (i' : Int)), s')
  | 0, j, s, i, hj, hs, hi, e1, e2 => by
    obtain rfl : j = o.length := by omega
    rw [List.take_length] at e1
    exact ⟨i, s, hs, hi, e1, loopO_done (h3 s i hs)⟩
  | m + 1, j, s, i, hj, hs, hi, e1, e2 => by
    have hlt : j < s.length := by omega
    have hlo : j < o.length := by omega
    have he : s[j] = o[j] := by
      rw [List.drop_eq_getElem_cons hlt, List.drop_eq_getElem_cons hlo] at e2
      exact (List.cons.inj e2).1
    have e2' : s.drop (j + 1) = o.drop (j + 1) := by
      rw [List.drop_eq_getElem_cons hlt, List.drop_eq_getElem_cons hlo] at e2
      exact (List.cons.inj e2).2
    have hg : s[j]? = some o[j] := by rw [List.getElem?_eq_getElem hlt, he]
    have htake : o.take (j + 1) = o.take j ++ [o[j]] := List.take_succ_eq_append_getElem hlo
    cases hf : keep o[j] with
    | true =>
      have e1' : (s.set i o[j]).take (i + 1) = (o.take (j + 1)).filter keep := by
        rw [List.take_succ_eq_append_getElem (by simp; omega), List.getElem_set_self, List.take_set_of_le (Nat.le_refl _), e1, htake, List.filter_append]
        simp [hf]
      rw [loopO_next (h1 s i j o[j] hs hi hlt hg (List.getElem_mem hlo) hf)]
      exact del_loop x keep o h1 h2 h3 m (j + 1) (s.set i o[j]) (i + 1) (by omega) (by simpa using hs) (by omega) e1' (by rw [List.drop_set_of_lt (by omega)]; exact e2')
    | false =>
      have e1' : s.take i = (o.take (j + 1)).filter keep := by
        rw [e1, htake, List.filter_append]
        simp [hf]
      rw [loopO_next (h2 s i j o[j] hs hi hlt hg (List.getElem_mem hlo) hf)]
      exact del_loop x keep o h1 h2 h3 m (j + 1) s i (by omega) hs (by omega) e1' e2'
def delT (idx : Option Int) (lp : Int → Int → Option ((Unit × Int) × List Dg)) (s : List Dg) : T ((Nat × Nat) × List Dg) :=
  (.test (decide ((0 + (List.length s)) ≤ (List.length s)))
  (.sub idx fun z0 =>
   (.test (z0 == (-1))
   (.ret ((0, (List.length s)), s))
   (.test (decide ((0 = 0) ∧ ((List.length s) = (List.length s))))
    (.sub (lp z0 (w64 (z0 + 1))) fun z1 =>
     (.test (decide (0 ≤ z1.1.2))
     (.test (decide (((Int.toNat z1.1.2) ≤ (List.length z1.2)) ∧ ((List.length z1.2) ≤ (List.length z1.2))))
      (.test (decide ((0 < ((List.length z1.2) - (Int.toNat z1.1.2))) ∧ (((0 + (Int.toNat z1.1.2)) + ((List.length z1.2) - (Int.toNat z1.1.2))) ≤ (List.length z1.2))))
       (.test (decide (0 ≤ z1.1.2))
        (.test (decide ((0 ≤ (Int.toNat z1.1.2)) ∧ ((Int.toNat z1.1.2) ≤ (List.length z1.2))))
         (.ret ((0, ((Int.toNat z1.1.2) - 0)), (spliceT z1.2 (0 + (Int.toNat z1.1.2)) (List.replicate ((List.length z1.2) - (Int.toNat z1.1.2)) ((0 : Int), (0 : Int))))))
         .fail)
        .fail)
       .fail)
      .fail)
     .fail))
    .fail)))
  .fail)
def delM : ((Nat × Nat) × List Dg) → T (Unit × List Dg) := fun ((o, n), r0) => .test (decide (o = 0 ∧ n ≤ (List.length r0))) (.ret ((), (List.take n r0))) .fail
theorem del_all {s : List Dg} (keep : Dg → Bool) (hl : s.length < 4611686018427387904) {idx : Option Int} {lp : Int → Int → Option ((Unit × Int) × List Dg)} (hi : idx = some (idxI (fun d => !keep d) s))
    (hlp : ∀ i : Nat, i < s.length → s.take i = (s.take (i + 1)).filter keep → ∃ (i' : Nat) (s' : List Dg), s'.length = s.length ∧ i' < s.length ∧ s'.take i' = s.filter keep ∧ lp (i : Int) ((i + 1 : Nat) : Int) = some (((), (i' : Int)), s')) :
    (delT idx lp s).run.bind (fun o => (delM o).run) = some ((), s.filter keep) := by
  subst hi
  unfold delT
  rw [T.run_test, if_pos (by simp), T.run_sub, Option.bind_some, T.run_test]
  unfold idxI
  cases hf : s.findIdx? (fun q => !keep q) with
  | none =>
    have hall : s.filter keep = s := by
      rw [List.filter_eq_self]
      intro x hx
      have := List.findIdx?_eq_none_iff.1 hf x hx
      simpa using this
    dsimp only
    rw [if_pos (show ((-1 : Int) == -1) = true from rfl), T.run_ret, hall, Option.bind_some, delM, T.run_test, if_pos (by simp), T.run_ret, List.take_length]
  | some i =>
    obtain ⟨h1, h2, h3⟩ := List.findIdx?_eq_some_iff_getElem.1 hf
    have ht : s.take i = (s.take (i + 1)).filter keep := by
      rw [List.take_succ_eq_append_getElem h1, List.filter_append]
      have : [s[i]].filter keep = [] := by simp at h2; simp [h2]
      rw [this, List.append_nil]
      symm
      rw [List.filter_eq_self]
      intro x hx
      obtain ⟨j, hj, e⟩ := List.mem_take_iff_getElem.1 hx
      have := h3 j (by omega)
      rw [e] at this
      simpa using this
    obtain ⟨i', s', r1, r2, r3, r4⟩ := hlp i h1 ht
    have w1 : w64 ((i : Int) + 1) = ((i + 1 : Nat) : Int) := by rw [w64_id (by omega) (by omega)]; omega
    have hsp : (spliceT s' i' (List.replicate (s'.length - i') ((0 : Int), (0 : Int)))).take i' = s.filter keep := by
      unfold spliceT
      rw [List.take_append_of_le_length (by rw [List.length_take]; omega), List.take_take, Nat.min_self, r3]
    have hspl : i' ≤ (spliceT s' i' (List.replicate (s'.length - i') ((0 : Int), (0 : Int)))).length := by
      unfold spliceT
      simp only [List.length_append, List.length_take, List.length_replicate, List.length_drop]
      omega
    dsimp only
    rw [if_neg (by rw [beq_iff_eq]; omega), T.run_test, if_pos (by simp), T.run_sub, w1, r4, Option.bind_some]
    dsimp only
    rw [T.run_test, if_pos (decide_eq_true (by omega)), T.run_test]
    simp only [Int.toNat_natCast, Nat.zero_add, Nat.sub_zero]
    rw [if_pos (decide_eq_true (by omega)), T.run_test, if_pos (decide_eq_true (by omega)), T.run_test, if_pos (decide_eq_true (by omega)), T.run_test, if_pos (decide_eq_true (by omega)), T.run_ret, Option.bind_some, delM, T.run_test, if_pos (decide_eq_true ⟨rfl, hspl⟩), T.run_ret, hsp]


def F6_sh : FSh := ⟨[(.one (.rw 0 0)), (.clo n_F61 [(.one (.pb (.list false (.int .i64))))])], [(.row 0 (.pair (.int .i64) (.int .i64)))]⟩

def F6_L5_sh : LSh := ⟨(fun ex => match ex with | .norm => [(0, none), (1, none), (5, none), (6, none)] | .exit i => if i = 0 then [(0, none), (5, none)] else [] | .ret => [(4, none)]), [(0, (.one (.rw 0 0))), (1, (.clo n_F61 [(.one (.pb (.list false (.int .i64))))])), (5, (.one (.si .i64))), (6, (.one (.si .i64)))], [(.row 0 (.pair (.int .i64) (.int .i64)))], [⟨(.exit 0), [(0, (.one (.rw 0 0))), (5, (.one (.si .i64)))], [(.row 0 (.pair (.int .i64) (.int .i64)))]⟩], [], []⟩
noncomputable def F6_L5_step : ((Unit × List (Int) × Int × Int) × List ((Int × Int))) → T (((Unit × List (Int) × Int × Int) × List ((Int × Int))) ⊕ ((Unit × Int) × List ((Int × Int)))) := fun (((), del_0, i, j), s) =>
 (.test (decide (j < ((List.length s) : Int)))
 (.test (decide ((0 ≤ j) ∧ (j < ((List.length s) : Int))))
 (.sub (s[(0 + (Int.toNat j))]?) fun z0 =>
 (.sub (F61 (z0, del_0)) fun z1 =>
 (.test (! z1)
 (.test (decide ((0 ≤ i) ∧ (i < ((List.length s) : Int))))
 (.sub (s[(0 + (Int.toNat i))]?) fun z2 =>
 (.test (decide ((0 = 0) ∧ ((List.length s) = (List.length (List.set s (0 + (Int.toNat i)) z0)))))
 (.ret (Sum.inl (((), (del_0, ((w64 (i + 1)), (w64 (j + 1))))), (List.set s (0 + (Int.toNat i)) z0))))
 .fail))
 .fail)
 (.test (decide ((0 = 0) ∧ ((List.length s) = (List.length s))))
 (.ret (Sum.inl (((), (del_0, (i, (w64 (j + 1))))), s)))
 .fail))))
 .fail)
 (.test (decide ((0 = 0) ∧ ((List.length s) = (List.length s))))
 (.ret (Sum.inr (((), i), s)))
 .fail))
noncomputable def F6_L5 (v : ((Unit × List (Int) × Int × Int) × List ((Int × Int)))) : Option ((Unit × Int) × List ((Int × Int))) := loopO (fun v => (F6_L5_step v).run) v

def F6_w_fo : List FO := [⟨[(.one (.rf 0 0))], [(.row 0 (.pair (.int .i64) (.int .i64)))]⟩]
noncomputable def F6_t : ((Unit × List (Int)) × List ((Int × Int))) → T ((Nat × Nat) × List ((Int × Int))) := fun (((), del_0), s) =>
 (.test (decide ((0 + (List.length s)) ≤ (List.length s)))
 (.sub (F7 ((win s 0 (List.length s)), del_0)) fun z0 =>
 (.test (z0 == (-1))
 (.ret ((0, (List.length s)), s))
 (.test (decide ((0 = 0) ∧ ((List.length s) = (List.length s))))
 (.sub (F6_L5 (((), (del_0, (z0, (w64 (z0 + 1))))), s)) fun z1 =>
 (.test (decide (0 ≤ z1.1.2))
 (.test (decide (((Int.toNat z1.1.2) ≤ (List.length z1.2)) ∧ ((List.length z1.2) ≤ (List.length z1.2))))
 (.test (decide ((0 < ((List.length z1.2) - (Int.toNat z1.1.2))) ∧ (((0 + (Int.toNat z1.1.2)) + ((List.length z1.2) - (Int.toNat z1.1.2))) ≤ (List.length z1.2))))
 (.test (decide (0 ≤ z1.1.2))
 (.test (decide ((0 ≤ (Int.toNat z1.1.2)) ∧ ((Int.toNat z1.1.2) ≤ (List.length z1.2))))
 (.ret ((0, ((Int.toNat z1.1.2) - 0)), (spliceT z1.2 (0 + (Int.toNat z1.1.2)) (List.replicate ((List.length z1.2) - (Int.toNat z1.1.2)) ((0 : Int), (0 : Int))))))
 .fail)
 .fail)
 .fail)
 .fail)
 .fail))
 .fail)))
 .fail)
noncomputable def F6_w (v : ((Unit × List (Int)) × List ((Int × Int)))) : Option ((Nat × Nat) × List ((Int × Int))) := (F6_t v).run
noncomputable def F6_E : TEnv := ((E0.add1 n_F12 F7_sh F7_fo F7).add1 n_F61 F61_sh F61_fo F61)
theorem F6_Eok : (F6_E).OK := ((E0ok.add1 F7_ok).add1 F61_ok)
noncomputable def F6_told : Nat → Option SealT := fun id => if id = 5 then some (LSh.told F6_L5_sh 1 (F6_L5_step)) else none
theorem F6_L5_ok : ToldOK Tryz.prog 1 (loopAt (bodyOf fn_F11) [0]) (LSh.told F6_L5_sh 1 (F6_L5_step)) :=
  loop_ok (E := F6_E) (F6_Eok) (told := F6_told) (l := F6_L5_sh) (step := F6_L5_step) (loopsOK_of (ls := []) (by kernel_rfl) trivial) (by kernel_rfl) (fun v => by kernel_rfl)
theorem F6_w_ok : FOK Tryz.prog n_F11 F6_sh F6_w_fo F6_w :=
  fn_ok (E := F6_E) (F6_Eok) (told := F6_told) (fl := []) (c := bodyOf fn_F11) (s := F6_sh) (l := F6_w_fo) (tree := F6_t) fnat_F11 (by kernel_rfl) (by kernel_rfl) (by kernel_rfl) (loopsOK_of (ls := [loopAt (bodyOf fn_F11) [0]]) (by kernel_rfl) ⟨.inr ⟨_, by kernel_rfl, F6_L5_ok⟩, trivial⟩) (fun v => by kernel_rfl)
def F6_fo : List FO := [⟨[(.one (.rw 0 0))], [(.row 0 (.pair (.int .i64) (.int .i64)))]⟩]
def F6_m : ((Nat × Nat) × List ((Int × Int))) → T (Unit × List ((Int × Int))) := fun ((o, n), r0) => .test (decide (o = 0 ∧ n ≤ (List.length r0))) (.ret ((), (List.take n r0))) .fail
noncomputable def F6 (v : ((Unit × List (Int)) × List ((Int × Int)))) : Option (Unit × List ((Int × Int))) := (F6_w v).bind fun o => (F6_m o).run
theorem F6_ok : FOK Tryz.prog n_F11 F6_sh F6_fo F6 :=
  FOK.trunc (l' := F6_fo) F6_w_ok F6_m (fun o => by kernel_rfl)

theorem F6_eq {q : List Int} {ds : List Dg} (h : trOf q = some ds) (s : List Dg) (hs : ∀ d ∈ s, inDg (q.length : Nat) d = true) (hl : s.length < 4611686018427387904) :
    F6 (((), q), s) = some ((), s.filter (fun d => decide (en (qa q) d.1 (d.2 - d.1).toNat = 1))) := by
  have hi := F7_eq h s hs hl
  refine Eq.trans ?_ (del_all (s := s) (fun d => decide (en (qa q) d.1 (d.2 - d.1).toNat = 1)) hl (idx := F7 (win s 0 s.length, q)) (lp := fun i j => F6_L5 (((), (q, (i, j))), s)) (by rw [win_all]; exact hi) fun i hi ht => ?_)
  · rfl
  · refine del_loop (step := fun v => (F6_L5_step v).run) q (fun d => decide (en (qa q) d.1 (d.2 - d.1).toNat = 1)) s ?_ ?_ ?_ (s.length - (i + 1)) (i + 1) s i (by omega) rfl (by omega) ht rfl
    · intro s' i j d hs' hij hj hd hm hk
      have w1 : w64 ((i : Int) + 1) = ((i + 1 : Nat) : Int) := by rw [w64_id (by omega) (by omega)]; omega
      have w2 : w64 ((j : Int) + 1) = ((j + 1 : Nat) : Int) := by rw [w64_id (by omega) (by omega)]; omega
      rw [F6_L5_step, T.run_test, if_pos (decide_eq_true (by omega)), T.run_test, if_pos (decide_eq_true (by omega)), T.run_sub, Nat.zero_add, Int.toNat_natCast, hd, Option.bind_some, T.run_sub, F61_eq h (hs d hm), hk, Option.bind_some, T.run_test, if_pos (by simp), T.run_test, if_pos (decide_eq_true (by omega)), T.run_sub, Nat.zero_add, Int.toNat_natCast, List.getElem?_eq_getElem (show i < s'.length by omega), Option.bind_some, T.run_test, if_pos (by simp), T.run_ret, w1, w2]
    · intro s' i j d hs' hij hj hd hm hk
      have w2 : w64 ((j : Int) + 1) = ((j + 1 : Nat) : Int) := by rw [w64_id (by omega) (by omega)]; omega
      rw [F6_L5_step, T.run_test, if_pos (decide_eq_true (by omega)), T.run_test, if_pos (decide_eq_true (by omega)), T.run_sub, Nat.zero_add, Int.toNat_natCast, hd, Option.bind_some, T.run_sub, F61_eq h (hs d hm), hk, Option.bind_some, T.run_test, if_neg (by simp), T.run_test, if_pos (by simp), T.run_ret, w2]
    · intro s' i hs'
      rw [F6_L5_step, T.run_test, if_neg (by rw [decide_eq_true_eq]; omega), T.run_test, if_pos (by simp), T.run_ret]


def F82_sh : FSh := ⟨[(.one (.sl (.int .i64) false false))], []⟩

def F82_fo : List FO := [⟨[(.one (.rw 0 0)), (.one .sb)], [(.row 0 (.pair (.int .i64) (.int .i64)))]⟩]
noncomputable def F82_t : List (Int) → T ((Unit × Bool) × List ((Int × Int))) := fun quiddity =>
 (.sub (F51 quiddity) fun z0 =>
 (.test (! z0)
 (.test true
 (.ret (((), false), ([] : List (Int × Int))))
 .fail)
 (.sub (F38 ((List.length quiddity) : Int)) fun z1 =>
 (.test (decide ((0 = 0) ∧ ((List.length z1.2) = (List.length z1.2))))
 (.sub (F6 (((), quiddity), z1.2)) fun z2 =>
 (.test (decide ((0 = 0) ∧ ((List.length z2.2) = (List.length z2.2))))
 (.ret (((), true), z2.2))
 .fail))
 .fail))))
noncomputable def F82 (v : List (Int)) : Option ((Unit × Bool) × List ((Int × Int))) := (F82_t v).run
noncomputable def F82_E : TEnv := (((E0.add1 n_F51 F51_sh F51_fo F51).add1 n_F38 F38_sh F38_fo F38).add1 n_F11 F6_sh F6_fo F6)
theorem F82_Eok : (F82_E).OK := (((E0ok.add1 F51_ok).add1 F38_ok).add1 F6_ok)
noncomputable def F82_told : Nat → Option SealT := fun id => none
theorem F82_ok : FOK Tryz.prog n_F82 F82_sh F82_fo F82 :=
  fn_ok (E := F82_E) (F82_Eok) (told := F82_told) (fl := []) (c := bodyOf fn_F82) (s := F82_sh) (l := F82_fo) (tree := F82_t) fnat_F82 (by kernel_rfl) (by kernel_rfl) (by kernel_rfl) (loopsOK_of (ls := []) (by kernel_rfl) trivial) (fun v => by kernel_rfl)

theorem F82_eq (q : List Int) (hl : q.length < 4611686018427387904) : F82 q = some (match trOf q with | some ds => (((), true), ds) | none => (((), false), [])) := by
  rw [F82, F82_t, T.run_sub, F51_eq q hl, Option.bind_some, T.run_test]
  cases h : trOf q with
  | none => rfl
  | some ds =>
    have hb := (trOf_bounds (l := q) (by rw [h]; rfl)).1
    have hdl : (dgL q.length).length < 4611686018427387904 := by
      have : ∀ n, n ≤ 12 → (dgL n).length ≤ 100 := by decide +kernel
      have := this q.length hb.2
      omega
    have hD := F6_eq h (dgL q.length) (fun d hd => mem_dgL_iff.1 hd) hdl
    rw [ones_list h] at hD
    rw [if_neg (by simp), T.run_sub, F38_eq q.length hb.2, Option.bind_some, T.run_test, if_pos (by simp), T.run_sub, hD, Option.bind_some, T.run_test, if_pos (by simp), T.run_ret]


def F83_sh : FSh := ⟨[(.one (.sl (.int .i64) false false))], []⟩

def F83_L9_sh : LSh := ⟨(fun ex => match ex with | .norm => [(0, none), (4, none), (5, none), (6, none), (7, none)] | .exit i => if i = 2 then [(0, none), (4, none), (5, none), (6, none)] else if i = 1 then [(0, none), (4, none), (5, none), (6, none)] else if i = 0 then [(5, none)] else [] | .ret => [(2, none), (3, none)]), [(0, (.one (.sl (.int .i64) false false))), (4, (.one (.si .i64))), (5, (.one (.rw 0 0))), (6, (.one (.si .i64))), (7, (.one (.si .i64)))], [(.row 0 (.pair (.int .i64) (.int .i64)))], [⟨(.exit 2), [(0, (.one (.sl (.int .i64) false false))), (4, (.one (.si .i64))), (5, (.one (.rw 0 0))), (6, (.one (.si .i64)))], [(.row 0 (.pair (.int .i64) (.int .i64)))]⟩], [], []⟩
noncomputable def F83_L9_step : ((List (Int) × Int × Unit × Int × Int) × List ((Int × Int))) → T (((List (Int) × Int × Unit × Int × Int) × List ((Int × Int))) ⊕ ((List (Int) × Int × Unit × Int) × List ((Int × Int)))) := fun ((quiddity, n, (), a, b), out) =>
 (.test (decide (b < n))
 (.test (decide ((w64 (b - a)) ≤ (w64 (n - 2))))
 (.sub (F67 (quiddity, (a, b))) fun z0 =>
 (.test (z0 == 1)
 (.test (decide (1 ≤ 1))
 (.test (decide ((0 + (List.length out)) ≤ (List.length out)))
 (.test (decide ((2 * (((List.length out) + 1) * 17)) ≤ 140737488355328))
 (.test (decide ((0 = 0) ∧ (((List.length out) + 1) = (List.length ((win out 0 (List.length out)) ++ [(a, b)])))))
 (.ret (Sum.inl ((quiddity, (n, ((), (a, (w64 (b + 1)))))), ((win out 0 (List.length out)) ++ [(a, b)]))))
 .fail)
 .fail)
 .fail)
 .fail)
 (.test (decide ((0 = 0) ∧ ((List.length out) = (List.length out))))
 (.ret (Sum.inl ((quiddity, (n, ((), (a, (w64 (b + 1)))))), out)))
 .fail)))
 (.test (decide ((0 = 0) ∧ ((List.length out) = (List.length out))))
 (.ret (Sum.inl ((quiddity, (n, ((), (a, (w64 (b + 1)))))), out)))
 .fail))
 (.test (decide ((0 = 0) ∧ ((List.length out) = (List.length out))))
 (.ret (Sum.inr ((quiddity, (n, ((), a))), out)))
 .fail))
noncomputable def F83_L9 (v : ((List (Int) × Int × Unit × Int × Int) × List ((Int × Int)))) : Option ((List (Int) × Int × Unit × Int) × List ((Int × Int))) := loopO (fun v => (F83_L9_step v).run) v

def F83_L6_sh : LSh := ⟨(fun ex => match ex with | .norm => [(0, none), (4, none), (5, none), (6, none)] | .exit i => if i = 0 then [(5, none)] else [] | .ret => [(2, none), (3, none)]), [(0, (.one (.sl (.int .i64) false false))), (4, (.one (.si .i64))), (5, (.one (.rw 0 0))), (6, (.one (.si .i64)))], [(.row 0 (.pair (.int .i64) (.int .i64)))], [⟨(.exit 0), [(5, (.one (.rw 0 0)))], [(.row 0 (.pair (.int .i64) (.int .i64)))]⟩], [], []⟩
noncomputable def F83_L6_step : ((List (Int) × Int × Unit × Int) × List ((Int × Int))) → T (((List (Int) × Int × Unit × Int) × List ((Int × Int))) ⊕ (Unit × List ((Int × Int)))) := fun ((quiddity, n, (), a), out) =>
 (.test (decide (a < n))
 (.test (decide ((0 = 0) ∧ ((List.length out) = (List.length out))))
 (.sub (F83_L9 ((quiddity, (n, ((), (a, (w64 (a + 2)))))), out)) fun z0 =>
 (.test (decide ((0 = 0) ∧ ((List.length z0.2) = (List.length z0.2))))
 (.ret (Sum.inl ((z0.1.1, (z0.1.2.1, ((), (w64 (z0.1.2.2.2 + 1))))), z0.2)))
 .fail))
 .fail)
 (.test (decide ((0 = 0) ∧ ((List.length out) = (List.length out))))
 (.ret (Sum.inr ((), out)))
 .fail))
noncomputable def F83_L6 (v : ((List (Int) × Int × Unit × Int) × List ((Int × Int)))) : Option (Unit × List ((Int × Int))) := loopO (fun v => (F83_L6_step v).run) v

def F83_fo : List FO := [⟨[(.one (.rw 0 0)), (.one .sb)], [(.row 0 (.pair (.int .i64) (.int .i64)))]⟩]
noncomputable def F83_t : List (Int) → T ((Unit × Bool) × List ((Int × Int))) := fun quiddity =>
 (.sub (F52 quiddity) fun z0 =>
 (.test (! z0)
 (.test true
 (.ret (((), false), ([] : List (Int × Int))))
 .fail)
 (.test true
 (.sub (F83_L6 ((quiddity, (((List.length quiddity) : Int), ((), (0 : Int)))), ([] : List (Int × Int)))) fun z1 =>
 (.test (decide ((0 = 0) ∧ ((List.length z1.2) = (List.length z1.2))))
 (.ret (((), true), z1.2))
 .fail))
 .fail)))
noncomputable def F83 (v : List (Int)) : Option ((Unit × Bool) × List ((Int × Int))) := (F83_t v).run
noncomputable def F83_E : TEnv := ((E0.add1 n_F52 F52_sh F52_fo F52).add1 n_F67 F67_sh F67_fo F67)
theorem F83_Eok : (F83_E).OK := ((E0ok.add1 F52_ok).add1 F67_ok)
noncomputable def F83_told : Nat → Option SealT := fun id => if id = 9 then some (LSh.told F83_L9_sh 0 (F83_L9_step)) else if id = 6 then some (LSh.told F83_L6_sh 0 (F83_L6_step)) else none
theorem F83_L9_ok : ToldOK Tryz.prog 0 (loopAt (bodyOf fn_F83) [0, 0]) (LSh.told F83_L9_sh 0 (F83_L9_step)) :=
  loop_ok (E := F83_E) (F83_Eok) (told := F83_told) (l := F83_L9_sh) (step := F83_L9_step) (loopsOK_of (ls := []) (by kernel_rfl) trivial) (by kernel_rfl) (fun v => by kernel_rfl)
theorem F83_L6_ok : ToldOK Tryz.prog 0 (loopAt (bodyOf fn_F83) [0]) (LSh.told F83_L6_sh 0 (F83_L6_step)) :=
  loop_ok (E := F83_E) (F83_Eok) (told := F83_told) (l := F83_L6_sh) (step := F83_L6_step) (loopsOK_of (ls := [loopAt (bodyOf fn_F83) [0, 0]]) (by kernel_rfl) ⟨.inr ⟨_, by kernel_rfl, F83_L9_ok⟩, trivial⟩) (by kernel_rfl) (fun v => by kernel_rfl)
theorem F83_ok : FOK Tryz.prog n_F83 F83_sh F83_fo F83 :=
  fn_ok (E := F83_E) (F83_Eok) (told := F83_told) (fl := []) (c := bodyOf fn_F83) (s := F83_sh) (l := F83_fo) (tree := F83_t) fnat_F83 (by kernel_rfl) (by kernel_rfl) (by kernel_rfl) (loopsOK_of (ls := [loopAt (bodyOf fn_F83) [0]]) (by kernel_rfl) ⟨.inr ⟨_, by kernel_rfl, F83_L6_ok⟩, trivial⟩) (fun v => by kernel_rfl)

theorem F83_row {q : List Int} {ds : List Dg} (h : trOf q = some ds) (a : Nat) (ha : a < q.length) : ∀ (m b : Nat) (out : List Dg), b + m = q.length → a + 2 ≤ b → out.length + m ≤ 1000000 →
    F83_L9 ((q, ((q.length : Int), ((), ((a : Int), (b : Int))))), out) = some ((q, ((q.length : Int), ((), (a : Int)))), out ++ (rowD q.length a b).filter (fun d => decide (en (qa q) d.1 (d.2 - d.1).toNat = 1)))
  | 0, b, out, hb, hab, ho => by
    obtain rfl : b = q.length := by omega
    rw [rowD_end, List.filter_nil, List.append_nil]
    simp only [F83_L9]
    refine loopO_done ?_
    rw [F83_L9_step, T.run_test, if_neg (by simp), T.run_test, if_pos (by simp), T.run_ret]
  | m + 1, b, out, hb, hab, ho => by
    have hn := (trOf_bounds (l := q) (by rw [h]; rfl)).1
    have w1 : w64 ((b : Int) + 1) = ((b + 1 : Nat) : Int) := by rw [w64_id (by omega) (by omega)]; omega
    have w2 : w64 ((b : Int) - a) = (b : Int) - a := w64_id (by omega) (by omega)
    have w3 : w64 ((q.length : Int) - 2) = (q.length : Int) - 2 := w64_id (by omega) (by omega)
    rw [rowD_step (by omega : b < q.length)]
    by_cases hc : (b : Int) - a ≤ (q.length : Int) - 2
    · have hg : inDg (q.length : Nat) ((a : Int), (b : Int)) = true := inDg_iff.2 (by simp only; omega)
      have he := F67_eq h (a : Int) (by omega) (b - a) (by omega)
      rw [show (a : Int) + ((b - a : Nat) : Int) = (b : Int) by omega] at he
      rw [if_pos hg, List.cons_append, List.nil_append, List.filter_cons]
      simp only [show ((b : Int) - (a : Int)).toNat = b - a by omega]
      by_cases hone : en (qa q) (a : Int) (b - a) = 1
      · rw [if_pos (decide_eq_true hone), List.append_cons]
        rw [← F83_row h a ha m (b + 1) (out ++ [((a : Int), (b : Int))]) (by omega) (by omega) (by rw [List.length_append, List.length_singleton]; omega)]
        simp only [F83_L9]
        refine loopO_next ?_
        rw [F83_L9_step, T.run_test, if_pos (decide_eq_true (by omega)), T.run_test, if_pos (decide_eq_true (by omega)), T.run_sub, he, Option.bind_some, T.run_test, if_pos (by rw [hone]; rfl)]
        simp only [win_all]
        rw [T.run_test, if_pos (by simp), T.run_test, if_pos (by simp), T.run_test, if_pos (decide_eq_true (by omega)), T.run_test, if_pos (decide_eq_true (by simp)), T.run_ret, w1]
      · rw [if_neg (by rw [decide_eq_true_eq]; exact hone)]
        rw [← F83_row h a ha m (b + 1) out (by omega) (by omega) (by omega)]
        simp only [F83_L9]
        refine loopO_next ?_
        rw [F83_L9_step, T.run_test, if_pos (decide_eq_true (by omega)), T.run_test, if_pos (decide_eq_true (by omega)), T.run_sub, he, Option.bind_some, T.run_test, if_neg (by rw [beq_iff_eq]; exact hone), T.run_test, if_pos (by simp), T.run_ret, w1]
    · have hg : ¬ inDg (q.length : Nat) ((a : Int), (b : Int)) = true := fun x => by have := inDg_iff.1 x; simp only at this; omega
      rw [if_neg hg, List.nil_append]
      rw [← F83_row h a ha m (b + 1) out (by omega) (by omega) (by omega)]
      simp only [F83_L9]
      refine loopO_next ?_
      rw [F83_L9_step, T.run_test, if_pos (decide_eq_true (by omega)), T.run_test, if_neg (by rw [decide_eq_true_eq]; omega), T.run_test, if_pos (by simp), T.run_ret, w1]
theorem F83_rows {q : List Int} {ds : List Dg} (h : trOf q = some ds) : ∀ (m a : Nat) (out : List Dg), a + m = q.length → out.length ≤ 1000 * a →
    F83_L6 ((q, ((q.length : Int), ((), (a : Int)))), out) = some ((), out ++ (rowsD q.length a).filter (fun d => decide (en (qa q) d.1 (d.2 - d.1).toNat = 1)))
  | 0, a, out, ha, ho => by
    obtain rfl : a = q.length := by omega
    rw [rowsD_end, List.filter_nil, List.append_nil]
    simp only [F83_L6]
    refine loopO_done ?_
    rw [F83_L6_step, T.run_test, if_neg (by simp), T.run_test, if_pos (by simp), T.run_ret]
  | m + 1, a, out, ha, ho => by
    have hn := (trOf_bounds (l := q) (by rw [h]; rfl)).1
    have w1 : w64 ((a : Int) + 1) = ((a + 1 : Nat) : Int) := by rw [w64_id (by omega) (by omega)]; omega
    have w2 : w64 ((a : Int) + 2) = ((a + 2 : Nat) : Int) := by rw [w64_id (by omega) (by omega)]; omega
    have hr : F83_L9 ((q, ((q.length : Int), ((), ((a : Int), ((a + 2 : Nat) : Int))))), out) = some ((q, ((q.length : Int), ((), (a : Int)))), out ++ (rowD q.length a 0).filter (fun d => decide (en (qa q) d.1 (d.2 - d.1).toNat = 1))) := by
      by_cases hc : a + 2 ≤ q.length
      · rw [rowD_front q.length a (a + 2) (by omega)]
        exact F83_row h a (by omega) (q.length - (a + 2)) (a + 2) out (by omega) (by omega) (by omega)
      · rw [rowD_front q.length a (a + 1) (by omega), show a + 1 = q.length by omega, rowD_end, List.filter_nil, List.append_nil]
        simp only [F83_L9]
        refine loopO_done ?_
        rw [F83_L9_step, T.run_test, if_neg (by rw [decide_eq_true_eq]; omega), T.run_test, if_pos (by simp), T.run_ret]
    have hl := rowD_len q.length a 0
    have hfl := List.length_filter_le (fun d : Dg => decide (en (qa q) d.1 (d.2 - d.1).toNat = 1)) (rowD q.length a 0)
    rw [rowsD_step (by omega : a < q.length), List.filter_append, ← List.append_assoc]
    rw [← F83_rows h m (a + 1) _ (by omega) (by rw [List.length_append]; omega)]
    simp only [F83_L6]
    refine loopO_next ?_
    rw [F83_L6_step, T.run_test, if_pos (decide_eq_true (by omega)), T.run_test, if_pos (by simp), T.run_sub, w2, hr, Option.bind_some, T.run_test, if_pos (by simp), T.run_ret, w1]
theorem F83_eq (q : List Int) (hl : q.length < 4611686018427387904) : F83 q = some (match trOf q with | some ds => (((), true), ds) | none => (((), false), [])) := by
  rw [F83, F83_t, T.run_sub, F52_eq q hl, Option.bind_some, T.run_test]
  cases h : trOf q with
  | none => rfl
  | some ds =>
    have hb := (trOf_bounds (l := q) (by rw [h]; rfl)).1
    have hr : F83_L6 ((q, ((q.length : Int), ((), (0 : Int)))), []) = _ := F83_rows h q.length 0 [] (by omega) (by simp)
    have e : rowsD q.length 0 = dgL q.length := by unfold rowsD; rw [List.drop_zero, dgL_rows]
    rw [e, ones_list h, List.nil_append] at hr
    rw [if_neg (by simp), T.run_test, if_pos rfl, T.run_sub, hr, Option.bind_some, T.run_test, if_pos (by simp), T.run_ret]



theorem cmp_loop {X A : Type} [DecidableEq X] {step : A → Option (A ⊕ (Bool ⊕ Unit))} (a b : List X) (emb : Nat → A) (hab : a.length = b.length)
    (h : ∀ k x y, a[k]? = some x → b[k]? = some y → step (emb k) = if x = y then some (.inl (emb (k + 1))) else some (.inr (.inl false))) (hend : step (emb a.length) = some (.inr (.inr ()))) :
    loopO step (emb 0) = some (if a = b then .inr () else .inl false) := by
  have key : ∀ m k, k + m = a.length → loopO step (emb k) = some (if a.drop k = b.drop k then .inr () else .inl false) := by
    intro m
    induction m with
    | zero =>
      intro k hk
      rw [List.drop_of_length_le (by omega), List.drop_of_length_le (by omega), if_pos rfl, show k = a.length by omega]
      exact loopO_done hend
    | succ m ih =>
      intro k hk
      have h1 : k < a.length := by omega
      have h2 : k < b.length := by omega
      have hs := h k a[k] b[k] (List.getElem?_eq_getElem h1) (List.getElem?_eq_getElem h2)
      rw [List.drop_eq_getElem_cons h1, List.drop_eq_getElem_cons h2]
      by_cases e : a[k] = b[k]
      · rw [if_pos e] at hs
        rw [loopO_next hs, ih (k + 1) (by omega), e]
        by_cases e2 : a.drop (k + 1) = b.drop (k + 1)
        · rw [if_pos e2, e2, if_pos rfl]
        · rw [if_neg e2, if_neg fun x => e2 (List.cons.inj x).2]
      · rw [if_neg e] at hs
        rw [loopO_done hs, if_neg fun x => e (List.cons.inj x).1]
  have := key a.length 0 (by omega)
  rwa [List.drop_zero, List.drop_zero] at this
theorem foldl_sum (v : Int) : ∀ (l : List Int) (c : Int), l.foldl (fun c z => if z = v then c + 1 else c) c = c + (l.map fun z => if z = v then (1 : Int) else 0).sum
  | [], c => by simp
  | x :: t, c => by
    rw [List.foldl_cons, foldl_sum v t, List.map_cons, List.sum_cons]
    split <;> omega


def F90_sh : FSh := ⟨[(.one (.sl (.int .i64) false false)), (.one (.sl (.int .i64) false false))], []⟩

def F90_L4_sh : LSh := ⟨(fun ex => match ex with | .norm => [(0, none), (1, none), (12, none), (13, none)] | .exit i => if i = 0 then [] else [] | .ret => [(4, none)]), [(0, (.one (.sl (.int .i64) false false))), (1, (.one (.sl (.int .i64) false false))), (12, (.one (.si .i64))), (13, (.one (.si .i64)))], [], [⟨.ret, [(4, (.one .sb))], []⟩, ⟨(.exit 0), [], []⟩], [], []⟩
noncomputable def F90_L4_step : (List (Int) × List (Int) × Int × Int) → T ((List (Int) × List (Int) × Int × Int) ⊕ (Bool ⊕ Unit)) := fun (a, b, t12, t13) =>
 (.test (decide (t13 < t12))
 (.test (decide ((0 ≤ t13) ∧ (t13 < ((List.length a) : Int))))
 (.sub (a[(Int.toNat t13)]?) fun z0 =>
 (.test (decide ((0 ≤ t13) ∧ (t13 < ((List.length b) : Int))))
 (.sub (b[(Int.toNat t13)]?) fun z1 =>
 (.test (z0 != z1)
 (.ret (Sum.inr (Sum.inl false)))
 (.ret (Sum.inl (a, (b, (t12, (w64 (t13 + 1)))))))))
 .fail))
 .fail)
 (.ret (Sum.inr (Sum.inr ()))))
noncomputable def F90_L4 (v : (List (Int) × List (Int) × Int × Int)) : Option (Bool ⊕ Unit) := loopO (fun v => (F90_L4_step v).run) v

def F90_fo : List FO := [⟨[(.one .sb)], []⟩]
noncomputable def F90_t : (List (Int) × List (Int)) → T Bool := fun (a, b) =>
 (.test (((List.length a) : Int) != ((List.length b) : Int))
 (.ret false)
 (.sub (F90_L4 (a, (b, (((List.length a) : Int), (0 : Int))))) fun z0 =>
 (.test (Sum.isLeft z0)
 (.sub (Sum.getLeft? z0) fun z1 =>
 (.ret z1))
 (.sub (Sum.getRight? z0) fun z2 =>
 (.ret true)))))
noncomputable def F90 (v : (List (Int) × List (Int))) : Option Bool := (F90_t v).run
noncomputable def F90_E : TEnv := E0
theorem F90_Eok : (F90_E).OK := E0ok
noncomputable def F90_told : Nat → Option SealT := fun id => if id = 4 then some (LSh.told F90_L4_sh 0 (F90_L4_step)) else none
theorem F90_L4_ok : ToldOK Tryz.prog 0 (loopAt (bodyOf fn_F90) [0]) (LSh.told F90_L4_sh 0 (F90_L4_step)) :=
  loop_ok (E := F90_E) (F90_Eok) (told := F90_told) (l := F90_L4_sh) (step := F90_L4_step) (loopsOK_of (ls := []) (by kernel_rfl) trivial) (by kernel_rfl) (fun v => by kernel_rfl)
theorem F90_ok : FOK Tryz.prog n_F90 F90_sh F90_fo F90 :=
  fn_ok (E := F90_E) (F90_Eok) (told := F90_told) (fl := []) (c := bodyOf fn_F90) (s := F90_sh) (l := F90_fo) (tree := F90_t) fnat_F90 (by kernel_rfl) (by kernel_rfl) (by kernel_rfl) (loopsOK_of (ls := [loopAt (bodyOf fn_F90) [0]]) (by kernel_rfl) ⟨.inr ⟨_, by kernel_rfl, F90_L4_ok⟩, trivial⟩) (fun v => by kernel_rfl)

theorem uSame_val (a b : List Int) (hl : a.length < 4611686018427387904) : F90 (a, b) = some (decide (a = b)) := by
  rw [F90, F90_t, T.run_test]
  by_cases he : a.length = b.length
  · have h := cmp_loop (step := fun v => (F90_L4_step v).run) a b (fun k => (a, (b, ((a.length : Int), (k : Int))))) he
      (fun k x y hx hy => by
        have k1 := getElem?_lt hx
        have k2 := getElem?_lt hy
        have w1 : w64 ((k : Int) + 1) = ((k + 1 : Nat) : Int) := by rw [w64_id (by omega) (by omega)]; omega
        rw [F90_L4_step, T.run_test, if_pos (decide_eq_true (by omega)), T.run_test, if_pos (decide_eq_true (by omega)), T.run_sub, Int.toNat_natCast, hx, Option.bind_some, T.run_test, if_pos (decide_eq_true (by omega)), T.run_sub, hy, Option.bind_some, T.run_test]
        by_cases e : x = y
        · rw [if_neg (by simp [e]), if_pos e, T.run_ret, w1]
        · rw [if_pos (by simp [e]), if_neg e, T.run_ret])
      (by rw [F90_L4_step, T.run_test, if_neg (by simp), T.run_ret])
    have h' : F90_L4 (a, (b, ((a.length : Int), (0 : Int)))) = _ := h
    rw [if_neg (by simp [he]), T.run_sub, h', Option.bind_some]
    by_cases e : a = b
    · rw [if_pos e, decide_eq_true e]; rfl
    · rw [if_neg e, decide_eq_false e]; rfl
  · rw [if_pos (by simp; omega), T.run_ret, decide_eq_false fun e => he (by rw [e])]


def F91_sh : FSh := ⟨[(.one (.sl (.list true (.int .i64)) false false)), (.one (.sl (.list true (.int .i64)) false false))], []⟩

def F91_L4_sh : LSh := ⟨(fun ex => match ex with | .norm => [(0, none), (1, none), (12, none), (13, none)] | .exit i => if i = 0 then [] else [] | .ret => [(4, none)]), [(0, (.one (.sl (.list true (.int .i64)) false false))), (1, (.one (.sl (.list true (.int .i64)) false false))), (12, (.one (.si .i64))), (13, (.one (.si .i64)))], [], [⟨.ret, [(4, (.one .sb))], []⟩, ⟨(.exit 0), [], []⟩], [], []⟩
noncomputable def F91_L4_step : (List (List (Int)) × List (List (Int)) × Int × Int) → T ((List (List (Int)) × List (List (Int)) × Int × Int) ⊕ (Bool ⊕ Unit)) := fun (a, b, t12, t13) =>
 (.test (decide (t13 < t12))
 (.test (decide ((0 ≤ t13) ∧ (t13 < ((List.length a) : Int))))
 (.sub (a[(Int.toNat t13)]?) fun z0 =>
 (.test (decide ((0 ≤ t13) ∧ (t13 < ((List.length b) : Int))))
 (.sub (b[(Int.toNat t13)]?) fun z1 =>
 (.sub (F90 (z0, z1)) fun z2 =>
 (.test (! z2)
 (.ret (Sum.inr (Sum.inl false)))
 (.ret (Sum.inl (a, (b, (t12, (w64 (t13 + 1))))))))))
 .fail))
 .fail)
 (.ret (Sum.inr (Sum.inr ()))))
noncomputable def F91_L4 (v : (List (List (Int)) × List (List (Int)) × Int × Int)) : Option (Bool ⊕ Unit) := loopO (fun v => (F91_L4_step v).run) v

def F91_fo : List FO := [⟨[(.one .sb)], []⟩]
noncomputable def F91_t : (List (List (Int)) × List (List (Int))) → T Bool := fun (a, b) =>
 (.test (((List.length a) : Int) != ((List.length b) : Int))
 (.ret false)
 (.sub (F91_L4 (a, (b, (((List.length a) : Int), (0 : Int))))) fun z0 =>
 (.test (Sum.isLeft z0)
 (.sub (Sum.getLeft? z0) fun z1 =>
 (.ret z1))
 (.sub (Sum.getRight? z0) fun z2 =>
 (.ret true)))))
noncomputable def F91 (v : (List (List (Int)) × List (List (Int)))) : Option Bool := (F91_t v).run
noncomputable def F91_E : TEnv := (E0.add1 n_F90 F90_sh F90_fo F90)
theorem F91_Eok : (F91_E).OK := (E0ok.add1 F90_ok)
noncomputable def F91_told : Nat → Option SealT := fun id => if id = 4 then some (LSh.told F91_L4_sh 0 (F91_L4_step)) else none
theorem F91_L4_ok : ToldOK Tryz.prog 0 (loopAt (bodyOf fn_F91) [0]) (LSh.told F91_L4_sh 0 (F91_L4_step)) :=
  loop_ok (E := F91_E) (F91_Eok) (told := F91_told) (l := F91_L4_sh) (step := F91_L4_step) (loopsOK_of (ls := []) (by kernel_rfl) trivial) (by kernel_rfl) (fun v => by kernel_rfl)
theorem F91_ok : FOK Tryz.prog n_F91 F91_sh F91_fo F91 :=
  fn_ok (E := F91_E) (F91_Eok) (told := F91_told) (fl := []) (c := bodyOf fn_F91) (s := F91_sh) (l := F91_fo) (tree := F91_t) fnat_F91 (by kernel_rfl) (by kernel_rfl) (by kernel_rfl) (loopsOK_of (ls := [loopAt (bodyOf fn_F91) [0]]) (by kernel_rfl) ⟨.inr ⟨_, by kernel_rfl, F91_L4_ok⟩, trivial⟩) (fun v => by kernel_rfl)

theorem uRows_val (a b : List (List Int)) (hl : a.length < 4611686018427387904) (hr : ∀ x ∈ a, x.length < 4611686018427387904) : F91 (a, b) = some (decide (a = b)) := by
  rw [F91, F91_t, T.run_test]
  by_cases he : a.length = b.length
  · have h := cmp_loop (step := fun v => (F91_L4_step v).run) a b (fun k => (a, (b, ((a.length : Int), (k : Int))))) he
      (fun k x y hx hy => by
        have k1 := getElem?_lt hx
        have k2 := getElem?_lt hy
        have w1 : w64 ((k : Int) + 1) = ((k + 1 : Nat) : Int) := by rw [w64_id (by omega) (by omega)]; omega
        rw [F91_L4_step, T.run_test, if_pos (decide_eq_true (by omega)), T.run_test, if_pos (decide_eq_true (by omega)), T.run_sub, Int.toNat_natCast, hx, Option.bind_some, T.run_test, if_pos (decide_eq_true (by omega)), T.run_sub, hy, Option.bind_some,
          T.run_sub, uSame_val x y (hr x (List.mem_of_getElem? hx)), Option.bind_some, T.run_test]
        by_cases e : x = y
        · rw [if_neg (by simp [e]), if_pos e, T.run_ret, w1]
        · rw [if_pos (by simp [e]), if_neg e, T.run_ret])
      (by rw [F91_L4_step, T.run_test, if_neg (by simp), T.run_ret])
    have h' : F91_L4 (a, (b, ((a.length : Int), (0 : Int)))) = _ := h
    rw [if_neg (by simp [he]), T.run_sub, h', Option.bind_some]
    by_cases e : a = b
    · rw [if_pos e, decide_eq_true e]; rfl
    · rw [if_neg e, decide_eq_false e]; rfl
  · rw [if_pos (by simp; omega), T.run_ret, decide_eq_false fun e => he (by rw [e])]


def F92_sh : FSh := ⟨[(.one (.sl (.pair (.int .i64) (.int .i64)) false false)), (.one (.sl (.pair (.int .i64) (.int .i64)) false false))], []⟩

def F92_L4_sh : LSh := ⟨(fun ex => match ex with | .norm => [(0, none), (1, none), (12, none), (13, none)] | .exit i => if i = 0 then [] else [] | .ret => [(4, none)]), [(0, (.one (.sl (.pair (.int .i64) (.int .i64)) false false))), (1, (.one (.sl (.pair (.int .i64) (.int .i64)) false false))), (12, (.one (.si .i64))), (13, (.one (.si .i64)))], [], [⟨.ret, [(4, (.one .sb))], []⟩, ⟨(.exit 0), [], []⟩], [], []⟩
noncomputable def F92_L4_step : (List ((Int × Int)) × List ((Int × Int)) × Int × Int) → T ((List ((Int × Int)) × List ((Int × Int)) × Int × Int) ⊕ (Bool ⊕ Unit)) := fun (a, b, t12, t13) =>
 (.test (decide (t13 < t12))
 (.test (decide ((0 ≤ t13) ∧ (t13 < ((List.length a) : Int))))
 (.sub (a[(Int.toNat t13)]?) fun z0 =>
 (.test (decide ((0 ≤ t13) ∧ (t13 < ((List.length b) : Int))))
 (.sub (b[(Int.toNat t13)]?) fun z1 =>
 (.test (! ((z0.1 == z1.1) && ((z0.2 == z1.2) && true)))
 (.ret (Sum.inr (Sum.inl false)))
 (.ret (Sum.inl (a, (b, (t12, (w64 (t13 + 1)))))))))
 .fail))
 .fail)
 (.ret (Sum.inr (Sum.inr ()))))
noncomputable def F92_L4 (v : (List ((Int × Int)) × List ((Int × Int)) × Int × Int)) : Option (Bool ⊕ Unit) := loopO (fun v => (F92_L4_step v).run) v

def F92_fo : List FO := [⟨[(.one .sb)], []⟩]
noncomputable def F92_t : (List ((Int × Int)) × List ((Int × Int))) → T Bool := fun (a, b) =>
 (.test (((List.length a) : Int) != ((List.length b) : Int))
 (.ret false)
 (.sub (F92_L4 (a, (b, (((List.length a) : Int), (0 : Int))))) fun z0 =>
 (.test (Sum.isLeft z0)
 (.sub (Sum.getLeft? z0) fun z1 =>
 (.ret z1))
 (.sub (Sum.getRight? z0) fun z2 =>
 (.ret true)))))
noncomputable def F92 (v : (List ((Int × Int)) × List ((Int × Int)))) : Option Bool := (F92_t v).run
noncomputable def F92_E : TEnv := E0
theorem F92_Eok : (F92_E).OK := E0ok
noncomputable def F92_told : Nat → Option SealT := fun id => if id = 4 then some (LSh.told F92_L4_sh 0 (F92_L4_step)) else none
theorem F92_L4_ok : ToldOK Tryz.prog 0 (loopAt (bodyOf fn_F92) [0]) (LSh.told F92_L4_sh 0 (F92_L4_step)) :=
  loop_ok (E := F92_E) (F92_Eok) (told := F92_told) (l := F92_L4_sh) (step := F92_L4_step) (loopsOK_of (ls := []) (by kernel_rfl) trivial) (by kernel_rfl) (fun v => by kernel_rfl)
theorem F92_ok : FOK Tryz.prog n_F92 F92_sh F92_fo F92 :=
  fn_ok (E := F92_E) (F92_Eok) (told := F92_told) (fl := []) (c := bodyOf fn_F92) (s := F92_sh) (l := F92_fo) (tree := F92_t) fnat_F92 (by kernel_rfl) (by kernel_rfl) (by kernel_rfl) (loopsOK_of (ls := [loopAt (bodyOf fn_F92) [0]]) (by kernel_rfl) ⟨.inr ⟨_, by kernel_rfl, F92_L4_ok⟩, trivial⟩) (fun v => by kernel_rfl)

theorem uCuts_val (a b : List (Int × Int)) (hl : a.length < 4611686018427387904) : F92 (a, b) = some (decide (a = b)) := by
  rw [F92, F92_t, T.run_test]
  by_cases he : a.length = b.length
  · have h := cmp_loop (step := fun v => (F92_L4_step v).run) a b (fun k => (a, (b, ((a.length : Int), (k : Int))))) he
      (fun k x y hx hy => by
        have k1 := getElem?_lt hx
        have k2 := getElem?_lt hy
        have w1 : w64 ((k : Int) + 1) = ((k + 1 : Nat) : Int) := by rw [w64_id (by omega) (by omega)]; omega
        rw [F92_L4_step, T.run_test, if_pos (decide_eq_true (by omega)), T.run_test, if_pos (decide_eq_true (by omega)), T.run_sub, Int.toNat_natCast, hx, Option.bind_some, T.run_test, if_pos (decide_eq_true (by omega)), T.run_sub, hy, Option.bind_some, T.run_test]
        by_cases e : x = y
        · rw [if_neg (by simp [e]), if_pos e, T.run_ret, w1]
        · rw [if_pos (by
            obtain ⟨x1, x2⟩ := x
            obtain ⟨y1, y2⟩ := y
            simp only [Prod.mk.injEq] at e
            by_cases e1 : x1 = y1
            · have e2 : x2 ≠ y2 := fun h => e ⟨e1, h⟩
              simp [e2]
            · simp [e1]), if_neg e, T.run_ret])
      (by rw [F92_L4_step, T.run_test, if_neg (by simp), T.run_ret])
    have h' : F92_L4 (a, (b, ((a.length : Int), (0 : Int)))) = _ := h
    rw [if_neg (by simp [he]), T.run_sub, h', Option.bind_some]
    by_cases e : a = b
    · rw [if_pos e, decide_eq_true e]; rfl
    · rw [if_neg e, decide_eq_false e]; rfl
  · rw [if_pos (by simp; omega), T.run_ret, decide_eq_false fun e => he (by rw [e])]


def F26_sh : FSh := ⟨[(.one (.sl (.int .i64) false false))], []⟩

def F26_fo : List FO := [⟨[(.one (.rw 0 0)), (.one .sb)], [(.row 0 (.pair (.int .i64) (.int .i64)))]⟩]
noncomputable def F26_t : List (Int) → T ((Unit × Bool) × List ((Int × Int))) := fun quiddity =>
 (.sub (F32 quiddity) fun z0 =>
 (.test (decide ((0 = 0) ∧ ((List.length z0.2) = (List.length z0.2))))
 (.ret (((), z0.1.2), z0.2))
 .fail))
noncomputable def F26 (v : List (Int)) : Option ((Unit × Bool) × List ((Int × Int))) := (F26_t v).run
noncomputable def F26_E : TEnv := (E0.add1 n_F32 F32_sh F32_fo F32)
theorem F26_Eok : (F26_E).OK := (E0ok.add1 F32_ok)
noncomputable def F26_told : Nat → Option SealT := fun id => none
theorem F26_ok : FOK Tryz.prog n_F26 F26_sh F26_fo F26 :=
  fn_ok (E := F26_E) (F26_Eok) (told := F26_told) (fl := []) (c := bodyOf fn_F26) (s := F26_sh) (l := F26_fo) (tree := F26_t) fnat_F26 (by kernel_rfl) (by kernel_rfl) (by kernel_rfl) (loopsOK_of (ls := []) (by kernel_rfl) trivial) (fun v => by kernel_rfl)

theorem F26_eq (q : List Int) (hl : q.length < 4611686018427387904) : F26 q = some (match trOf q with | some ds => (((), true), ds) | none => (((), false), [])) := by
  rw [F26, F26_t, T.run_sub, F32_eq q hl, Option.bind_some]
  cases trOf q with
  | none => rfl
  | some ds => rw [T.run_test, if_pos (by simp), T.run_ret]


def F5_sh : FSh := ⟨[(.one (.sl (.list true (.int .i64)) false false)), (.one (.sl (.list true (.int .i64)) false false)), (.one (.fn n_F30))], []⟩

def F5_L4_sh : LSh := ⟨(fun ex => match ex with | .norm => [(1, none), (2, none), (15, none), (16, none), (17, none)] | .exit i => if i = 0 then [] else [] | .ret => [(6, none)]), [(1, (.one (.sl (.list true (.int .i64)) false false))), (2, (.one (.fn n_F30))), (15, (.one (.sl (.list true (.int .i64)) false false))), (16, (.one (.si .i64))), (17, (.one (.si .i64)))], [], [⟨.ret, [(6, (.one .sb))], []⟩, ⟨(.exit 0), [], []⟩], [], []⟩
noncomputable def F5_L4_step : (List (List (Int)) × Unit × List (List (Int)) × Int × Int) → T ((List (List (Int)) × Unit × List (List (Int)) × Int × Int) ⊕ (Bool ⊕ Unit)) := fun (s2, (), t15, t16, t17) =>
 (.test (decide (t17 < t16))
 (.test (decide ((0 ≤ t17) ∧ (t17 < ((List.length t15) : Int))))
 (.sub (t15[(Int.toNat t17)]?) fun z0 =>
 (.test (decide ((0 ≤ t17) ∧ (t17 < ((List.length s2) : Int))))
 (.sub (s2[(Int.toNat t17)]?) fun z1 =>
 (.sub (F30 (z0, z1)) fun z2 =>
 (.test (! z2)
 (.ret (Sum.inr (Sum.inl false)))
 (.ret (Sum.inl (s2, ((), (t15, (t16, (w64 (t17 + 1)))))))))))
 .fail))
 .fail)
 (.ret (Sum.inr (Sum.inr ()))))
noncomputable def F5_L4 (v : (List (List (Int)) × Unit × List (List (Int)) × Int × Int)) : Option (Bool ⊕ Unit) := loopO (fun v => (F5_L4_step v).run) v

def F5_fo : List FO := [⟨[(.one .sb)], []⟩]
noncomputable def F5_t : (List (List (Int)) × List (List (Int)) × Unit) → T Bool := fun (s1, s2, ()) =>
 (.test (((List.length s1) : Int) != ((List.length s2) : Int))
 (.ret false)
 (.sub (F5_L4 (s2, ((), (s1, (((List.length s1) : Int), (0 : Int)))))) fun z0 =>
 (.test (Sum.isLeft z0)
 (.sub (Sum.getLeft? z0) fun z1 =>
 (.ret z1))
 (.sub (Sum.getRight? z0) fun z2 =>
 (.ret true)))))
noncomputable def F5 (v : (List (List (Int)) × List (List (Int)) × Unit)) : Option Bool := (F5_t v).run
noncomputable def F5_E : TEnv := (E0.add1 n_F30 F30_sh F30_fo F30)
theorem F5_Eok : (F5_E).OK := (E0ok.add1 F30_ok)
noncomputable def F5_told : Nat → Option SealT := fun id => if id = 4 then some (LSh.told F5_L4_sh 0 (F5_L4_step)) else none
theorem F5_L4_ok : ToldOK Tryz.prog 0 (loopAt (bodyOf fn_F15) [0]) (LSh.told F5_L4_sh 0 (F5_L4_step)) :=
  loop_ok (E := F5_E) (F5_Eok) (told := F5_told) (l := F5_L4_sh) (step := F5_L4_step) (loopsOK_of (ls := []) (by kernel_rfl) trivial) (by kernel_rfl) (fun v => by kernel_rfl)
theorem F5_ok : FOK Tryz.prog n_F15 F5_sh F5_fo F5 :=
  fn_ok (E := F5_E) (F5_Eok) (told := F5_told) (fl := []) (c := bodyOf fn_F15) (s := F5_sh) (l := F5_fo) (tree := F5_t) fnat_F15 (by kernel_rfl) (by kernel_rfl) (by kernel_rfl) (loopsOK_of (ls := [loopAt (bodyOf fn_F15) [0]]) (by kernel_rfl) ⟨.inr ⟨_, by kernel_rfl, F5_L4_ok⟩, trivial⟩) (fun v => by kernel_rfl)

theorem F15_eq (a b : List (List Int)) (hl : a.length < 4611686018427387904) (hr : ∀ x ∈ a, x.length < 4611686018427387904) : F5 (a, (b, ())) = some (decide (a = b)) := by
  rw [F5, F5_t, T.run_test]
  by_cases he : a.length = b.length
  · have h := cmp_loop (step := fun v => (F5_L4_step v).run) a b (fun k => (b, ((), (a, ((a.length : Int), (k : Int)))))) he
      (fun k x y hx hy => by
        have k1 := getElem?_lt hx
        have k2 := getElem?_lt hy
        have w1 : w64 ((k : Int) + 1) = ((k + 1 : Nat) : Int) := by rw [w64_id (by omega) (by omega)]; omega
        rw [F5_L4_step, T.run_test, if_pos (decide_eq_true (by omega)), T.run_test, if_pos (decide_eq_true (by omega)), T.run_sub, Int.toNat_natCast, hx, Option.bind_some, T.run_test, if_pos (decide_eq_true (by omega)), T.run_sub, hy, Option.bind_some,
          T.run_sub, F30_eq x y (hr x (List.mem_of_getElem? hx)), Option.bind_some, T.run_test]
        by_cases e : x = y
        · rw [if_neg (by simp [e]), if_pos e, T.run_ret, w1]
        · rw [if_pos (by simp [e]), if_neg e, T.run_ret])
      (by rw [F5_L4_step, T.run_test, if_neg (by simp), T.run_ret])
    have h' : F5_L4 (b, ((), (a, ((a.length : Int), (0 : Int))))) = _ := h
    rw [if_neg (by simp [he]), T.run_sub, h', Option.bind_some]
    by_cases e : a = b
    · rw [if_pos e, decide_eq_true e]; rfl
    · rw [if_neg e, decide_eq_false e]; rfl
  · rw [if_pos (by simp; omega), T.run_ret, decide_eq_false fun e => he (by rw [e])]


def F53_sh : FSh := ⟨[(.one (.sl (.list true (.int .i64)) false false))], []⟩

def F53_L5_sh : LSh := ⟨(fun ex => match ex with | .norm => [(0, none), (4, none), (5, none), (23, none), (24, none)] | .exit i => if i = 0 then [(0, none), (4, none)] else [] | .ret => [(2, none), (3, none)]), [(0, (.one (.sl (.list true (.int .i64)) false false))), (4, (.one (.rw 0 0))), (5, (.one (.si .i64))), (23, (.one (.si .i64))), (24, (.one (.si .i64)))], [(.row 0 (.int .i64))], [⟨(.exit 0), [(0, (.one (.sl (.list true (.int .i64)) false false))), (4, (.one (.rw 0 0)))], [(.row 0 (.int .i64))]⟩], [], []⟩
noncomputable def F53_L5_step : ((List (List (Int)) × Unit × Int × Int × Int) × List (Int)) → T (((List (List (Int)) × Unit × Int × Int × Int) × List (Int)) ⊕ ((List (List (Int)) × Unit) × List (Int))) := fun ((rows, (), n, t23, t24), out) =>
 (.test (decide (t24 < t23))
 (.test (decide (((0 : Int) ≤ (0 : Int)) ∧ (0 < ((List.length rows) : Int))))
 (.sub (rows[0]?) fun z0 =>
 (.sub (F76 ((w64 (t24 - 1)), n)) fun z1 =>
 (.test (decide ((0 ≤ z1) ∧ (z1 < ((List.length z0) : Int))))
 (.sub (z0[(Int.toNat z1)]?) fun z2 =>
 (.test (decide (1 ≤ 1))
 (.test (decide ((0 + (List.length out)) ≤ (List.length out)))
 (.test (decide ((2 * (((List.length out) + 1) * 9)) ≤ 140737488355328))
 (.test (decide ((0 = 0) ∧ (((List.length out) + 1) = (List.length ((win out 0 (List.length out)) ++ [z2])))))
 (.ret (Sum.inl ((rows, ((), (n, (t23, (w64 (t24 + 1)))))), ((win out 0 (List.length out)) ++ [z2]))))
 .fail)
 .fail)
 .fail)
 .fail))
 .fail)))
 .fail)
 (.test (decide ((0 = 0) ∧ ((List.length out) = (List.length out))))
 (.ret (Sum.inr ((rows, ()), out)))
 .fail))
noncomputable def F53_L5 (v : ((List (List (Int)) × Unit × Int × Int × Int) × List (Int))) : Option ((List (List (Int)) × Unit) × List (Int)) := loopO (fun v => (F53_L5_step v).run) v

def F53_fo : List FO := [⟨[(.one (.rw 0 0)), (.one .sb)], [(.row 0 (.int .i64))]⟩]
noncomputable def F53_t : List (List (Int)) → T ((Unit × Bool) × List (Int)) := fun rows =>
 (.test (((List.length rows) : Int) == 0)
 (.test true
 (.ret (((), false), ([] : List (Int))))
 .fail)
 (.test (decide (((0 : Int) ≤ (0 : Int)) ∧ (0 < ((List.length rows) : Int))))
 (.sub (rows[0]?) fun z0 =>
 (.sub (F75 (((List.length z0) : Int), ((4 : Int), (12 : Int)))) fun z1 =>
 (.test (! z1)
 (.test true
 (.ret (((), false), ([] : List (Int))))
 .fail)
 (.test (decide (((0 : Int) ≤ (0 : Int)) ∧ (0 < ((List.length rows) : Int))))
 (.sub (rows[0]?) fun z2 =>
 (.test true
 (.sub (F53_L5 ((rows, ((), (((List.length z2) : Int), (((List.length z2) : Int), (0 : Int))))), ([] : List (Int)))) fun z3 =>
 (.test (decide ((0 + (List.length z3.2)) ≤ (List.length z3.2)))
 (.sub (F51 (win z3.2 0 (List.length z3.2))) fun z4 =>
 (.test (! z4)
 (.test true
 (.ret (((), false), ([] : List (Int))))
 .fail)
 (.test (decide ((0 + (List.length z3.2)) ≤ (List.length z3.2)))
 (.sub (F77 (win z3.2 0 (List.length z3.2))) fun z5 =>
 (.test (decide ((0 + (List.length z5.2)) ≤ (List.length z5.2)))
 (.sub (F5 ((win z5.2 0 (List.length z5.2)), (z3.1.1, ()))) fun z6 =>
 (.test (! z6)
 (.test true
 (.ret (((), false), ([] : List (Int))))
 .fail)
 (.test (decide ((0 = 0) ∧ ((List.length z3.2) = (List.length z3.2))))
 (.ret (((), true), z3.2))
 .fail)))
 .fail))
 .fail)))
 .fail))
 .fail))
 .fail))))
 .fail))
noncomputable def F53 (v : List (List (Int))) : Option ((Unit × Bool) × List (Int)) := (F53_t v).run
noncomputable def F53_E : TEnv := (((((E0.add1 n_F75 F75_sh F75_fo F75).add1 n_F76 F76_sh F76_fo F76).add1 n_F51 F51_sh F51_fo F51).add1 n_F77 F77_sh F77_fo F77).add1 n_F15 F5_sh F5_fo F5)
theorem F53_Eok : (F53_E).OK := (((((E0ok.add1 F75_ok).add1 F76_ok).add1 F51_ok).add1 F77_ok).add1 F5_ok)
noncomputable def F53_told : Nat → Option SealT := fun id => if id = 5 then some (LSh.told F53_L5_sh 0 (F53_L5_step)) else none
theorem F53_L5_ok : ToldOK Tryz.prog 0 (loopAt (bodyOf fn_F53) [0]) (LSh.told F53_L5_sh 0 (F53_L5_step)) :=
  loop_ok (E := F53_E) (F53_Eok) (told := F53_told) (l := F53_L5_sh) (step := F53_L5_step) (loopsOK_of (ls := []) (by kernel_rfl) trivial) (by kernel_rfl) (fun v => by kernel_rfl)
theorem F53_ok : FOK Tryz.prog n_F53 F53_sh F53_fo F53 :=
  fn_ok (E := F53_E) (F53_Eok) (told := F53_told) (fl := []) (c := bodyOf fn_F53) (s := F53_sh) (l := F53_fo) (tree := F53_t) fnat_F53 (by kernel_rfl) (by kernel_rfl) (by kernel_rfl) (loopsOK_of (ls := [loopAt (bodyOf fn_F53) [0]]) (by kernel_rfl) ⟨.inr ⟨_, by kernel_rfl, F53_L5_ok⟩, trivial⟩) (fun v => by kernel_rfl)

theorem F53_eq {q : List Int} (hr : rowed q = true) : F53 (frF q) = some (((), true), q) := by
  obtain ⟨h4, ds, h⟩ := rowed_some hr
  have hb := (trOf_bounds (l := q) (by rw [h]; rfl)).1
  have hl := frF_length q
  have h0 := frF_get (q := q) (t := 0) (by omega)
  have hrl := rowF_length q 1
  have key : ∀ m j : Nat, j + m = q.length → F53_L5 ((frF q, ((), ((q.length : Int), ((q.length : Int), (j : Int))))), q.take j) = some ((frF q, ()), q) := by
    intro m
    induction m with
    | zero =>
      intro j hj
      rw [List.take_of_length_le (by omega)]
      simp only [F53_L5]
      refine loopO_done ?_
      rw [F53_L5_step, T.run_test, if_neg (by rw [decide_eq_true_eq]; omega), T.run_test, if_pos (by simp), T.run_ret]
    | succ m ih =>
      intro j hj
      have hjl : j < q.length := by omega
      have w0 : w64 ((j : Int) - 1) = (j : Int) - 1 := w64_id (by omega) (by omega)
      have w1 : w64 ((j : Int) + 1) = ((j + 1 : Nat) : Int) := by rw [w64_id (by omega) (by omega)]; omega
      obtain ⟨q1, q2, _⟩ := qa_some (q := q) (by omega) ((j : Int) - 1)
      have g := rowF_get (q := q) (k := 1) (i := (((j : Int) - 1) % (q.length : Int)).toNat) (by omega)
      have hv : en (qa q) ((((j : Int) - 1) % (q.length : Int)).toNat : Int) (1 + 1) = q[j] := by
        rw [Int.toNat_of_nonneg q1, ← en_mod]
        have := en_two (qa q) ((j : Int) - 1) 0
        rw [show ((j : Int) - 1 + (((0 : Nat) : Int) + 1)) = j by omega, qa_nat hjl, List.getD_eq_getElem?_getD, List.getElem?_eq_getElem hjl] at this
        show en (qa q) ((j : Int) - 1) (0 + 2) = _
        rw [this]
        show q[j] * 1 - 0 = _
        omega
      rw [hv] at g
      rw [← ih (j + 1) (by omega), List.take_succ_eq_append_getElem hjl]
      have htl : (q.take j).length = j := by rw [List.length_take]; omega
      simp only [F53_L5]
      refine loopO_next ?_
      generalize q.take j = out at *
      rw [F53_L5_step, T.run_test, if_pos (decide_eq_true (by omega)), T.run_test, if_pos (decide_eq_true (by omega)), T.run_sub, h0, Option.bind_some, T.run_sub, w0, F76_eq _ _ (by omega) (by omega), Option.bind_some, T.run_test, if_pos (decide_eq_true (by rw [hrl]; exact ⟨q1, q2⟩)), T.run_sub, g, Option.bind_some]
      simp only [win_all]
      rw [T.run_test, if_pos (by simp), T.run_test, if_pos (by simp), T.run_test, if_pos (decide_eq_true (by omega)), T.run_test, if_pos (decide_eq_true (by simp)), T.run_ret, w1]
  have hk : F53_L5 ((frF q, ((), ((q.length : Int), ((q.length : Int), (0 : Int))))), []) = _ := key q.length 0 (by omega)
  have hE := F15_eq (frF q) (frF q) (by omega) (fun x hx => by
    obtain ⟨k, hk⟩ := List.getElem?_of_mem hx
    have hkl := getElem?_lt hk
    rw [hl] at hkl
    rw [frF_get hkl] at hk
    rw [← Option.some.inj hk, rowF_length]
    omega)
  rw [decide_eq_true rfl] at hE
  rw [F53, F53_t, T.run_test, if_neg (by rw [beq_iff_eq]; omega), T.run_test, if_pos (decide_eq_true (by omega)), T.run_sub, h0, Option.bind_some, T.run_sub, F75_eq, hrl, Option.bind_some, T.run_test, if_neg (by simp [inB]; omega), T.run_test, if_pos (decide_eq_true (by omega)), T.run_sub, Option.bind_some,
    T.run_test, if_pos rfl, T.run_sub, hrl, hk, Option.bind_some]
  simp only [win_all]
  rw [T.run_test, if_pos (by simp), T.run_sub, F51_eq q (by omega), h, Option.bind_some, T.run_test, if_neg (by simp), T.run_test, if_pos (by simp), T.run_sub, F77_eq h, Option.bind_some]
  simp only [win_all]
  rw [T.run_test, if_pos (by simp), T.run_sub, hE, Option.bind_some, T.run_test, if_neg (by simp), T.run_test, if_pos (by simp), T.run_ret]


end Go.Proofs.W
