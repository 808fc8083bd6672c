/- Functions of the program, walked, and what they compute. -/
import Derived.Test.YtfecbmipnehmnaaCfWk2
set_option linter.unusedVariables false
set_option linter.unusedSimpArgs false
set_option maxRecDepth 100000
set_option maxHeartbeats 4000000
namespace Go.Proofs.W
open Go Go.Gm Go.Proofs
open Go.RowKit Go.Shelf
def slices_Concat_int_sh : FSh := ⟨[(.one (.sl (.list true (.int .i64)) false false))], []⟩

def slices_Concat_int_L3_sh : LSh := ⟨(fun ex => match ex with | .norm => [(0, none), (3, none), (9, none), (10, none), (11, none)] | .exit i => if i = 0 then [(0, none), (3, none)] else [] | .ret => [(2, none)]), [(0, (.one (.sl (.list true (.int .i64)) false false))), (3, (.one (.si .i64))), (9, (.one (.sl (.list true (.int .i64)) false false))), (10, (.one (.si .i64))), (11, (.one (.si .i64)))], [], [⟨(.exit 0), [(0, (.one (.sl (.list true (.int .i64)) false false))), (3, (.one (.si .i64)))], []⟩], [], []⟩
noncomputable def slices_Concat_int_L3_step : (List (List (Int)) × Int × List (List (Int)) × Int × Int) → T ((List (List (Int)) × Int × List (List (Int)) × Int × Int) ⊕ (List (List (Int)) × Int)) := fun (slices, size, t9, t10, t11) =>
  (.test (decide (t11 < t10))
  (.test (decide ((0 ≤ t11) ∧ (t11 < ((List.length t9) : Int))))
   (.sub (t9[(Int.toNat t11)]?) fun z0 =>
    (.test (decide ((w64 (size + ((List.length z0) : Int))) < 0))
    .fail
    (.ret (Sum.inl (slices, ((w64 (size + ((List.length z0) : Int))), (t9, (t10, (w64 (t11 + 1))))))))))
   .fail)
  (.ret (Sum.inr (slices, size))))
noncomputable def slices_Concat_int_L3 (v : (List (List (Int)) × Int × List (List (Int)) × Int × Int)) : Option (List (List (Int)) × Int) := loopO (fun v => (slices_Concat_int_L3_step v).run) v

def slices_Concat_int_L11_sh : LSh := ⟨(fun ex => match ex with | .norm => [(6, none), (25, none), (26, none), (27, none)] | .exit i => if i = 2 then [(6, none)] else [] | .ret => [(2, none)]), [(6, (.one (.rw 0 0))), (25, (.one (.sl (.list true (.int .i64)) false false))), (26, (.one (.si .i64))), (27, (.one (.si .i64)))], [(.row 0 (.int .i64))], [⟨(.exit 2), [(6, (.one (.rw 0 0)))], [(.row 0 (.int .i64))]⟩], [], []⟩
noncomputable def slices_Concat_int_L11_step : ((Unit × List (List (Int)) × Int × Int) × List (Int)) → T (((Unit × List (List (Int)) × Int × Int) × List (Int)) ⊕ (Unit × List (Int))) := fun (((), t25, t26, t27), newslice) =>
  (.test (decide (t27 < t26))
  (.test (decide ((0 ≤ t27) ∧ (t27 < ((List.length t25) : Int))))
   (.sub (t25[(Int.toNat t27)]?) fun z0 =>
    (.test (decide ((0 + (List.length newslice)) ≤ (List.length newslice)))
    (.test (decide ((2 * (((List.length newslice) + (List.length z0)) * 9)) ≤ 140737488355328))
     (.test (decide ((0 = 0) ∧ (((List.length newslice) + (List.length z0)) = (List.length ((win newslice 0 (List.length newslice)) ++ z0)))))
      (.ret (Sum.inl (((), (t25, (t26, (w64 (t27 + 1))))), ((win newslice 0 (List.length newslice)) ++ z0))))
      .fail)
     .fail)
    .fail))
   .fail)
  (.test (decide ((0 = 0) ∧ ((List.length newslice) = (List.length newslice))))
   (.ret (Sum.inr ((), newslice)))
   .fail))
noncomputable def slices_Concat_int_L11 (v : ((Unit × List (List (Int)) × Int × Int) × List (Int))) : Option (Unit × List (Int)) := loopO (fun v => (slices_Concat_int_L11_step v).run) v

def slices_Concat_int_fo : List FO := [⟨[(.one (.rw 0 0))], [(.row 0 (.int .i64))]⟩]
noncomputable def slices_Concat_int_t : List (List (Int)) → T (Unit × List (Int)) := fun slices =>
  (.sub (slices_Concat_int_L3 (slices, ((0 : Int), (slices, (((List.length slices) : Int), (0 : Int)))))) fun z0 =>
  (.sub (slices_Grow_int ((), z0.2)) fun z1 =>
  (.test (decide ((0 = 0) ∧ ((List.length z1.2) = (List.length z1.2))))
  (.sub (slices_Concat_int_L11 (((), (z0.1, (((List.length z0.1) : Int), (0 : Int)))), z1.2)) fun z2 =>
   (.test (decide ((0 = 0) ∧ ((List.length z2.2) = (List.length z2.2))))
   (.ret ((), z2.2))
   .fail))
  .fail)))
noncomputable def slices_Concat_int (v : List (List (Int))) : Option (Unit × List (Int)) := (slices_Concat_int_t v).run
noncomputable def slices_Concat_int_E : TEnv := (E0.add1 n_slices_Grow_int slices_Grow_int_sh slices_Grow_int_fo slices_Grow_int)
theorem slices_Concat_int_Eok : (slices_Concat_int_E).OK := (E0ok.add1 slices_Grow_int_ok)
noncomputable def slices_Concat_int_told : Nat → Option SealT := fun id => if id = 3 then some (LSh.told slices_Concat_int_L3_sh 0 (slices_Concat_int_L3_step)) else if id = 11 then some (LSh.told slices_Concat_int_L11_sh 0 (slices_Concat_int_L11_step)) else none
theorem slices_Concat_int_L3_ok : ToldOK Try.prog 0 (loopAt (bodyOf fn_slices_Concat_int) [0]) (LSh.told slices_Concat_int_L3_sh 0 (slices_Concat_int_L3_step)) :=
  loop_ok (E := slices_Concat_int_E) (slices_Concat_int_Eok) (told := slices_Concat_int_told) (l := slices_Concat_int_L3_sh) (step := slices_Concat_int_L3_step) (loopsOK_of (ls := []) (by kernel_rfl) trivial) (by kernel_rfl) (fun v => by kernel_rfl)
theorem slices_Concat_int_L11_ok : ToldOK Try.prog 0 (loopAt (bodyOf fn_slices_Concat_int) [1]) (LSh.told slices_Concat_int_L11_sh 0 (slices_Concat_int_L11_step)) :=
  loop_ok (E := slices_Concat_int_E) (slices_Concat_int_Eok) (told := slices_Concat_int_told) (l := slices_Concat_int_L11_sh) (step := slices_Concat_int_L11_step) (loopsOK_of (ls := []) (by kernel_rfl) trivial) (by kernel_rfl) (fun v => by kernel_rfl)
theorem slices_Concat_int_ok : FOK Try.prog n_slices_Concat_int slices_Concat_int_sh slices_Concat_int_fo slices_Concat_int :=
  fn_ok (E := slices_Concat_int_E) (slices_Concat_int_Eok) (told := slices_Concat_int_told) (fl := []) (c := bodyOf fn_slices_Concat_int) (s := slices_Concat_int_sh) (l := slices_Concat_int_fo) (tree := slices_Concat_int_t) fnat_slices_Concat_int (by kernel_rfl) (by kernel_rfl) (by kernel_rfl) (loopsOK_of (ls := [loopAt (bodyOf fn_slices_Concat_int) [0], loopAt (bodyOf fn_slices_Concat_int) [1]]) (by kernel_rfl) ⟨.inr ⟨_, by kernel_rfl, slices_Concat_int_L3_ok⟩, ⟨.inr ⟨_, by kernel_rfl, slices_Concat_int_L11_ok⟩, trivial⟩⟩) (fun v => by kernel_rfl)

theorem slices_Concat_int_two (a b : List Int) (hl : a.length + b.length ≤ 1000) : slices_Concat_int [a, b] = some ((), a ++ b) := by
  have h3 : slices_Concat_int_L3 ([a, b], ((0 : Int), ([a, b], ((2 : Int), (0 : Int))))) = some ([a, b], ((a.length + b.length : Nat) : Int)) := by
    simp only [slices_Concat_int_L3]
    have w0 : w64 (a.length : Int) = (a.length : Int) := w64_id (by omega) (by omega)
    have w1 : w64 (1 : Int) = 1 := w64_id (by omega) (by omega)
    have w2 : w64 ((a.length : Int) + (b.length : Int)) = ((a.length + b.length : Nat) : Int) := by rw [w64_id (by omega) (by omega)]; omega
    have w3 : w64 ((1 : Int) + 1) = 2 := w64_id (by omega) (by omega)
    have c0 : ¬ ((a.length : Int) < 0) := by omega
    have c1 : ¬ (((a.length + b.length : Nat) : Int) < 0) := by omega
    have s1 : (slices_Concat_int_L3_step ([a, b], ((0 : Int), ([a, b], ((2 : Int), (0 : Int)))))).run = some (.inl ([a, b], ((a.length : Int), ([a, b], ((2 : Int), (1 : Int)))))) := by
      simp [slices_Concat_int_L3_step, T.run, w0, w1, c0]
    have s2 : (slices_Concat_int_L3_step ([a, b], ((a.length : Int), ([a, b], ((2 : Int), (1 : Int)))))).run = some (.inl ([a, b], (((a.length + b.length : Nat) : Int), ([a, b], ((2 : Int), (2 : Int)))))) := by
      simp only [slices_Concat_int_L3_step, T.run, w2, w3]
      simp [c1]
      omega
    have s3 : (slices_Concat_int_L3_step ([a, b], (((a.length + b.length : Nat) : Int), ([a, b], ((2 : Int), (2 : Int)))))).run = some (.inr ([a, b], ((a.length + b.length : Nat) : Int))) := by
      simp [slices_Concat_int_L3_step, T.run]
    rw [loopO_next s1, loopO_next s2, loopO_done s3]
  have hg : slices_Grow_int ((), ((a.length + b.length : Nat) : Int)) = some ((), []) := by
    unfold slices_Grow_int
    rw [if_pos ⟨by simp only []; omega, by simp only []; omega, by simp only []; omega⟩]
  have h11 : slices_Concat_int_L11 (((), ([a, b], ((2 : Int), (0 : Int)))), ([] : List Int)) = some ((), a ++ b) := by
    simp only [slices_Concat_int_L11]
    have w1 : w64 (1 : Int) = 1 := w64_id (by omega) (by omega)
    have w3 : w64 (2 : Int) = 2 := w64_id (by omega) (by omega)
    have c0 : 2 * (a.length * 9) ≤ 140737488355328 := by omega
    have c1 : 2 * ((a.length + b.length) * 9) ≤ 140737488355328 := by omega
    have hw : win ([] : List Int) 0 0 = [] := rfl
    have s1 : (slices_Concat_int_L11_step (((), ([a, b], ((2 : Int), (0 : Int)))), ([] : List Int))).run = some (.inl (((), ([a, b], ((2 : Int), (1 : Int)))), a)) := by
      simp [slices_Concat_int_L11_step, T.run, w1, c0, hw]
    have s2 : (slices_Concat_int_L11_step (((), ([a, b], ((2 : Int), (1 : Int)))), a)).run = some (.inl (((), ([a, b], ((2 : Int), (2 : Int)))), a ++ b)) := by
      simp [slices_Concat_int_L11_step, T.run, w3, c1, win_all]
    have s3 : (slices_Concat_int_L11_step (((), ([a, b], ((2 : Int), (2 : Int)))), a ++ b)).run = some (.inr ((), a ++ b)) := by
      simp [slices_Concat_int_L11_step, T.run]
    rw [loopO_next s1, loopO_next s2, loopO_done s3]
  simp only [slices_Concat_int, slices_Concat_int_t, T.run, List.length_cons, List.length_nil]
  have e2 : ((0 + 1 + 1 : Nat) : Int) = 2 := rfl
  simp only [e2, h3, Option.bind_some, hg, List.length_nil, true_and, decide_true, if_true, List.length_cons, h11]


def slices_Clone_int_sh : FSh := ⟨[.one (.sl (.int .i64) false false)], []⟩
def slices_Clone_int_fo : List FO := [⟨[.one (.rw 0 0)], [.row 0 (.int .i64)]⟩]
def slices_Clone_int (v : List Int) : Option (Unit × List Int) := if v.length ≤ maxLen ∧ v.length * 8 ≤ 140737488355328 then some ((), v) else none
def slices_Clone_int_ren : Shelf.Ren := ⟨fun _ => n_slices_Clone_int, fun t => if t = 4 then 4 else if t = 22 then 42 else 3, fun x => x⟩
theorem slices_Clone_int_lay : SlLaysE0.n41 Try.prog slices_Clone_int_ren :=
  { mixed := by kernel_rfl, f41 := ⟨"slices.Clone[[]int,int]", by kernel_rfl, by kernel_rfl⟩, t4 := by kernel_rfl, a4 := fun w => by kernel_rfl, z4 := fun w => by kernel_rfl, v4 := fun w => by kernel_rfl, t22 := by kernel_rfl, a22 := fun w => by kernel_rfl, z22 := fun w => by kernel_rfl, v22 := fun w => by kernel_rfl }
noncomputable def slices_Clone_int_info : TypeInfo := (Try.prog.info? 3).get (by kernel_rfl)
theorem slices_Clone_int_ok : FOK Try.prog n_slices_Clone_int slices_Clone_int_sh slices_Clone_int_fo slices_Clone_int :=
  clone_ok (e := .int .i64) ⟨_, fnat_slices_Clone_int, by kernel_rfl, by kernel_rfl⟩ (ρr := slices_Clone_int_ren) rfl slices_Clone_int_lay rfl slices_Clone_int_info (.int .i64 0) 8 (by kernel_rfl) (by kernel_rfl) (by kernel_rfl) (by kernel_rfl) (by decide) (by decide) (fun w => by kernel_rfl)

def slices_SortFunc_Lint__slices_Compare_int_sh : FSh := ⟨[.one (.rw 0 0), .one (.fn n_slices_Compare_int)], [.row 0 (.list true (.int .i64))]⟩
def slices_SortFunc_Lint__slices_Compare_int_fo : List FO := [⟨[], [.row 0 (.list true (.int .i64))]⟩]
def slices_SortFunc_Lint__slices_Compare_int (v : (Unit × Unit) × List (List Int)) : Option (Unit × List (List Int)) := if v.2.length < 4611686018427387904 ∧ v.2.all (fun l => decide (l.length ≤ 9223372036854775807)) = true then some ((), sortLL v.2) else none
def slices_SortFunc_Lint__slices_Compare_int_ren : Shelf.Ren := ⟨fun k => if k = 14 then 79 else if k = 15 then 80 else if k = 20 then 84 else if k = 21 then 85 else if k = 22 then 86 else if k = 23 then 87 else if k = 24 then 88 else if k = 25 then 89 else if k = 26 then 90 else if k = 27 then 91 else if k = 28 then 92 else if k = 29 then 93 else if k = 46 then 103 else if k = 47 then 104 else if k = 48 then 105 else if k = 49 then 106 else if k = 50 then 107 else if k = 57 then 111 else 65, fun t => if t = 0 then 0 else if t = 4 then 4 else if t = 5 then 5 else if t = 9 then 9 else if t = 22 then 24 else if t = 24 then 42 else if t = 25 then 75 else if t = 39 then 85 else if t = 45 then 89 else if t = 46 then 90 else if t = 50 then 37 else if t = 53 then 96 else if t = 55 then 98 else if t = 66 then 104 else if t = 70 then 108 else if t = 76 then 112 else if t = 77 then 113 else 3, fun x => x⟩
theorem slices_SortFunc_Lint__slices_Compare_int_lay : SlLaysF.n6 Try.prog slices_SortFunc_Lint__slices_Compare_int_ren :=
  { mixed := by kernel_rfl, f6 := ⟨"slices.SortFunc[[][]int,[]int]", by kernel_rfl, by kernel_rfl⟩, f14 := ⟨"slices.pdqsortCmpFunc[[]int]", by kernel_rfl, by kernel_rfl⟩, f15 := by kernel_rfl, f20 := ⟨"slices.insertionSortCmpFunc[[]int]", by kernel_rfl, by kernel_rfl⟩, f21 := ⟨"slices.heapSortCmpFunc[[]int]", by kernel_rfl, by kernel_rfl⟩, f22 := ⟨"slices.breakPatternsCmpFunc[[]int]", by kernel_rfl, by kernel_rfl⟩, f23 := ⟨"slices.choosePivotCmpFunc[[]int]", by kernel_rfl, by kernel_rfl⟩, f24 := ⟨"slices.reverseRangeCmpFunc[[]int]", by kernel_rfl, by kernel_rfl⟩, f25 := ⟨"slices.partialInsertionSortCmpFunc[[]int]", by kernel_rfl, by kernel_rfl⟩, f26 := ⟨"slices.partitionEqualCmpFunc[[]int]", by kernel_rfl, by kernel_rfl⟩, f27 := ⟨"slices.partitionCmpFunc[[]int]", by kernel_rfl, by kernel_rfl⟩, f28 := by kernel_rfl, f29 := by kernel_rfl, f46 := ⟨"slices.siftDownCmpFunc[[]int]", by kernel_rfl, by kernel_rfl⟩, f47 := by kernel_rfl, f48 := by kernel_rfl, f49 := ⟨"slices.medianAdjacentCmpFunc[[]int]", by kernel_rfl, by kernel_rfl⟩, f50 := ⟨"slices.medianCmpFunc[[]int]", by kernel_rfl, by kernel_rfl⟩, f57 := ⟨"slices.order2CmpFunc[[]int]", by kernel_rfl, by kernel_rfl⟩, t0 := by kernel_rfl, a0 := fun w => by kernel_rfl, z0 := fun w => by kernel_rfl, v0 := fun w => by kernel_rfl, t3 := by kernel_rfl, a3 := fun w => by kernel_rfl, z3 := fun w => by kernel_rfl, v3 := fun w => by kernel_rfl, t4 := by kernel_rfl, a4 := fun w => by kernel_rfl, z4 := fun w => by kernel_rfl, v4 := fun w => by kernel_rfl, t5 := by kernel_rfl, a5 := fun w => by kernel_rfl, z5 := fun w => by kernel_rfl, v5 := fun w => by kernel_rfl, t9 := by kernel_rfl, a9 := fun w => by kernel_rfl, z9 := fun w => by kernel_rfl, v9 := fun w => by kernel_rfl, t22 := by kernel_rfl, a22 := fun w => by kernel_rfl, z22 := fun w => by kernel_rfl, v22 := fun w => by kernel_rfl, a24 := fun w => by kernel_rfl, z24 := fun w => by kernel_rfl, t25 := by kernel_rfl, a25 := fun w => by kernel_rfl, z25 := fun w => by kernel_rfl, v25 := fun w => by kernel_rfl, t39 := by kernel_rfl, a39 := fun w => by kernel_rfl, z39 := fun w => by kernel_rfl, v39 := fun w => by kernel_rfl, t45 := by kernel_rfl, a45 := fun w => by kernel_rfl, z45 := fun w => by kernel_rfl, v45 := fun w => by kernel_rfl, t46 := by kernel_rfl, a46 := fun w => by kernel_rfl, z46 := fun w => by kernel_rfl, v46 := fun w => by kernel_rfl, t50 := by kernel_rfl, a50 := fun w => by kernel_rfl, z50 := fun w => by kernel_rfl, v50 := fun w => by kernel_rfl, t53 := by kernel_rfl, a53 := fun w => by kernel_rfl, z53 := fun w => by kernel_rfl, v53 := fun w => by kernel_rfl, t55 := by kernel_rfl, a55 := fun w => by kernel_rfl, z55 := fun w => by kernel_rfl, v55 := fun w => by kernel_rfl, t66 := by kernel_rfl, a66 := fun w => by kernel_rfl, z66 := fun w => by kernel_rfl, v66 := fun w => by kernel_rfl, t70 := by kernel_rfl, a70 := fun w => by kernel_rfl, z70 := fun w => by kernel_rfl, v70 := fun w => by kernel_rfl, t76 := by kernel_rfl, a76 := fun w => by kernel_rfl, z76 := fun w => by kernel_rfl, v76 := fun w => by kernel_rfl, t77 := by kernel_rfl, a77 := fun w => by kernel_rfl, z77 := fun w => by kernel_rfl, v77 := fun w => by kernel_rfl }
def slices_SortFunc_Lint__slices_Compare_int_cr : Shelf.Ren := ⟨fun k => if k = 122 then 74 else 82, fun t => if t = 4 then 4 else 3, fun x => x⟩
theorem slices_SortFunc_Lint__slices_Compare_int_cl : Lays.n122 Try.prog slices_SortFunc_Lint__slices_Compare_int_cr := { mixed := by kernel_rfl, f122 := by kernel_rfl, f215 := by kernel_rfl, t3 := by kernel_rfl, a3 := fun w => by kernel_rfl, z3 := fun w => by kernel_rfl, v3 := fun w => by kernel_rfl, t4 := by kernel_rfl, a4 := fun w => by kernel_rfl, z4 := fun w => by kernel_rfl, v4 := fun w => by kernel_rfl }
theorem slices_SortFunc_Lint__slices_Compare_int_c1 (x y : Int) (w : World) : Calls Try.prog 74 #[.int .i64 x, .int .i64 y] w fun e w' => e = .returned (.int .i64 (Lib.compareInt x y)) ∧ w' = w := Any.cmp_Compare_int slices_SortFunc_Lint__slices_Compare_int_cl x y w
theorem slices_SortFunc_Lint__slices_Compare_int_dr {xs ys : List Int} : ∀ {k : Nat}, (∀ j, j < k → xs.getD j 0 = ys.getD j 0) → k ≤ xs.length → k ≤ ys.length → cmpL xs ys = cmpL (xs.drop k) (ys.drop k)
  | 0, _, _, _ => rfl
  | k + 1, h, h1, h2 => by
    match xs, ys, h, h1, h2 with
    | x :: xs, y :: ys, h, h1, h2 =>
      have h0 := h 0 (by omega)
      simp only [List.getD_cons_zero] at h0
      subst h0
      have ih := slices_SortFunc_Lint__slices_Compare_int_dr (xs := xs) (ys := ys) (k := k) (fun j hj => by simpa using h (j + 1) (by omega)) (by simpa using h1) (by simpa using h2)
      simpa [cmpL] using ih
set_option maxHeartbeats 2000000 in
set_option maxRecDepth 100000 in
theorem slices_SortFunc_Lint__slices_Compare_int_cw (a1 a2 : Option Addr) (c1 c2 b1 o1 b2 o2 n m : Nat) (xs ys : List Int) (w : World) (hn : n = xs.length) (hm : m = ys.length) (hx : n ≤ 9223372036854775807) (hy : m ≤ 9223372036854775807) (h1 : 0 < n → a1 = some ⟨b1, o1, none⟩) (h2 : 0 < m → a2 = some ⟨b2, o2, none⟩)
    (hc1 : ∀ j, j < n → w.cell? ⟨b1, o1 + j, none⟩ = some (.int .i64 (xs.getD j 0))) (hc2 : ∀ j, j < m → w.cell? ⟨b2, o2 + j, none⟩ = some (.int .i64 (ys.getD j 0))) :
    Calls Try.prog 66 #[.slice a1 n c1, .slice a2 m c2] w fun e w' => e = .returned (.int .i64 (cmpL xs ys)) ∧ ∃ q, w' = w.drewN q := by
  have mixed : Try.prog.follows .mixedOrders = true := by kernel_rfl
  have t0 : Try.prog.underlying 0 = some (TypeDesc.tuple #[]) := by kernel_rfl
  have a0 : ∀ w, (isAgg 0).run Try.prog w = .ok false w := fun w => by kernel_rfl
  have z0 : ∀ w, (Go.sizeOf 0).run Try.prog w = .ok 1 w := fun w => by kernel_rfl
  have v0 : ∀ w, (zeroValue 0).run Try.prog w = .ok (Value.tuple #[]) w := fun w => by kernel_rfl
  have t3 : Try.prog.underlying 3 = some (TypeDesc.int IntKind.i64) := by kernel_rfl
  have a3 : ∀ w, (isAgg 3).run Try.prog w = .ok false w := fun w => by kernel_rfl
  have z3 : ∀ w, (Go.sizeOf 3).run Try.prog w = .ok 1 w := fun w => by kernel_rfl
  have v3 : ∀ w, (zeroValue 3).run Try.prog w = .ok (Value.int IntKind.i64 0) w := fun w => by kernel_rfl
  have t4 : Try.prog.underlying 4 = some (TypeDesc.bool) := by kernel_rfl
  have a4 : ∀ w, (isAgg 4).run Try.prog w = .ok false w := fun w => by kernel_rfl
  have z4 : ∀ w, (Go.sizeOf 4).run Try.prog w = .ok 1 w := fun w => by kernel_rfl
  have v4 : ∀ w, (zeroValue 4).run Try.prog w = .ok (Value.bool false) w := fun w => by kernel_rfl
  have t22 : Try.prog.underlying 42 = some (TypeDesc.slice 3) := by kernel_rfl
  have a22 : ∀ w, (isAgg 42).run Try.prog w = .ok false w := fun w => by kernel_rfl
  have z22 : ∀ w, (Go.sizeOf 42).run Try.prog w = .ok 1 w := fun w => by kernel_rfl
  have v22 : ∀ w, (zeroValue 42).run Try.prog w = .ok (Value.slice none 0 0) w := fun w => by kernel_rfl
  have e104 : ∀ args w, (callFunc 74 args).run Try.prog w = .ok (.enter 74 args) w := enters_of Try.func74 (by kernel_rfl) rfl
  have K1 : Aside (∀ j, j < n → w.cell? ⟨b1, o1 + j, none⟩ = some (.int .i64 (xs.getD j 0))) := hc1
  have K2 : Aside (∀ j, j < m → w.cell? ⟨b2, o2 + j, none⟩ = some (.int .i64 (ys.getD j 0))) := hc2
  have KN : Aside (n = xs.length ∧ m = ys.length) := ⟨hn, hm⟩
  clear hc1 hc2 hn hm
  go_enter Try.func66, Try.ntmps66
  go_wp2
  go_loopg [11] n (fun g s11 wr => ∃ k q : Nat, k ≤ n ∧ k ≤ m ∧ n - k ≤ g ∧ s11 = .int .i64 k ∧ wr = w.drewN q ∧ Aside (∀ j, j < k → xs.getD j 0 = ys.getD j 0))
  case atStart => exact ⟨0, 0, Nat.zero_le _, Nat.zero_le _, by omega, rfl, rfl, fun j hj => absurd hj (Nat.not_lt_zero _)⟩
  case round =>
    obtain ⟨k, q, hk, hkm, hg, rfl, rfl, heq⟩ := hrel
    by_cases hlt : k < n
    · obtain rfl := h1 (by omega)
      have g1 : w.cell? ⟨b1, o1 + k, none⟩ = some (.int .i64 (xs.getD k 0)) := K1.out k (by omega)
      generalize hxk : xs.getD k 0 = x at g1
      have B : Aside (xs.getD k 0 = x) := hxk
      clear hxk
      by_cases hlm : k < m
      · obtain rfl := h2 (by omega)
        have g2 : w.cell? ⟨b2, o2 + k, none⟩ = some (.int .i64 (ys.getD k 0)) := K2.out k (by omega)
        generalize hyk : ys.getD k 0 = y at g2
        have B2 : Aside (ys.getD k 0 = y) := hyk
        clear hyk
        have hd : cmpL xs ys = if x < y then -1 else if y < x then 1 else cmpL (xs.drop (k + 1)) (ys.drop (k + 1)) := by
          obtain ⟨e1, e2⟩ := KN.out
          rw [slices_SortFunc_Lint__slices_Compare_int_dr heq.out (by omega) (by omega), List.drop_eq_getElem_cons (i := k) (l := xs) (by omega), List.drop_eq_getElem_cons (i := k) (l := ys) (by omega)]
          rw [← B.out, ← B2.out, List.getD_eq_getElem?_getD, List.getD_eq_getElem?_getD, List.getElem?_eq_getElem (l := xs) (by omega), List.getElem?_eq_getElem (l := ys) (by omega)]
          rfl
        have D : Aside (cmpL xs ys = if x < y then -1 else if y < x then 1 else cmpL (xs.drop (k + 1)) (ys.drop (k + 1))) := hd
        clear hd
        rcases Int.lt_trichotomy x y with hxy | hxy | hxy
        · have hc : Lib.compareInt x y = -1 := by unfold Lib.compareInt; rw [if_pos hxy]
          have DD : Aside (cmpL xs ys = -1) := by have := D.out; rwa [if_pos hxy] at this
          go_wp2_with fail
          refine (slices_SortFunc_Lint__slices_Compare_int_c1 x y _).mono ?_
          rintro e w' ⟨rfl, rfl⟩
          rw [hc]
          go_wp2
          go_ret
          exact ⟨by rw [DD.out]; rfl, q, rfl⟩
        · subst hxy
          have hc : Lib.compareInt x x = 0 := by unfold Lib.compareInt; rw [if_neg (Int.lt_irrefl x), if_neg (Int.lt_irrefl x)]
          go_wp2_with fail
          refine (slices_SortFunc_Lint__slices_Compare_int_c1 x x _).mono ?_
          rintro e w' ⟨rfl, rfl⟩
          rw [hc]
          go_wp2
          go_roundg (n - (k + 1))
          case measure => omega
          case rel =>
            refine ⟨k + 1, q, by omega, by omega, by omega, by go_num, rfl, fun j hj => ?_⟩
            by_cases e : j = k
            · subst e
              rw [B.out, B2.out]
            · exact heq.out j (by omega)
        · have hc : Lib.compareInt x y = 1 := by unfold Lib.compareInt; rw [if_neg (by omega), if_pos hxy]
          have DD : Aside (cmpL xs ys = 1) := by have := D.out; rwa [if_neg (by omega), if_pos hxy] at this
          go_wp2_with fail
          refine (slices_SortFunc_Lint__slices_Compare_int_c1 x y _).mono ?_
          rintro e w' ⟨rfl, rfl⟩
          rw [hc]
          go_wp2
          go_ret
          exact ⟨by rw [DD.out]; rfl, q, rfl⟩
      · have D0 : cmpL xs ys = 1 := by
          obtain ⟨e1, e2⟩ := KN.out
          have hkm' : k = m := by omega
          rw [slices_SortFunc_Lint__slices_Compare_int_dr heq.out (by omega) (by omega), List.drop_eq_getElem_cons (i := k) (l := xs) (by omega), List.drop_of_length_le (l := ys) (by omega)]
          rfl
        have DD : Aside (cmpL xs ys = 1) := D0
        clear D0
        go_wp2_with fail
        go_ret
        exact ⟨by rw [DD.out]; rfl, q, rfl⟩
    · have : k = n := by omega
      subst this
      obtain ⟨e1, e2⟩ := KN.out
      have hd : cmpL xs ys = cmpL [] (ys.drop k) := by
        rw [slices_SortFunc_Lint__slices_Compare_int_dr heq.out (by omega) (by omega), List.drop_of_length_le (l := xs) (by omega)]
      by_cases hkm2 : k < m
      · have DD : Aside (cmpL xs ys = -1) := by
          show _ = _
          rw [hd, List.drop_eq_getElem_cons (i := k) (l := ys) (by omega)]
          rfl
        clear hd e1 e2
        go_wp2
        go_ret
        exact ⟨by rw [DD.out]; rfl, q, rfl⟩
      · have DD : Aside (cmpL xs ys = 0) := by
          show _ = _
          rw [hd, List.drop_of_length_le (l := ys) (by omega)]
          rfl
        clear hd e1 e2
        go_wp2
        go_ret
        exact ⟨by rw [DD.out]; rfl, q, rfl⟩

theorem slices_SortFunc_Lint__slices_Compare_int_cok : CmpOK Try.prog 66 := by
  intro a1 c1 a2 c2 xs ys W hx hy h1 h2
  have split : ∀ (a : Option Addr) (xs : List Int), LInt W a xs → ∃ b o, (0 < xs.length → a = some ⟨b, o, none⟩) ∧ ∀ j, j < xs.length → W.cell? ⟨b, o + j, none⟩ = some (.int .i64 (xs.getD j 0)) := fun a xs h => by
    rcases h with rfl | ⟨b, o, ha, hc⟩
    · exact ⟨0, 0, fun h => absurd h (Nat.lt_irrefl 0), fun j hj => absurd hj (Nat.not_lt_zero j)⟩
    · exact ⟨b, o, fun _ => ha, fun j hj => hc j _ (by rw [List.getD_eq_getElem?_getD, List.getElem?_eq_getElem hj]; rfl)⟩
  obtain ⟨b1, o1, p1, q1⟩ := split a1 xs h1
  obtain ⟨b2, o2, p2, q2⟩ := split a2 ys h2
  exact slices_SortFunc_Lint__slices_Compare_int_cw a1 a2 c1 c2 b1 o1 b2 o2 xs.length ys.length xs ys W rfl rfl hx hy p1 p2 q1 q2
theorem slices_SortFunc_Lint__slices_Compare_int_ok : FOK Try.prog n_slices_SortFunc_Lint slices_SortFunc_Lint__slices_Compare_int_sh slices_SortFunc_Lint__slices_Compare_int_fo slices_SortFunc_Lint__slices_Compare_int :=
  sortLists_ok ⟨_, fnat_slices_SortFunc_Lint, by kernel_rfl, by kernel_rfl⟩ (ρr := slices_SortFunc_Lint__slices_Compare_int_ren) rfl slices_SortFunc_Lint__slices_Compare_int_lay (enters_of fnat_slices_Compare_int (by kernel_rfl) rfl) slices_SortFunc_Lint__slices_Compare_int_cok

theorem lsL_ltL : ∀ a b : List Int, lsL a b = ltL a b
  | [], [] => rfl
  | [], y :: b => rfl
  | x :: a, [] => rfl
  | x :: a, y :: b => by
    have ih := lsL_ltL a b
    unfold lsL at ih ⊢
    unfold cmpL ltL
    split
    · rfl
    · split
      · rfl
      · exact ih
theorem slices_SortFunc_Lint__slices_Compare_int_eq (x : List (List Int)) (h : x.length < 4611686018427387904) (hb : ∀ l ∈ x, l.length ≤ 9223372036854775807) : slices_SortFunc_Lint__slices_Compare_int (((), ()), x) = some ((), sortL x) := by
  unfold slices_SortFunc_Lint__slices_Compare_int
  rw [if_pos ⟨h, List.all_eq_true.2 fun l hl => decide_eq_true (hb l hl)⟩]
  have e : sortL x = sortLL x := by
    refine sortLL_unique ((sortL_up x).imp fun {a b} hab => ?_) (sortL_perm x)
    rw [lsL_ltL]
    unfold leL at hab
    simpa using hab
  rw [e]


def i_pieces_sh : FSh := ⟨[(.one (.si .i64)), (.one (.sl (.pair (.int .i64) (.int .i64)) false false))], []⟩

def i_pieces_L3_sh : LSh := ⟨(fun ex => match ex with | .norm => [(1, none), (5, none), (15, none), (16, none)] | .exit i => if i = 0 then [(1, none), (5, none)] else [] | .ret => [(4, none)]), [(1, (.one (.sl (.pair (.int .i64) (.int .i64)) false false))), (5, (.one (.rw 0 0))), (15, (.one (.si .i64))), (16, (.one (.si .i64)))], [(.row 0 (.int .i64))], [⟨(.exit 0), [(1, (.one (.sl (.pair (.int .i64) (.int .i64)) false false))), (5, (.one (.rw 0 0)))], [(.row 0 (.int .i64))]⟩], [], []⟩
noncomputable def i_pieces_L3_step : ((List ((Int × Int)) × Unit × Int × Int) × List (Int)) → T (((List ((Int × Int)) × Unit × Int × Int) × List (Int)) ⊕ ((List ((Int × Int)) × Unit) × List (Int))) := fun ((ds, (), t15, t16), whole) =>
  (.test (decide (t16 < t15))
  (.test (decide (1 ≤ (List.length (List.set (List.replicate 1 (0 : Int)) 0 t16))))
   (.test (decide ((0 + (List.length whole)) ≤ (List.length whole)))
    (.test (decide ((2 * (((List.length whole) + (List.length (win (List.set (List.replicate 1 (0 : Int)) 0 t16) 0 1))) * 9)) ≤ 140737488355328))
     (.test (decide ((0 = 0) ∧ (((List.length whole) + (List.length (win (List.set (List.replicate 1 (0 : Int)) 0 t16) 0 1))) = (List.length ((win whole 0 (List.length whole)) ++ (win (List.set (List.replicate 1 (0 : Int)) 0 t16) 0 1))))))
      (.ret (Sum.inl ((ds, ((), (t15, (w64 (t16 + 1))))), ((win whole 0 (List.length whole)) ++ (win (List.set (List.replicate 1 (0 : Int)) 0 t16) 0 1)))))
      .fail)
     .fail)
    .fail)
   .fail)
  (.test (decide ((0 = 0) ∧ ((List.length whole) = (List.length whole))))
   (.ret (Sum.inr ((ds, ()), whole)))
   .fail))
noncomputable def i_pieces_L3 (v : ((List ((Int × Int)) × Unit × Int × Int) × List (Int))) : Option ((List ((Int × Int)) × Unit) × List (Int)) := loopO (fun v => (i_pieces_L3_step v).run) v

def i_pieces_L12_sh : LSh := ⟨(fun ex => match ex with | .norm => [(7, none), (9, none), (26, none), (27, none), (28, none), (32, none), (33, none), (34, none)] | .exit i => if i = 4 then [(7, none), (26, none), (27, none), (28, none)] else if i = 3 then [(7, none), (26, none), (27, none), (28, none)] else if i = 2 then [(7, none)] else [] | .ret => [(4, none)]), [(7, (.one (.rw 0 0))), (9, (.one (.pf 1 0 0))), (26, (.one (.sl (.pair (.int .i64) (.int .i64)) false false))), (27, (.one (.si .i64))), (28, (.one (.si .i64))), (32, (.one (.rw 0 0))), (33, (.one (.si .i64))), (34, (.one (.si .i64)))], [(.row 0 (.list true (.int .i64))), (.rcd 0 [(.si .i64), (.si .i64)])], [⟨(.exit 4), [(7, (.one (.rw 0 0))), (26, (.one (.sl (.pair (.int .i64) (.int .i64)) false false))), (27, (.one (.si .i64))), (28, (.one (.si .i64)))], [(.row 0 (.list true (.int .i64)))]⟩], [], []⟩
noncomputable def i_pieces_L12_step : ((Unit × Unit × List ((Int × Int)) × Int × Int × Unit × Int × Int) × (List (List (Int)) × (Int × Int))) → T (((Unit × Unit × List ((Int × Int)) × Int × Int × Unit × Int × Int) × (List (List (Int)) × (Int × Int))) ⊕ ((Unit × List ((Int × Int)) × Int × Int) × List (List (Int)))) := fun (((), (), t26, t27, t28, (), t33, t34), (out, (d_0, d_1))) =>
  (.test (decide (t34 < t33))
  (.test (decide ((0 ≤ t34) ∧ (t34 < ((List.length out) : Int))))
   (.sub (out[(0 + (Int.toNat t34))]?) fun z0 =>
    (.sub (slices_Index_int (z0, d_0)) fun z1 =>
    (.sub (slices_Index_int (z0, d_1)) fun z2 =>
    (.test (decide (z1 ≥ 0))
    (.test (decide (z2 ≥ 0))
     (.test (decide (0 ≤ (w64 (z1 + 1))))
      (.test (decide ((0 ≤ (Int.toNat (w64 (z1 + 1)))) ∧ ((Int.toNat (w64 (z1 + 1))) ≤ (List.length z0))))
       (.test (decide (0 ≤ z2))
        (.test (decide (((Int.toNat z2) ≤ (List.length z0)) ∧ ((List.length z0) ≤ (List.length z0))))
         (.test (decide (2 ≤ (List.length (List.set (List.set (List.replicate 2 ([] : List (Int))) 0 (win z0 0 ((Int.toNat (w64 (z1 + 1))) - 0))) 1 (win z0 (Int.toNat z2) ((List.length z0) - (Int.toNat z2)))))))
          (.sub (slices_Concat_int (win (List.set (List.set (List.replicate 2 ([] : List (Int))) 0 (win z0 0 ((Int.toNat (w64 (z1 + 1))) - 0))) 1 (win z0 (Int.toNat z2) ((List.length z0) - (Int.toNat z2)))) 0 2)) fun z3 =>
           (.test (decide ((0 ≤ t34) ∧ (t34 < ((List.length out) : Int))))
           (.test (decide ((0 + (List.length z3.2)) ≤ (List.length z3.2)))
            (.sub (out[(0 + (Int.toNat t34))]?) fun z4 =>
             (.test (decide (0 ≤ z1))
             (.test (decide (0 ≤ (w64 (z2 + 1))))
              (.test (decide (((Int.toNat z1) ≤ (Int.toNat (w64 (z2 + 1)))) ∧ ((Int.toNat (w64 (z2 + 1))) ≤ (List.length z0))))
               (.sub (slices_Clone_int (win z0 (Int.toNat z1) ((Int.toNat (w64 (z2 + 1))) - (Int.toNat z1)))) fun z5 =>
                (.test (decide ((0 + (List.length z5.2)) ≤ (List.length z5.2)))
                (.test (decide (1 ≤ (List.length (List.set (List.replicate 1 ([] : List (Int))) 0 (win z5.2 0 (List.length z5.2))))))
                 (.test (decide ((0 + (List.length out)) ≤ (List.length (List.set out (0 + (Int.toNat t34)) (win z3.2 0 (List.length z3.2))))))
                  (.test (decide ((2 * (((List.length out) + (List.length (win (List.set (List.replicate 1 ([] : List (Int))) 0 (win z5.2 0 (List.length z5.2))) 0 1))) * 25)) ≤ 140737488355328))
                   (.test (decide ((0 = 0) ∧ (((List.length out) + (List.length (win (List.set (List.replicate 1 ([] : List (Int))) 0 (win z5.2 0 (List.length z5.2))) 0 1))) = (List.length ((win (List.set out (0 + (Int.toNat t34)) (win z3.2 0 (List.length z3.2))) 0 (List.length out)) ++ (win (List.set (List.replicate 1 ([] : List (Int))) 0 (win z5.2 0 (List.length z5.2))) 0 1))))))
                    (.ret (Sum.inr (((), (t26, (t27, t28))), ((win (List.set out (0 + (Int.toNat t34)) (win z3.2 0 (List.length z3.2))) 0 (List.length out)) ++ (win (List.set (List.replicate 1 ([] : List (Int))) 0 (win z5.2 0 (List.length z5.2))) 0 1)))))
                    .fail)
                   .fail)
                  .fail)
                 .fail)
                .fail))
               .fail)
              .fail)
             .fail))
            .fail)
           .fail))
          .fail)
         .fail)
        .fail)
       .fail)
      .fail)
     (.test (decide ((0 = 0) ∧ ((List.length out) = (List.length out))))
      (.test (decide ((0 = 0) ∧ ((List.length out) = (List.length out))))
       (.ret (Sum.inl (((), ((), (t26, (t27, (t28, ((), (t33, (w64 (t34 + 1))))))))), (out, (d_0, d_1)))))
       .fail)
      .fail))
    (.test (decide ((0 = 0) ∧ ((List.length out) = (List.length out))))
     (.test (decide ((0 = 0) ∧ ((List.length out) = (List.length out))))
      (.ret (Sum.inl (((), ((), (t26, (t27, (t28, ((), (t33, (w64 (t34 + 1))))))))), (out, (d_0, d_1)))))
      .fail)
     .fail)))))
   .fail)
  (.test (decide ((0 = 0) ∧ ((List.length out) = (List.length out))))
   (.ret (Sum.inr (((), (t26, (t27, t28))), out)))
   .fail))
noncomputable def i_pieces_L12 (v : ((Unit × Unit × List ((Int × Int)) × Int × Int × Unit × Int × Int) × (List (List (Int)) × (Int × Int)))) : Option ((Unit × List ((Int × Int)) × Int × Int) × List (List (Int))) := loopO (fun v => (i_pieces_L12_step v).run) v

def i_pieces_L9_sh : LSh := ⟨(fun ex => match ex with | .norm => [(7, none), (26, none), (27, none), (28, none)] | .exit i => if i = 2 then [(7, none)] else [] | .ret => [(4, none)]), [(7, (.one (.rw 0 0))), (26, (.one (.sl (.pair (.int .i64) (.int .i64)) false false))), (27, (.one (.si .i64))), (28, (.one (.si .i64)))], [(.row 0 (.list true (.int .i64)))], [⟨(.exit 2), [(7, (.one (.rw 0 0)))], [(.row 0 (.list true (.int .i64)))]⟩], [], []⟩
noncomputable def i_pieces_L9_step : ((Unit × List ((Int × Int)) × Int × Int) × List (List (Int))) → T (((Unit × List ((Int × Int)) × Int × Int) × List (List (Int))) ⊕ (Unit × List (List (Int)))) := fun (((), t26, t27, t28), out) =>
  (.test (decide (t28 < t27))
  (.test (decide ((0 ≤ t28) ∧ (t28 < ((List.length t26) : Int))))
   (.sub (t26[(Int.toNat t28)]?) fun z0 =>
    (.test (decide ((0 = 0) ∧ ((List.length out) = (List.length out))))
    (.test (decide ((0 = 0) ∧ ((List.length out) = (List.length out))))
     (.sub (i_pieces_L12 (((), ((), (t26, (t27, (t28, ((), (((List.length out) : Int), (0 : Int)))))))), (out, (z0.1, z0.2)))) fun z1 =>
      (.test (decide ((0 = 0) ∧ ((List.length z1.2) = (List.length z1.2))))
      (.ret (Sum.inl (((), (z1.1.2.1, (z1.1.2.2.1, (w64 (z1.1.2.2.2 + 1))))), z1.2)))
      .fail))
     .fail)
    .fail))
   .fail)
  (.test (decide ((0 = 0) ∧ ((List.length out) = (List.length out))))
   (.ret (Sum.inr ((), out)))
   .fail))
noncomputable def i_pieces_L9 (v : ((Unit × List ((Int × Int)) × Int × Int) × List (List (Int)))) : Option (Unit × List (List (Int))) := loopO (fun v => (i_pieces_L9_step v).run) v

def i_pieces_fo : List FO := [⟨[(.one (.rw 0 0))], [(.row 0 (.list true (.int .i64)))]⟩]
noncomputable def i_pieces_t : (Int × List ((Int × Int))) → T (Unit × List (List (Int))) := fun (n, ds) =>
  (.test true
  (.sub (i_pieces_L3 ((ds, ((), (n, (0 : Int)))), (List.replicate 0 (0 : Int)))) fun z0 =>
   (.test (decide ((0 + (List.length z0.2)) ≤ (List.length z0.2)))
   (.test (decide ((0 = 0) ∧ (1 = (List.length (List.set (List.replicate 1 ([] : List (Int))) 0 (win z0.2 0 (List.length z0.2)))))))
    (.sub (i_pieces_L9 (((), (z0.1.1, (((List.length z0.1.1) : Int), (0 : Int)))), (List.set (List.replicate 1 ([] : List (Int))) 0 (win z0.2 0 (List.length z0.2))))) fun z1 =>
     (.test (decide ((0 = 0) ∧ ((List.length z1.2) = (List.length z1.2))))
     (.sub (slices_SortFunc_Lint__slices_Compare_int (((), ()), z1.2)) fun z2 =>
      (.test (decide ((0 = 0) ∧ ((List.length z1.2) = (List.length z2.2))))
      (.ret ((), z2.2))
      .fail))
     .fail))
    .fail)
   .fail))
  .fail)
noncomputable def i_pieces (v : (Int × List ((Int × Int)))) : Option (Unit × List (List (Int))) := (i_pieces_t v).run
noncomputable def i_pieces_E : TEnv := ((((E0.add1 n_slices_Index_int slices_Index_int_sh slices_Index_int_fo slices_Index_int).add1 n_slices_Concat_int slices_Concat_int_sh slices_Concat_int_fo slices_Concat_int).add1 n_slices_Clone_int slices_Clone_int_sh slices_Clone_int_fo slices_Clone_int).add1 n_slices_SortFunc_Lint slices_SortFunc_Lint__slices_Compare_int_sh slices_SortFunc_Lint__slices_Compare_int_fo slices_SortFunc_Lint__slices_Compare_int)
theorem i_pieces_Eok : (i_pieces_E).OK := ((((E0ok.add1 slices_Index_int_ok).add1 slices_Concat_int_ok).add1 slices_Clone_int_ok).add1 slices_SortFunc_Lint__slices_Compare_int_ok)
noncomputable def i_pieces_told : Nat → Option SealT := fun id => if id = 3 then some (LSh.told i_pieces_L3_sh 0 (i_pieces_L3_step)) else if id = 12 then some (LSh.told i_pieces_L12_sh 0 (i_pieces_L12_step)) else if id = 9 then some (LSh.told i_pieces_L9_sh 0 (i_pieces_L9_step)) else none
theorem i_pieces_L3_ok : ToldOK Try.prog 0 (loopAt (bodyOf fn_i_pieces) [0]) (LSh.told i_pieces_L3_sh 0 (i_pieces_L3_step)) :=
  loop_ok (E := i_pieces_E) (i_pieces_Eok) (told := i_pieces_told) (l := i_pieces_L3_sh) (step := i_pieces_L3_step) (loopsOK_of (ls := []) (by kernel_rfl) trivial) (by kernel_rfl) (fun v => by kernel_rfl)
theorem i_pieces_L12_ok : ToldOK Try.prog 0 (loopAt (bodyOf fn_i_pieces) [1, 0]) (LSh.told i_pieces_L12_sh 0 (i_pieces_L12_step)) :=
  loop_ok (E := i_pieces_E) (i_pieces_Eok) (told := i_pieces_told) (l := i_pieces_L12_sh) (step := i_pieces_L12_step) (loopsOK_of (ls := []) (by kernel_rfl) trivial) (by kernel_rfl) (fun v => by kernel_rfl)
theorem i_pieces_L9_ok : ToldOK Try.prog 0 (loopAt (bodyOf fn_i_pieces) [1]) (LSh.told i_pieces_L9_sh 0 (i_pieces_L9_step)) :=
  loop_ok (E := i_pieces_E) (i_pieces_Eok) (told := i_pieces_told) (l := i_pieces_L9_sh) (step := i_pieces_L9_step) (loopsOK_of (ls := [loopAt (bodyOf fn_i_pieces) [1, 0]]) (by kernel_rfl) ⟨.inr ⟨_, by kernel_rfl, i_pieces_L12_ok⟩, trivial⟩) (by kernel_rfl) (fun v => by kernel_rfl)
theorem i_pieces_ok : FOK Try.prog n_i_pieces i_pieces_sh i_pieces_fo i_pieces :=
  fn_ok (E := i_pieces_E) (i_pieces_Eok) (told := i_pieces_told) (fl := []) (c := bodyOf fn_i_pieces) (s := i_pieces_sh) (l := i_pieces_fo) (tree := i_pieces_t) fnat_i_pieces (by kernel_rfl) (by kernel_rfl) (by kernel_rfl) (loopsOK_of (ls := [loopAt (bodyOf fn_i_pieces) [0], loopAt (bodyOf fn_i_pieces) [1]]) (by kernel_rfl) ⟨.inr ⟨_, by kernel_rfl, i_pieces_L3_ok⟩, ⟨.inr ⟨_, by kernel_rfl, i_pieces_L9_ok⟩, trivial⟩⟩) (fun v => by kernel_rfl)

theorem i_pieces_whole (ds : List Dg) (N : Nat) (hN : N ≤ 12) : ∀ (m k : Nat), k + m = N → i_pieces_L3 ((ds, ((), ((N : Int), (k : Int)))), nameL k) = some ((ds, ()), nameL N) := by
  intro m
  induction m with
  | zero =>
    intro k hk
    have e : k = N := by omega
    subst e
    simp only [i_pieces_L3]
    refine loopO_done ?_
    rw [i_pieces_L3_step, T.run_test, if_neg (by simp), T.run_test, if_pos (by simp), T.run_ret]
  | succ m ih =>
    intro k hk
    have w1 : w64 ((k : Int) + 1) = ((k + 1 : Nat) : Int) := by rw [w64_id (by omega) (by omega)]; omega
    have := ih (k + 1) (by omega)
    simp only [i_pieces_L3] at this ⊢
    rw [← this]
    refine loopO_next ?_
    rw [i_pieces_L3_step, T.run_test, if_pos (decide_eq_true (by omega)), T.run_test, if_pos (by simp), T.run_test, if_pos (by simp), win_all, win_one, T.run_test, if_pos (by exact decide_eq_true (by rw [nameL_length, List.length_singleton]; omega)), T.run_test, if_pos (by simp), T.run_ret, w1, nameL_succ]
/-- One piece cut in two by the program. -/
theorem i_pieces_cut {p : List Int} (hs : p.Pairwise (· < ·)) {d : Dg} {i j : Nat} (hi : i < p.length) (hj : j < p.length) (ei : p[i] = d.1) (ej : p[j] = d.2) (hd : d.1 < d.2) :
    p.filter (fun v => decide (v ≤ d.1 ∨ d.2 ≤ v)) = p.take (i + 1) ++ p.drop j ∧ p.filter (fun v => decide (d.1 ≤ v ∧ v ≤ d.2)) = (p.drop i).take (j + 1 - i) ∧ i < j := by
  have hij : i < j := (sorted_lt hs hi hj).1 (by rw [ei, ej]; exact hd)
  have lt : ∀ x (h : x < p.length), (p[x] < d.1 ↔ x < i) ∧ (p[x] < d.2 ↔ x < j) := fun x h => ⟨by rw [← ei]; exact sorted_lt hs h hi, by rw [← ej]; exact sorted_lt hs h hj⟩
  have gt : ∀ x (h : x < p.length), (d.1 < p[x] ↔ i < x) ∧ (d.2 < p[x] ↔ j < x) := fun x h => ⟨by rw [← ei]; exact sorted_lt hs hi h, by rw [← ej]; exact sorted_lt hs hj h⟩
  refine ⟨?_, ?_, hij⟩
  · refine filter_out p _ (i + 1) j (by omega) (by omega) (fun x h hx => ?_) (fun x h h1 h2 => ?_) (fun x h hx => ?_)
    · have := gt x h; rw [decide_eq_true_eq]; omega
    · have := gt x h; have := lt x h; rw [decide_eq_false_iff_not]; omega
    · have := lt x h; rw [decide_eq_true_eq]; omega
  · refine filter_mid p _ i (j + 1) (by omega) (by omega) (fun x h hx => ?_) (fun x h h1 h2 => ?_) (fun x h hx => ?_)
    · have := lt x h; rw [decide_eq_false_iff_not]; omega
    · have := gt x h; have := lt x h; rw [decide_eq_true_eq]; omega
    · have := gt x h; rw [decide_eq_false_iff_not]; omega
theorem i_pieces_L12_eq (t26 : List Dg) (t27 t28 : Int) (d : Dg) (hd : d.1 < d.2) : ∀ (rest pre out : List (List Int)), out = pre ++ rest → out.length ≤ 100 → (∀ p ∈ out, p.Pairwise (· < ·) ∧ p.length ≤ 100) →
    i_pieces_L12 (((), ((), (t26, (t27, (t28, ((), ((out.length : Int), (pre.length : Int)))))))), (out, d)) = some (((), (t26, (t27, t28))), pre ++ splitD d rest) := by
  intro rest
  induction rest with
  | nil =>
    intro pre out ho hl hp
    rw [List.append_nil] at ho
    subst ho
    simp only [i_pieces_L12]
    refine loopO_done ?_
    rw [i_pieces_L12_step, T.run_test, if_neg (by simp), T.run_test, if_pos (by simp), T.run_ret, splitD, List.append_nil]
  | cons p t ih =>
    intro pre out ho hl hp
    have hlen : out.length = pre.length + (t.length + 1) := by rw [ho, List.length_append, List.length_cons]
    have hg : out[pre.length]? = some p := by rw [ho, List.getElem?_append_right (Nat.le_refl _), Nat.sub_self]; rfl
    have hpm : p ∈ out := by rw [ho]; simp
    obtain ⟨hs, hpl⟩ := hp p hpm
    have x1 := slices_Index_int_eq p d.1 (by omega)
    have x2 := slices_Index_int_eq p d.2 (by omega)
    have w1 : w64 ((pre.length : Int) + 1) = (((pre ++ [p]).length : Nat) : Int) := by rw [List.length_append, List.length_singleton, w64_id (by omega) (by omega)]; omega
    have next := ih (pre ++ [p]) out (by rw [ho]; simp) hl hp
    have go : ¬ (d.1 ∈ p ∧ d.2 ∈ p) → (i_pieces_L12_step (((), ((), (t26, (t27, (t28, ((), ((out.length : Int), (pre.length : Int)))))))), (out, d))).run = some (.inl (((), ((), (t26, (t27, (t28, ((), ((out.length : Int), (((pre ++ [p]).length : Nat) : Int)))))))), (out, d))) := by
      intro c
      rw [i_pieces_L12_step, T.run_test, if_pos (decide_eq_true (by omega)), T.run_test, if_pos (decide_eq_true (by omega)), T.run_sub, Nat.zero_add, Int.toNat_natCast, hg, Option.bind_some, T.run_sub, x1, Option.bind_some, T.run_sub, x2, Option.bind_some, T.run_test]
      by_cases c1 : d.1 ∈ p
      · obtain ⟨i, hi, ei, e1⟩ := idxI_yes c1
        have e2 := idxI_no (fun h => c ⟨c1, h⟩)
        rw [e1, e2, if_pos (decide_eq_true (by omega)), T.run_test, if_neg (by simp), T.run_test, if_pos (by simp), T.run_test, if_pos (by simp), T.run_ret, w1]
      · rw [idxI_no c1, if_neg (by simp), T.run_test, if_pos (by simp), T.run_test, if_pos (by simp), T.run_ret, w1]
    by_cases c : d.1 ∈ p ∧ d.2 ∈ p
    · obtain ⟨i, hi, ei, e1⟩ := idxI_yes c.1
      obtain ⟨j, hj, ej, e2⟩ := idxI_yes c.2
      obtain ⟨f1, f2, hij⟩ := i_pieces_cut hs hi hj ei ej hd
      rw [e1] at x1
      rw [e2] at x2
      have v1 : w64 ((i : Int) + 1) = ((i + 1 : Nat) : Int) := by rw [w64_id (by omega) (by omega)]; omega
      have v2 : w64 ((j : Int) + 1) = ((j + 1 : Nat) : Int) := by rw [w64_id (by omega) (by omega)]; omega
      have g1 : win p 0 (i + 1 - 0) = p.take (i + 1) := by rw [win_take, Nat.sub_zero]
      have g2 : win p j (p.length - j) = p.drop j := by unfold win; rw [List.take_of_length_le (by simp)]
      have g3 : win p i (j + 1 - i) = (p.drop i).take (j + 1 - i) := rfl
      have g4 : win (List.set (List.set (List.replicate 2 ([] : List Int)) 0 (p.take (i + 1))) 1 (p.drop j)) 0 2 = [p.take (i + 1), p.drop j] := rfl
      have hcat := slices_Concat_int_two (p.take (i + 1)) (p.drop j) (by rw [List.length_take, List.length_drop]; omega)
      have hml : ((p.drop i).take (j + 1 - i)).length ≤ 100 := by rw [List.length_take, List.length_drop]; omega
      have hcl : slices_Clone_int ((p.drop i).take (j + 1 - i)) = some ((), (p.drop i).take (j + 1 - i)) := by
        unfold slices_Clone_int
        rw [if_pos ⟨by unfold maxLen; omega, by omega⟩]
      have hset : out.set pre.length (p.take (i + 1) ++ p.drop j) = pre ++ (p.take (i + 1) ++ p.drop j) :: t := by
        rw [ho, List.set_append_right _ _ (Nat.le_refl _), Nat.sub_self]; rfl
      have hwo : win (pre ++ (p.take (i + 1) ++ p.drop j) :: t) 0 out.length = pre ++ (p.take (i + 1) ++ p.drop j) :: t := by
        have := win_all (pre ++ (p.take (i + 1) ++ p.drop j) :: t)
        rwa [List.length_append, List.length_cons, ← hlen] at this
      have hsl : (pre ++ (p.take (i + 1) ++ p.drop j) :: t).length = out.length := by rw [List.length_append, List.length_cons, ← hlen]
      rw [splitD, if_pos c, f1, f2]
      simp only [i_pieces_L12]
      refine loopO_done ?_
      rw [i_pieces_L12_step, T.run_test, if_pos (decide_eq_true (by omega)), T.run_test, if_pos (decide_eq_true (by omega)), T.run_sub, Nat.zero_add, Int.toNat_natCast, hg, Option.bind_some, T.run_sub, x1, Option.bind_some, T.run_sub, x2, Option.bind_some, T.run_test, if_pos (decide_eq_true (by omega)), T.run_test, if_pos (decide_eq_true (by omega)), v1, T.run_test, if_pos (decide_eq_true (by omega)), T.run_test, if_pos (decide_eq_true (by omega)), T.run_test, if_pos (decide_eq_true (by omega)), T.run_test, if_pos (decide_eq_true (by omega)), T.run_test, if_pos (by simp), T.run_sub]
      simp only [Int.toNat_natCast, g1, g2, g4, hcat, Option.bind_some]
      rw [T.run_test, if_pos (decide_eq_true (by omega)), T.run_test, if_pos (by simp), T.run_sub, Option.bind_some, T.run_test, if_pos (decide_eq_true (by omega)), v2, T.run_test, if_pos (decide_eq_true (by omega)), T.run_test, if_pos (decide_eq_true (by omega)), T.run_sub]
      simp only [Int.toNat_natCast, g3, hcl, Option.bind_some, win_all, hset, hwo, show ∀ q : List Int, win (List.set (List.replicate 1 ([] : List Int)) 0 q) 0 1 = [q] from fun q => rfl]
      rw [T.run_test, if_pos (by simp), T.run_test, if_pos (by simp), T.run_test, if_pos (by exact decide_eq_true (by rw [hsl]; omega)), T.run_test, if_pos (by exact decide_eq_true (by rw [List.length_singleton]; omega)), T.run_test, if_pos (by exact decide_eq_true (by rw [List.length_append, hsl]; exact ⟨trivial, rfl⟩)), T.run_ret]
      simp
    · rw [splitD, if_neg c]
      simp only [i_pieces_L12] at next ⊢
      rw [loopO_next (go c), next, List.append_assoc]
      rfl
theorem i_pieces_L9_eq {N : Nat} (h3 : 3 ≤ N) (hN : N ≤ 12) (ds : List Dg) (hc : CutD N ds) (hl : ds.length ≤ 12) : ∀ (m k : Nat) (out : List (List Int)), k + m = ds.length → out.Perm ((wholeD N :: ds.take k).map (pcs N (ds.take k))) →
    i_pieces_L9 (((), (ds, ((ds.length : Int), (k : Int)))), out) = some ((), (ds.drop k).foldl (fun out d => splitD d out) out) := by
  intro m
  induction m with
  | zero =>
    intro k out hk ho
    rw [List.drop_eq_nil_of_le (by omega)]
    simp only [i_pieces_L9]
    refine loopO_done ?_
    rw [i_pieces_L9_step, T.run_test, if_neg (by rw [decide_eq_true_eq]; omega), T.run_test, if_pos (by simp), T.run_ret]
    rfl
  | succ m ih =>
    intro k out hk ho
    have hlt : k < ds.length := by omega
    have w1 : w64 ((k : Int) + 1) = ((k + 1 : Nat) : Int) := by rw [w64_id (by omega) (by omega)]; omega
    have hte : ds.take (k + 1) = ds.take k ++ [ds[k]] := by rw [List.take_add_one, List.getElem?_eq_getElem hlt]; rfl
    have hcut : CutD N (ds.take k ++ [ds[k]]) := by
      rw [← hte]
      refine CutD.front (es := ds.drop (k + 1)) ?_
      rw [List.take_append_drop]; exact hc
    have hd := hc.1 ds[k] (List.getElem_mem hlt)
    have hol : out.length ≤ 20 := by
      have := ho.length_eq
      simp only [List.length_map, List.length_cons, List.length_take] at this
      omega
    have hp : ∀ p ∈ out, p.Pairwise (· < ·) ∧ p.length ≤ 100 := fun p hp => by
      obtain ⟨q, hq, rfl⟩ := List.mem_map.1 (ho.mem_iff.1 hp)
      have := (pcs_len hcut.front h3 hq).2
      exact ⟨pcs_sorted .., by omega⟩
    have h12 := i_pieces_L12_eq ds (ds.length : Int) (k : Int) ds[k] (by omega) out [] out rfl (by omega) hp
    have := ih (k + 1) (splitD ds[k] out) (by omega) (by rw [hte]; exact split_perm hcut ho)
    rw [List.nil_append] at h12
    rw [List.drop_eq_getElem_cons hlt, List.foldl_cons]
    simp only [i_pieces_L9] at this ⊢
    rw [← this]
    refine loopO_next ?_
    have h12' : i_pieces_L12 (((), ((), (ds, ((ds.length : Int), ((k : Int), ((), ((out.length : Int), (0 : Int)))))))), (out, (ds[k].1, ds[k].2))) = some (((), (ds, ((ds.length : Int), (k : Int)))), splitD ds[k] out) := h12
    rw [i_pieces_L9_step, T.run_test, if_pos (decide_eq_true (by omega)), T.run_test, if_pos (decide_eq_true (by omega)), T.run_sub, Int.toNat_natCast, List.getElem?_eq_getElem hlt, Option.bind_some, T.run_test, if_pos (by simp), T.run_test, if_pos (by simp), T.run_sub, h12', Option.bind_some, T.run_test, if_pos (by simp), T.run_ret, w1]
theorem i_pieces_eq {N : Nat} {ds : List Dg} (h3 : 3 ≤ N) (hN : N ≤ 12) (hl : ds.length ≤ 12) (hc : CutD N ds) : i_pieces ((N : Int), ds) = some ((), sortL (specP N ds)) := by
  have hw := i_pieces_whole ds N hN N 0 (by omega)
  have h9 := i_pieces_L9_eq h3 hN ds hc hl ds.length 0 [nameL N] (by omega) (by
    have : pcs N [] (wholeD N) = nameL N := by
      unfold pcs covD wholeD
      rw [List.filter_eq_self]
      intro v hv
      have := nameL_mem hv
      simp; omega
    simp [this])
  rw [Int.natCast_zero] at hw h9
  rw [List.drop_zero] at h9
  change _ = some ((), implP N ds) at h9
  have hsl := implP_count h3 hc
  have hsort := slices_SortFunc_Lint__slices_Compare_int_eq (implP N ds) (by omega) fun l hl => by have := implP_len h3 hc hl; omega
  have hsame : sortL (implP N ds) = sortL (specP N ds) := sortL_unique (sortL_up _) ((sortL_perm _).trans (pieces_same h3 hc))
  rw [i_pieces, i_pieces_t, T.run_test, if_pos rfl, T.run_sub, show List.replicate 0 (0 : Int) = nameL 0 from rfl, hw, Option.bind_some, T.run_test, if_pos (by simp), T.run_test, if_pos (by simp), T.run_sub, win_all, show List.set (List.replicate 1 ([] : List Int)) 0 (nameL N) = [nameL N] from rfl, h9, Option.bind_some, T.run_test, if_pos (by simp), T.run_sub, hsort, Option.bind_some, T.run_test, if_pos (by exact decide_eq_true ⟨rfl, (sortL_perm _).length_eq.symm⟩), T.run_ret, hsame]


def math_bits_Len_sh : FSh := ⟨[.one (.si .u64)], []⟩
def math_bits_Len_fo : List FO := [⟨[.one (.si .i64)], []⟩]
def math_bits_Len (x : Int) : Option Int := if 0 ≤ x ∧ x ≤ 18446744073709551615 then some (Lib.bitLen x.toNat : Int) else none
def math_bits_Len_ren : Shelf.Ren := ⟨fun k => if k = 125 then n_math_bits_Len else if k = 128 then 92 else 93, fun t => if t = 3 then 3 else if t = 4 then 4 else if t = 5 then 5 else if t = 9 then 9 else if t = 46 then 85 else if t = 51 then 96 else 98, fun x => x⟩
theorem math_bits_Len_lay : Lays.n125 Try.prog math_bits_Len_ren :=
  { mixed := by kernel_rfl, f125 := by kernel_rfl, f128 := by kernel_rfl, f129 := by kernel_rfl, t3 := by kernel_rfl, a3 := fun w => by kernel_rfl, z3 := fun w => by kernel_rfl, v3 := fun w => by kernel_rfl, t4 := by kernel_rfl, a4 := fun w => by kernel_rfl, z4 := fun w => by kernel_rfl, v4 := fun w => by kernel_rfl, t5 := by kernel_rfl, a5 := fun w => by kernel_rfl, z5 := fun w => by kernel_rfl, v5 := fun w => by kernel_rfl, t9 := by kernel_rfl, a9 := fun w => by kernel_rfl, z9 := fun w => by kernel_rfl, v9 := fun w => by kernel_rfl, t46 := by kernel_rfl, a46 := fun w => by kernel_rfl, z46 := fun w => by kernel_rfl, v46 := fun w => by kernel_rfl, t51 := by kernel_rfl, a51 := fun w => by kernel_rfl, z51 := fun w => by kernel_rfl, v51 := fun w => by kernel_rfl, t53 := by kernel_rfl, a53 := fun w => by kernel_rfl, z53 := fun w => by kernel_rfl, v53 := fun w => by kernel_rfl }
theorem math_bits_Len_ok : FOK Try.prog n_math_bits_Len math_bits_Len_sh math_bits_Len_fo math_bits_Len :=
  bitsLen_ok ⟨_, fnat_math_bits_Len, by kernel_rfl, by kernel_rfl⟩ (ρr := math_bits_Len_ren) rfl math_bits_Len_lay

def cmp_Less_int_sh : FSh := ⟨[(.one (.si .i64)), (.one (.si .i64))], []⟩

def cmp_Less_int_fo : List FO := [⟨[(.one .sb)], []⟩]
noncomputable def cmp_Less_int_t : (Int × Int) → T Bool := fun (x, y) =>
  (.sub (cmp_isNaN_int x) fun z0 =>
  (.test z0
  (.sub (cmp_isNaN_int y) fun z1 =>
   (.test (! z1)
   (.ret true)
   (.ret (decide (x < y)))))
  (.ret (decide (x < y)))))
noncomputable def cmp_Less_int (v : (Int × Int)) : Option Bool := (cmp_Less_int_t v).run
noncomputable def cmp_Less_int_E : TEnv := (E0.add1 n_cmp_isNaN_int cmp_isNaN_int_sh cmp_isNaN_int_fo cmp_isNaN_int)
theorem cmp_Less_int_Eok : (cmp_Less_int_E).OK := (E0ok.add1 cmp_isNaN_int_ok)
noncomputable def cmp_Less_int_told : Nat → Option SealT := fun id => none
theorem cmp_Less_int_ok : FOK Try.prog n_cmp_Less_int cmp_Less_int_sh cmp_Less_int_fo cmp_Less_int :=
  fn_ok (E := cmp_Less_int_E) (cmp_Less_int_Eok) (told := cmp_Less_int_told) (fl := []) (c := bodyOf fn_cmp_Less_int) (s := cmp_Less_int_sh) (l := cmp_Less_int_fo) (tree := cmp_Less_int_t) fnat_cmp_Less_int (by kernel_rfl) (by kernel_rfl) (by kernel_rfl) (loopsOK_of (ls := []) (by kernel_rfl) trivial) (fun v => by kernel_rfl)

theorem cmp_Less_int_val (x y : Int) : cmp_Less_int (x, y) = some (decide (x < y)) := by
  simp [cmp_Less_int, cmp_Less_int_t, T.run, cmp_isNaN_int, cmp_isNaN_int_t]



/-- Numbers as pairs, to be sorted with what is known of pairs. -/
def asD (l : List Int) : List Dg := l.map fun x => (x, (0 : Int))
def ofD (l : List Dg) : List Int := l.map Prod.fst
theorem ofD_asD (l : List Int) : ofD (asD l) = l := by
  unfold ofD asD
  rw [List.map_map]
  exact List.map_id' l
def sortI (l : List Int) : List Int := ofD (sortD (asD l))
theorem sortI_perm (l : List Int) : (sortI l).Perm l := by
  have := (sortD_perm (asD l)).map Prod.fst
  change (sortI l).Perm (ofD (asD l)) at this
  rwa [ofD_asD] at this
theorem asD_snd {l : List Int} {d : Dg} (h : d ∈ asD l) : d.2 = 0 := by
  obtain ⟨x, _, rfl⟩ := List.mem_map.1 h
  rfl
theorem sortI_up (l : List Int) : (sortI l).Pairwise (· ≤ ·) := by
  unfold sortI ofD
  rw [List.pairwise_map]
  exact (sortD_sorted (asD l)).imp fun {a b} h => by have := leD_iff.1 h; omega
theorem sortI_unique {l m : List Int} (h : m.Pairwise (· ≤ ·)) (hp : m.Perm l) : m = sortI l :=
  List.Perm.eq_of_pairwise (fun a b _ _ h1 h2 => by omega) h (sortI_up l) (hp.trans (sortI_perm l).symm)
theorem ofD_get {L : List Dg} {p : Nat} (h : p < L.length) : (ofD L)[p]? = some (gD L p).1 := by
  unfold ofD
  rw [List.getElem?_map, gD_some h]
  rfl
theorem w64_form (z : Int) : w64 z = if z % 18446744073709551616 ≥ 9223372036854775808 then z % 18446744073709551616 - 18446744073709551616 else z % 18446744073709551616 := by
  simp [w64, IntKind.wrap, IntKind.bits, IntKind.signed]
theorem w64_mod (z : Int) : w64 z % 18446744073709551616 = z % 18446744073709551616 := by
  rw [w64_form]
  split <;> omega
theorem w64_congr {x y : Int} (h : x % 18446744073709551616 = y % 18446744073709551616) : w64 x = w64 y := by
  rw [w64_form, w64_form, h]
theorem w64_mul_swap (z a b : Int) : w64 (w64 (z * a) * b) = w64 (w64 (z * b) * a) := by
  apply w64_congr
  rw [Int.mul_emod, w64_mod, ← Int.mul_emod, Int.mul_emod (w64 (z * b)), w64_mod, ← Int.mul_emod]
  congr 1
  rw [Int.mul_assoc, Int.mul_comm a b, Int.mul_assoc]
theorem foldl_mul_perm (f : Int → Int) {l m : List Int} (h : l.Perm m) (a : Int) : l.foldl (fun o s => w64 (o * f s)) a = m.foldl (fun o s => w64 (o * f s)) a :=
  h.foldl_eq' (fun x _ y _ z => w64_mul_swap z (f x) (f y)) a


def slices_insertionSortOrdered_int_sh : FSh := ⟨[(.one (.rw 0 0)), (.one (.si .i64)), (.one (.si .i64))], [(.row 0 (.int .i64))]⟩

def slices_insertionSortOrdered_int_L4_sh : LSh := ⟨(fun ex => match ex with | .norm => [(0, none), (1, none), (2, none), (6, none), (7, none)] | .exit i => if i = 2 then [(0, none), (1, none), (2, none), (6, none)] else if i = 1 then [(0, none), (1, none), (2, none), (6, none)] else if i = 0 then [] else [] | .ret => []), [(0, (.one (.rw 0 0))), (1, (.one (.si .i64))), (2, (.one (.si .i64))), (6, (.one (.si .i64))), (7, (.one (.si .i64)))], [(.row 0 (.int .i64))], [⟨(.exit 2), [(0, (.one (.rw 0 0))), (1, (.one (.si .i64))), (2, (.one (.si .i64))), (6, (.one (.si .i64)))], [(.row 0 (.int .i64))]⟩], [], []⟩
noncomputable def slices_insertionSortOrdered_int_L4_step : ((Unit × Int × Int × Int × Int) × List (Int)) → T (((Unit × Int × Int × Int × Int) × List (Int)) ⊕ ((Unit × Int × Int × Int) × List (Int))) := fun (((), a, b, i, j), data) =>
  (.test (decide (j > a))
  (.test (decide ((0 ≤ j) ∧ (j < ((List.length data) : Int))))
   (.sub (data[(0 + (Int.toNat j))]?) fun z0 =>
    (.test (decide ((0 ≤ (w64 (j - 1))) ∧ ((w64 (j - 1)) < ((List.length data) : Int))))
    (.sub (data[(0 + (Int.toNat (w64 (j - 1))))]?) fun z1 =>
     (.sub (cmp_Less_int (z0, z1)) fun z2 =>
     (.test z2
     (.test (decide ((0 ≤ (w64 (j - 1))) ∧ ((w64 (j - 1)) < ((List.length data) : Int))))
      (.sub (data[(0 + (Int.toNat (w64 (j - 1))))]?) fun z3 =>
       (.test (decide ((0 ≤ j) ∧ (j < ((List.length data) : Int))))
       (.sub (data[(0 + (Int.toNat j))]?) fun z4 =>
        (.test (decide ((0 ≤ j) ∧ (j < ((List.length data) : Int))))
        (.sub (data[(0 + (Int.toNat j))]?) fun z5 =>
         (.test (decide ((0 ≤ (w64 (j - 1))) ∧ ((w64 (j - 1)) < ((List.length data) : Int))))
         (.sub ((List.set data (0 + (Int.toNat j)) z3)[(0 + (Int.toNat (w64 (j - 1))))]?) fun z6 =>
          (.test (decide ((0 = 0) ∧ ((List.length data) = (List.length (List.set (List.set data (0 + (Int.toNat j)) z3) (0 + (Int.toNat (w64 (j - 1)))) z4)))))
          (.ret (Sum.inl (((), (a, (b, (i, (w64 (j - 1)))))), (List.set (List.set data (0 + (Int.toNat j)) z3) (0 + (Int.toNat (w64 (j - 1)))) z4))))
          .fail))
         .fail))
        .fail))
       .fail))
      .fail)
     (.test (decide ((0 = 0) ∧ ((List.length data) = (List.length data))))
      (.ret (Sum.inr (((), (a, (b, i))), data)))
      .fail))))
    .fail))
   .fail)
  (.test (decide ((0 = 0) ∧ ((List.length data) = (List.length data))))
   (.ret (Sum.inr (((), (a, (b, i))), data)))
   .fail))
noncomputable def slices_insertionSortOrdered_int_L4 (v : ((Unit × Int × Int × Int × Int) × List (Int))) : Option ((Unit × Int × Int × Int) × List (Int)) := loopO (fun v => (slices_insertionSortOrdered_int_L4_step v).run) v

def slices_insertionSortOrdered_int_L1_sh : LSh := ⟨(fun ex => match ex with | .norm => [(0, none), (1, none), (2, none), (6, none)] | .exit i => if i = 0 then [] else [] | .ret => []), [(0, (.one (.rw 0 0))), (1, (.one (.si .i64))), (2, (.one (.si .i64))), (6, (.one (.si .i64)))], [(.row 0 (.int .i64))], [⟨(.exit 0), [], [(.row 0 (.int .i64))]⟩], [], []⟩
noncomputable def slices_insertionSortOrdered_int_L1_step : ((Unit × Int × Int × Int) × List (Int)) → T (((Unit × Int × Int × Int) × List (Int)) ⊕ (Unit × List (Int))) := fun (((), a, b, i), data) =>
  (.test (decide (i < b))
  (.test (decide ((0 = 0) ∧ ((List.length data) = (List.length data))))
   (.sub (slices_insertionSortOrdered_int_L4 (((), (a, (b, (i, i)))), data)) fun z0 =>
    (.test (decide ((0 = 0) ∧ ((List.length z0.2) = (List.length z0.2))))
    (.ret (Sum.inl (((), (z0.1.2.1, (z0.1.2.2.1, (w64 (z0.1.2.2.2 + 1))))), z0.2)))
    .fail))
   .fail)
  (.ret (Sum.inr ((), data))))
noncomputable def slices_insertionSortOrdered_int_L1 (v : ((Unit × Int × Int × Int) × List (Int))) : Option (Unit × List (Int)) := loopO (fun v => (slices_insertionSortOrdered_int_L1_step v).run) v

def slices_insertionSortOrdered_int_fo : List FO := [⟨[], [(.row 0 (.int .i64))]⟩]
noncomputable def slices_insertionSortOrdered_int_t : ((Unit × Int × Int) × List (Int)) → T (Unit × List (Int)) := fun (((), a, b), data) =>
  (.test (decide ((0 = 0) ∧ ((List.length data) = (List.length data))))
  (.sub (slices_insertionSortOrdered_int_L1 (((), (a, (b, (w64 (a + 1))))), data)) fun z0 =>
   (.ret ((), z0.2)))
  .fail)
noncomputable def slices_insertionSortOrdered_int (v : ((Unit × Int × Int) × List (Int))) : Option (Unit × List (Int)) := (slices_insertionSortOrdered_int_t v).run
noncomputable def slices_insertionSortOrdered_int_E : TEnv := (E0.add1 n_cmp_Less_int cmp_Less_int_sh cmp_Less_int_fo cmp_Less_int)
theorem slices_insertionSortOrdered_int_Eok : (slices_insertionSortOrdered_int_E).OK := (E0ok.add1 cmp_Less_int_ok)
noncomputable def slices_insertionSortOrdered_int_told : Nat → Option SealT := fun id => if id = 4 then some (LSh.told slices_insertionSortOrdered_int_L4_sh 1 (slices_insertionSortOrdered_int_L4_step)) else if id = 1 then some (LSh.told slices_insertionSortOrdered_int_L1_sh 1 (slices_insertionSortOrdered_int_L1_step)) else none
theorem slices_insertionSortOrdered_int_L4_ok : ToldOK Try.prog 1 (loopAt (bodyOf fn_slices_insertionSortOrdered_int) [0, 0]) (LSh.told slices_insertionSortOrdered_int_L4_sh 1 (slices_insertionSortOrdered_int_L4_step)) :=
  loop_ok (E := slices_insertionSortOrdered_int_E) (slices_insertionSortOrdered_int_Eok) (told := slices_insertionSortOrdered_int_told) (l := slices_insertionSortOrdered_int_L4_sh) (step := slices_insertionSortOrdered_int_L4_step) (loopsOK_of (ls := []) (by kernel_rfl) trivial) (by kernel_rfl) (fun v => by kernel_rfl)
theorem slices_insertionSortOrdered_int_L1_ok : ToldOK Try.prog 1 (loopAt (bodyOf fn_slices_insertionSortOrdered_int) [0]) (LSh.told slices_insertionSortOrdered_int_L1_sh 1 (slices_insertionSortOrdered_int_L1_step)) :=
  loop_ok (E := slices_insertionSortOrdered_int_E) (slices_insertionSortOrdered_int_Eok) (told := slices_insertionSortOrdered_int_told) (l := slices_insertionSortOrdered_int_L1_sh) (step := slices_insertionSortOrdered_int_L1_step) (loopsOK_of (ls := [loopAt (bodyOf fn_slices_insertionSortOrdered_int) [0, 0]]) (by kernel_rfl) ⟨.inr ⟨_, by kernel_rfl, slices_insertionSortOrdered_int_L4_ok⟩, trivial⟩) (by kernel_rfl) (fun v => by kernel_rfl)
theorem slices_insertionSortOrdered_int_ok : FOK Try.prog n_slices_insertionSortOrdered_int slices_insertionSortOrdered_int_sh slices_insertionSortOrdered_int_fo slices_insertionSortOrdered_int :=
  fn_ok (E := slices_insertionSortOrdered_int_E) (slices_insertionSortOrdered_int_Eok) (told := slices_insertionSortOrdered_int_told) (fl := []) (c := bodyOf fn_slices_insertionSortOrdered_int) (s := slices_insertionSortOrdered_int_sh) (l := slices_insertionSortOrdered_int_fo) (tree := slices_insertionSortOrdered_int_t) fnat_slices_insertionSortOrdered_int (by kernel_rfl) (by kernel_rfl) (by kernel_rfl) (loopsOK_of (ls := [loopAt (bodyOf fn_slices_insertionSortOrdered_int) [0]]) (by kernel_rfl) ⟨.inr ⟨_, by kernel_rfl, slices_insertionSortOrdered_int_L1_ok⟩, trivial⟩) (fun v => by kernel_rfl)

theorem slices_insertionSortOrdered_int_sink (b i : Int) : ∀ (j : Nat) (L : List Dg), j < L.length → L.length < 1000000 → (∀ d ∈ L, d.2 = 0) →
    slices_insertionSortOrdered_int_L4 (((), ((0 : Int), (b, (i, (j : Int))))), ofD L) = some (((), ((0 : Int), (b, i))), ofD (sinkD j L))
  | 0, L, hj, hl, hz => by
    simp only [slices_insertionSortOrdered_int_L4]
    exact loopO_done (by simp [slices_insertionSortOrdered_int_L4_step, T.run, sinkD])
  | j + 1, L, hj, hl, hz => by
    have ih := slices_insertionSortOrdered_int_sink b i j (swapD L j) (by rw [swapD_length]; omega) (by rw [swapD_length]; omega) (fun d hd => hz d ((swapD_perm hj).mem_iff.1 hd))
    simp only [slices_insertionSortOrdered_int_L4] at ih ⊢
    have w1 : w64 (((j + 1 : Nat) : Int) - 1) = (j : Int) := by rw [w64_id (by omega) (by omega)]; omega
    have hol : (ofD L).length = L.length := by unfold ofD; rw [List.length_map]
    have g1 := ofD_get hj
    have g2 := ofD_get (show j < L.length by omega)
    have z1 : (gD L (j + 1)).2 = 0 := by rw [gD_eq hj]; exact hz _ (List.getElem_mem hj)
    have z2 : (gD L j).2 = 0 := by rw [gD_eq (by omega)]; exact hz _ (List.getElem_mem (by omega))
    have hcmp : ltD (gD L (j + 1)) (gD L j) = decide ((gD L (j + 1)).1 < (gD L j).1) := by
      rw [Bool.eq_iff_iff, ltD_iff, decide_eq_true_eq, z1, z2]; omega
    have c0 : ((j + 1 : Nat) : Int) > 0 := by omega
    have c1 : (0 : Int) ≤ ((j + 1 : Nat) : Int) ∧ ((j + 1 : Nat) : Int) < ((ofD L).length : Int) := by omega
    have c2 : (0 : Int) ≤ (j : Int) ∧ (j : Int) < ((ofD L).length : Int) := by omega
    cases hlt : ltD (gD L (j + 1)) (gD L j) with
    | false =>
      have e : sinkD (j + 1) L = L := by unfold sinkD; rw [hlt]; rfl
      rw [e]
      refine loopO_done ?_
      rw [hcmp] at hlt
      rw [slices_insertionSortOrdered_int_L4_step, T.run_test, if_pos (decide_eq_true c0), T.run_test, if_pos (decide_eq_true c1), T.run_sub, Nat.zero_add, Int.toNat_natCast, g1, Option.bind_some, T.run_test, w1, if_pos (decide_eq_true c2), T.run_sub, Nat.zero_add, Int.toNat_natCast, g2, Option.bind_some, T.run_sub, cmp_Less_int_val, Option.bind_some, T.run_test, hlt, if_neg (by simp), T.run_test, if_pos (by simp), T.run_ret]
    | true =>
      have e : sinkD (j + 1) L = sinkD j (swapD L j) := by conv => lhs; unfold sinkD
                                                           rw [hlt]; rfl
      rw [e, ← ih]
      refine loopO_next ?_
      rw [hcmp] at hlt
      have g3 : ((ofD L).set (j + 1) (gD L j).1)[j]? = some (gD L j).1 := by rw [List.getElem?_set_ne (by omega)]; exact g2
      have hsw : ((ofD L).set (j + 1) (gD L j).1).set j (gD L (j + 1)).1 = ofD (swapD L j) := by unfold ofD swapD; rw [List.map_set, List.map_set]
      rw [slices_insertionSortOrdered_int_L4_step, T.run_test, if_pos (decide_eq_true c0), T.run_test, if_pos (decide_eq_true c1), T.run_sub, Nat.zero_add, Int.toNat_natCast, g1, Option.bind_some, T.run_test, w1, if_pos (decide_eq_true c2), T.run_sub, Nat.zero_add, Int.toNat_natCast, g2, Option.bind_some, T.run_sub, cmp_Less_int_val, Option.bind_some, T.run_test, hlt, if_pos rfl,
        T.run_test, if_pos (decide_eq_true c2), T.run_sub, Option.bind_some, T.run_test, if_pos (decide_eq_true c1), T.run_sub, Option.bind_some, T.run_test, if_pos (decide_eq_true c1), T.run_sub, Option.bind_some, T.run_test, if_pos (decide_eq_true c2), T.run_sub, g3, Option.bind_some, T.run_test, if_pos (by simp), T.run_ret, hsw]
theorem slices_insertionSortOrdered_int_isort : ∀ (n i : Nat) (L : List Dg), i + n = L.length → L.length < 1000000 → (∀ d ∈ L, d.2 = 0) → 0 < i →
    slices_insertionSortOrdered_int_L1 (((), ((0 : Int), ((L.length : Int), (i : Int)))), ofD L) = some ((), ofD (isortD n i L))
  | 0, i, L, hi, hl, hz, h0 => by
    simp only [slices_insertionSortOrdered_int_L1]
    refine loopO_done ?_
    rw [slices_insertionSortOrdered_int_L1_step, T.run_test, if_neg (by rw [decide_eq_true_eq]; omega), T.run_ret]
    rfl
  | n + 1, i, L, hi, hl, hz, h0 => by
    have ih := slices_insertionSortOrdered_int_isort n (i + 1) (sinkD i L) (by rw [sinkD_length]; omega) (by rw [sinkD_length]; omega) (fun d hd => hz d ((sinkD_perm (by omega)).mem_iff.1 hd)) (by omega)
    rw [sinkD_length] at ih
    have hs := slices_insertionSortOrdered_int_sink (L.length : Int) (i : Int) i L (by omega) hl hz
    simp only [slices_insertionSortOrdered_int_L1] at ih ⊢
    show _ = some ((), ofD (isortD n (i + 1) (sinkD i L)))
    rw [← ih]
    refine loopO_next ?_
    have w1 : w64 ((i : Int) + 1) = ((i + 1 : Nat) : Int) := by rw [w64_id (by omega) (by omega)]; omega
    rw [slices_insertionSortOrdered_int_L1_step, T.run_test, if_pos (decide_eq_true (by omega)), T.run_test, if_pos (by simp), T.run_sub, hs, Option.bind_some, T.run_test, if_pos (by simp), T.run_ret, w1]


def slices_pdqsortOrdered_int_sh : FSh := ⟨[(.one (.rw 0 0)), (.one (.si .i64)), (.one (.si .i64)), (.one (.si .i64))], [(.row 0 (.int .i64))]⟩

def slices_pdqsortOrdered_int_L2_sh : LSh := ⟨(fun ex => match ex with | .norm => [(0, none), (1, none), (2, none), (3, none), (8, none), (9, none)] | .exit i => if i = 0 then [] else [] | .ret => []), [(0, (.one (.rw 0 0))), (1, (.one (.si .i64))), (2, (.one (.si .i64))), (3, (.one (.si .i64))), (8, (.one .sb)), (9, (.one .sb))], [(.row 0 (.int .i64))], [⟨.ret, [], [(.row 0 (.int .i64))]⟩], [], []⟩
noncomputable def slices_pdqsortOrdered_int_L2_step : ((Unit × Int × Int × Int × Bool × Bool) × List (Int)) → T (((Unit × Int × Int × Int × Bool × Bool) × List (Int)) ⊕ (Unit × List (Int))) := fun (((), a, b, limit, wasBalanced, wasPartitioned), data) =>
  (.test (decide ((w64 (b - a)) ≤ 12))
  (.test (decide ((0 = 0) ∧ ((List.length data) = (List.length data))))
   (.sub (slices_insertionSortOrdered_int (((), (a, b)), data)) fun z0 =>
    (.ret (Sum.inr ((), z0.2))))
   .fail)
  (.test (limit == 0)
   .fail
   (.test (! wasBalanced)
    .fail
    .fail)))
noncomputable def slices_pdqsortOrdered_int_L2 (v : ((Unit × Int × Int × Int × Bool × Bool) × List (Int))) : Option (Unit × List (Int)) := loopO (fun v => (slices_pdqsortOrdered_int_L2_step v).run) v

def slices_pdqsortOrdered_int_fo : List FO := [⟨[], [(.row 0 (.int .i64))]⟩]
noncomputable def slices_pdqsortOrdered_int_t : ((Unit × Int × Int × Int) × List (Int)) → T (Unit × List (Int)) := fun (((), a, b, limit), data) =>
  (.test (decide ((0 = 0) ∧ ((List.length data) = (List.length data))))
  (.sub (slices_pdqsortOrdered_int_L2 (((), (a, (b, (limit, (true, true))))), data)) fun z0 =>
   (.ret ((), z0.2)))
  .fail)
noncomputable def slices_pdqsortOrdered_int (v : ((Unit × Int × Int × Int) × List (Int))) : Option (Unit × List (Int)) := (slices_pdqsortOrdered_int_t v).run
noncomputable def slices_pdqsortOrdered_int_E : TEnv := (E0.add1 n_slices_insertionSortOrdered_int slices_insertionSortOrdered_int_sh slices_insertionSortOrdered_int_fo slices_insertionSortOrdered_int)
theorem slices_pdqsortOrdered_int_Eok : (slices_pdqsortOrdered_int_E).OK := (E0ok.add1 slices_insertionSortOrdered_int_ok)
noncomputable def slices_pdqsortOrdered_int_told : Nat → Option SealT := fun id => if id = 2 then some (LSh.told slices_pdqsortOrdered_int_L2_sh 1 (slices_pdqsortOrdered_int_L2_step)) else none
theorem slices_pdqsortOrdered_int_L2_ok : ToldOK Try.prog 1 (loopAt (bodyOf fn_slices_pdqsortOrdered_int) [0]) (LSh.told slices_pdqsortOrdered_int_L2_sh 1 (slices_pdqsortOrdered_int_L2_step)) :=
  loop_ok (E := slices_pdqsortOrdered_int_E) (slices_pdqsortOrdered_int_Eok) (told := slices_pdqsortOrdered_int_told) (l := slices_pdqsortOrdered_int_L2_sh) (step := slices_pdqsortOrdered_int_L2_step) (loopsOK_of (ls := []) (by kernel_rfl) trivial) (by kernel_rfl) (fun v => by kernel_rfl)
theorem slices_pdqsortOrdered_int_ok : FOK Try.prog n_slices_pdqsortOrdered_int slices_pdqsortOrdered_int_sh slices_pdqsortOrdered_int_fo slices_pdqsortOrdered_int :=
  fn_ok (E := slices_pdqsortOrdered_int_E) (slices_pdqsortOrdered_int_Eok) (told := slices_pdqsortOrdered_int_told) (fl := []) (c := bodyOf fn_slices_pdqsortOrdered_int) (s := slices_pdqsortOrdered_int_sh) (l := slices_pdqsortOrdered_int_fo) (tree := slices_pdqsortOrdered_int_t) fnat_slices_pdqsortOrdered_int (by kernel_rfl) (by kernel_rfl) (by kernel_rfl) (loopsOK_of (ls := [loopAt (bodyOf fn_slices_pdqsortOrdered_int) [0]]) (by kernel_rfl) ⟨.inr ⟨_, by kernel_rfl, slices_pdqsortOrdered_int_L2_ok⟩, trivial⟩) (fun v => by kernel_rfl)

def slices_Sort_int_sh : FSh := ⟨[(.one (.rw 0 0))], [(.row 0 (.int .i64))]⟩

def slices_Sort_int_fo : List FO := [⟨[], [(.row 0 (.int .i64))]⟩]
noncomputable def slices_Sort_int_t : (Unit × List (Int)) → T (Unit × List (Int)) := fun ((), x) =>
  (.sub (math_bits_Len (wu64 ((List.length x) : Int))) fun z0 =>
  (.test (decide ((0 = 0) ∧ ((List.length x) = (List.length x))))
  (.sub (slices_pdqsortOrdered_int (((), ((0 : Int), (((List.length x) : Int), z0))), x)) fun z1 =>
   (.ret ((), z1.2)))
  .fail))
noncomputable def slices_Sort_int (v : (Unit × List (Int))) : Option (Unit × List (Int)) := (slices_Sort_int_t v).run
noncomputable def slices_Sort_int_E : TEnv := ((E0.add1 n_math_bits_Len math_bits_Len_sh math_bits_Len_fo math_bits_Len).add1 n_slices_pdqsortOrdered_int slices_pdqsortOrdered_int_sh slices_pdqsortOrdered_int_fo slices_pdqsortOrdered_int)
theorem slices_Sort_int_Eok : (slices_Sort_int_E).OK := ((E0ok.add1 math_bits_Len_ok).add1 slices_pdqsortOrdered_int_ok)
noncomputable def slices_Sort_int_told : Nat → Option SealT := fun id => none
theorem slices_Sort_int_ok : FOK Try.prog n_slices_Sort_int slices_Sort_int_sh slices_Sort_int_fo slices_Sort_int :=
  fn_ok (E := slices_Sort_int_E) (slices_Sort_int_Eok) (told := slices_Sort_int_told) (fl := []) (c := bodyOf fn_slices_Sort_int) (s := slices_Sort_int_sh) (l := slices_Sort_int_fo) (tree := slices_Sort_int_t) fnat_slices_Sort_int (by kernel_rfl) (by kernel_rfl) (by kernel_rfl) (loopsOK_of (ls := []) (by kernel_rfl) trivial) (fun v => by kernel_rfl)

theorem slices_Sort_int_eq (l : List Int) (hl : l.length ≤ 12) : slices_Sort_int ((), l) = some ((), sortI l) := by
  have hw : wu64 (l.length : Int) = (l.length : Int) := IntWalk.u64_in _ ⟨by omega, by omega⟩
  have hz : math_bits_Len (wu64 (l.length : Int)) = some (Lib.bitLen l.length : Int) := by
    rw [hw]; unfold math_bits_Len; rw [if_pos ⟨by omega, by omega⟩, Int.toNat_natCast]
  have w0 : w64 ((l.length : Int) - 0) = (l.length : Int) := by rw [w64_id (by omega) (by omega)]; omega
  have w1 : w64 ((0 : Int) + 1) = ((1 : Nat) : Int) := by rw [w64_id (by omega) (by omega)]; rfl
  have hal : (asD l).length = l.length := by unfold asD; rw [List.length_map]
  have hins : slices_insertionSortOrdered_int (((), ((0 : Int), (l.length : Int))), l) = some ((), sortI l) := by
    by_cases h0 : l.length = 0
    · have : l = [] := List.eq_nil_of_length_eq_zero h0
      subst this
      rw [slices_insertionSortOrdered_int, slices_insertionSortOrdered_int_t, T.run_test, if_pos (by simp), T.run_sub, w1, slices_insertionSortOrdered_int_L1, loopO_done (o := ((), []))]
      · rfl
      · rfl
    · have h := slices_insertionSortOrdered_int_isort (l.length - 1) 1 (asD l) (by omega) (by omega) (fun d => asD_snd) (by omega)
      rw [ofD_asD, hal, ← hal, isortD_eq] at h
      rw [slices_insertionSortOrdered_int, slices_insertionSortOrdered_int_t, T.run_test, if_pos (by simp), T.run_sub, w1, ← hal, h, Option.bind_some, T.run_ret]
      rfl
  rw [slices_Sort_int, slices_Sort_int_t, T.run_sub, hz, Option.bind_some, T.run_test, if_pos (by simp), T.run_sub, slices_pdqsortOrdered_int, slices_pdqsortOrdered_int_t, T.run_test, if_pos (by simp), T.run_sub, slices_pdqsortOrdered_int_L2, loopO_done (o := ((), sortI l)), Option.bind_some, T.run_ret, Option.bind_some, T.run_ret]
  rw [slices_pdqsortOrdered_int_L2_step, T.run_test, w0, if_pos (decide_eq_true (by omega)), T.run_test, if_pos (by simp), T.run_sub, hins, Option.bind_some, T.run_ret]


def i_sizes_sh : FSh := ⟨[(.one (.si .i64)), (.one (.sl (.pair (.int .i64) (.int .i64)) false false))], []⟩

def i_sizes_L3_sh : LSh := ⟨(fun ex => match ex with | .norm => [(5, none), (11, none), (12, none), (13, none)] | .exit i => if i = 0 then [(5, none)] else [] | .ret => [(4, none)]), [(5, (.one (.rw 0 0))), (11, (.one (.rw 1 0))), (12, (.one (.si .i64))), (13, (.one (.si .i64)))], [(.row 0 (.int .i64)), (.row 0 (.list true (.int .i64)))], [⟨(.exit 0), [(5, (.one (.rw 0 0)))], [(.row 0 (.int .i64))]⟩], [], []⟩
noncomputable def i_sizes_L3_step : ((Unit × Unit × Int × Int) × (List (Int) × List (List (Int)))) → T (((Unit × Unit × Int × Int) × (List (Int) × List (List (Int)))) ⊕ (Unit × List (Int))) := fun (((), (), t12, t13), (out, t11)) =>
  (.test (decide (t13 < t12))
  (.test (decide ((0 ≤ t13) ∧ (t13 < ((List.length t11) : Int))))
   (.sub (t11[(0 + (Int.toNat t13))]?) fun z0 =>
    (.test (decide (1 ≤ (List.length (List.set (List.replicate 1 (0 : Int)) 0 ((List.length z0) : Int)))))
    (.test (decide ((0 + (List.length out)) ≤ (List.length out)))
     (.test (decide ((2 * (((List.length out) + (List.length (win (List.set (List.replicate 1 (0 : Int)) 0 ((List.length z0) : Int)) 0 1))) * 9)) ≤ 140737488355328))
      (.test (decide ((0 = 0) ∧ (((List.length out) + (List.length (win (List.set (List.replicate 1 (0 : Int)) 0 ((List.length z0) : Int)) 0 1))) = (List.length ((win out 0 (List.length out)) ++ (win (List.set (List.replicate 1 (0 : Int)) 0 ((List.length z0) : Int)) 0 1))))))
       (.test (decide ((0 = 0) ∧ ((List.length t11) = (List.length t11))))
        (.ret (Sum.inl (((), ((), (t12, (w64 (t13 + 1))))), (((win out 0 (List.length out)) ++ (win (List.set (List.replicate 1 (0 : Int)) 0 ((List.length z0) : Int)) 0 1)), t11))))
        .fail)
       .fail)
      .fail)
     .fail)
    .fail))
   .fail)
  (.test (decide ((0 = 0) ∧ ((List.length out) = (List.length out))))
   (.ret (Sum.inr ((), out)))
   .fail))
noncomputable def i_sizes_L3 (v : ((Unit × Unit × Int × Int) × (List (Int) × List (List (Int))))) : Option (Unit × List (Int)) := loopO (fun v => (i_sizes_L3_step v).run) v

def i_sizes_fo : List FO := [⟨[(.one (.rw 0 0))], [(.row 0 (.int .i64))]⟩]
noncomputable def i_sizes_t : (Int × List ((Int × Int))) → T (Unit × List (Int)) := fun (n, ds) =>
  (.sub (i_pieces (n, ds)) fun z0 =>
  (.test (decide ((0 = 0) ∧ (0 = (List.length (List.replicate 0 (0 : Int))))))
  (.test (decide ((0 = 0) ∧ ((List.length z0.2) = (List.length z0.2))))
   (.sub (i_sizes_L3 (((), ((), (((List.length z0.2) : Int), (0 : Int)))), ((List.replicate 0 (0 : Int)), z0.2))) fun z1 =>
    (.test (decide ((0 = 0) ∧ ((List.length z1.2) = (List.length z1.2))))
    (.sub (slices_Sort_int ((), z1.2)) fun z2 =>
     (.test (decide ((0 = 0) ∧ ((List.length z1.2) = (List.length z2.2))))
     (.ret ((), z2.2))
     .fail))
    .fail))
   .fail)
  .fail))
noncomputable def i_sizes (v : (Int × List ((Int × Int)))) : Option (Unit × List (Int)) := (i_sizes_t v).run
noncomputable def i_sizes_E : TEnv := ((E0.add1 n_i_pieces i_pieces_sh i_pieces_fo i_pieces).add1 n_slices_Sort_int slices_Sort_int_sh slices_Sort_int_fo slices_Sort_int)
theorem i_sizes_Eok : (i_sizes_E).OK := ((E0ok.add1 i_pieces_ok).add1 slices_Sort_int_ok)
noncomputable def i_sizes_told : Nat → Option SealT := fun id => if id = 3 then some (LSh.told i_sizes_L3_sh 0 (i_sizes_L3_step)) else none
theorem i_sizes_L3_ok : ToldOK Try.prog 0 (loopAt (bodyOf fn_i_sizes) [0]) (LSh.told i_sizes_L3_sh 0 (i_sizes_L3_step)) :=
  loop_ok (E := i_sizes_E) (i_sizes_Eok) (told := i_sizes_told) (l := i_sizes_L3_sh) (step := i_sizes_L3_step) (loopsOK_of (ls := []) (by kernel_rfl) trivial) (by kernel_rfl) (fun v => by kernel_rfl)
theorem i_sizes_ok : FOK Try.prog n_i_sizes i_sizes_sh i_sizes_fo i_sizes :=
  fn_ok (E := i_sizes_E) (i_sizes_Eok) (told := i_sizes_told) (fl := []) (c := bodyOf fn_i_sizes) (s := i_sizes_sh) (l := i_sizes_fo) (tree := i_sizes_t) fnat_i_sizes (by kernel_rfl) (by kernel_rfl) (by kernel_rfl) (loopsOK_of (ls := [loopAt (bodyOf fn_i_sizes) [0]]) (by kernel_rfl) ⟨.inr ⟨_, by kernel_rfl, i_sizes_L3_ok⟩, trivial⟩) (fun v => by kernel_rfl)

/-- The sizes of the pieces. -/
def szL (N : Nat) (ds : List Dg) : List Int := (sortL (specP N ds)).map fun p => (p.length : Int)
theorem szL_mem {N : Nat} {ds : List Dg} (hc : CutD N ds) (h3 : 3 ≤ N) {s : Int} (h : s ∈ szL N ds) : 3 ≤ s ∧ s ≤ (N : Int) := by
  obtain ⟨p, hp, rfl⟩ := List.mem_map.1 h
  obtain ⟨k, hk, rfl⟩ := List.mem_map.1 (((sortL_perm _).trans (specP_perm hc h3)).mem_iff.1 hp)
  have := pcs_len hc h3 hk
  omega
theorem sortP_len {N : Nat} {ds : List Dg} (hc : CutD N ds) (h3 : 3 ≤ N) : (sortL (specP N ds)).length = ds.length + 1 := by
  rw [(sortL_perm _).length_eq, specP_len hc h3]
theorem szL_len {N : Nat} {ds : List Dg} (hc : CutD N ds) (h3 : 3 ≤ N) : (szL N ds).length = ds.length + 1 := by
  unfold szL; rw [List.length_map, sortP_len hc h3]
theorem i_sizes_L3_eq (t11 : List (List Int)) (hl : t11.length ≤ 20) (hb : ∀ p ∈ t11, p.length ≤ 100) : ∀ (m k : Nat) (out : List Int), k + m = t11.length → out.length = k →
    i_sizes_L3 (((), ((), ((t11.length : Int), (k : Int)))), (out, t11)) = some ((), out ++ (t11.drop k).map fun p => (p.length : Int)) := by
  intro m
  induction m with
  | zero =>
    intro k out hk ho
    rw [List.drop_eq_nil_of_le (by omega)]
    simp only [i_sizes_L3]
    refine loopO_done ?_
    rw [i_sizes_L3_step, T.run_test, if_neg (by rw [decide_eq_true_eq]; omega), T.run_test, if_pos (by simp), T.run_ret]
    simp
  | succ m ih =>
    intro k out hk ho
    have hlt : k < t11.length := by omega
    have w1 : w64 ((k : Int) + 1) = ((k + 1 : Nat) : Int) := by rw [w64_id (by omega) (by omega)]; omega
    have := ih (k + 1) (out ++ [(t11[k].length : Int)]) (by omega) (by rw [List.length_append, List.length_singleton]; omega)
    rw [List.drop_eq_getElem_cons hlt, List.map_cons, List.append_cons]
    simp only [i_sizes_L3] at this ⊢
    rw [← this]
    refine loopO_next ?_
    rw [i_sizes_L3_step, T.run_test, if_pos (decide_eq_true (by omega)), T.run_test, if_pos (decide_eq_true (by omega)), T.run_sub, Nat.zero_add, Int.toNat_natCast, List.getElem?_eq_getElem hlt, Option.bind_some]
    simp only [win_one, win_all]
    rw [T.run_test, if_pos (by simp), T.run_test, if_pos (by simp), T.run_test, if_pos (by exact decide_eq_true (by rw [List.length_singleton]; omega)), T.run_test, if_pos (by simp), T.run_test, if_pos (by simp), T.run_ret, w1]
theorem i_sizes_eq {N : Nat} {ds : List Dg} (h3 : 3 ≤ N) (hN : N ≤ 12) (hl : ds.length + 3 ≤ N) (hc : CutD N ds) : i_sizes ((N : Int), ds) = some ((), sortI (szL N ds)) := by
  have hp := i_pieces_eq h3 hN (by omega) hc
  have hlen := sortP_len hc h3
  have hL := i_sizes_L3_eq (sortL (specP N ds)) (by omega) (fun p hp => by
    have := szL_mem hc h3 (s := (p.length : Int)) (List.mem_map_of_mem hp)
    omega) (sortL (specP N ds)).length 0 [] (by omega) rfl
  rw [Int.natCast_zero, List.drop_zero, List.nil_append] at hL
  change _ = some ((), szL N ds) at hL
  have hs := slices_Sort_int_eq (szL N ds) (by rw [szL_len hc h3]; omega)
  rw [i_sizes, i_sizes_t, T.run_sub, hp, Option.bind_some, T.run_test, if_pos (by simp), T.run_test, if_pos (by simp), T.run_sub, show List.replicate 0 (0 : Int) = [] from rfl, hL, Option.bind_some, T.run_test, if_pos (by simp), T.run_sub, hs, Option.bind_some, T.run_test, if_pos (by exact decide_eq_true ⟨rfl, (sortI_perm _).length_eq.symm⟩), T.run_ret]


def i_choose_sh : FSh := ⟨[(.one (.si .i64)), (.one (.si .i64))], []⟩

def i_choose_L5_sh : LSh := ⟨(fun ex => match ex with | .norm => [(0, none), (5, none), (11, none), (12, none)] | .exit i => if i = 0 then [(5, none)] else [] | .ret => [(4, none)]), [(0, (.one (.si .i64))), (5, (.one (.si .i64))), (11, (.one (.si .i64))), (12, (.one (.si .i64)))], [], [⟨(.exit 0), [(5, (.one (.si .i64)))], []⟩], [], []⟩
noncomputable def i_choose_L5_step : (Int × Int × Int × Int) → T ((Int × Int × Int × Int) ⊕ Int) := fun (n, out, t11, t12) =>
  (.test (decide (t12 < t11))
  (.test (decide ((w64 (t12 + 1)) ≠ 0))
   (.ret (Sum.inl (n, ((w64 (Int.tdiv (w64 (out * (w64 (n - t12)))) (w64 (t12 + 1)))), (t11, (w64 (t12 + 1)))))))
   .fail)
  (.ret (Sum.inr out)))
noncomputable def i_choose_L5 (v : (Int × Int × Int × Int)) : Option Int := loopO (fun v => (i_choose_L5_step v).run) v

def i_choose_fo : List FO := [⟨[(.one (.si .i64))], []⟩]
noncomputable def i_choose_t : (Int × Int) → T Int := fun (n, k) =>
  (.sub (i_within (k, ((0 : Int), n))) fun z0 =>
  (.test (! z0)
  (.ret (0 : Int))
  (.sub (i_choose_L5 (n, ((1 : Int), (k, (0 : Int))))) fun z1 =>
   (.ret z1))))
noncomputable def i_choose (v : (Int × Int)) : Option Int := (i_choose_t v).run
noncomputable def i_choose_E : TEnv := (E0.add1 n_i_within i_within_sh i_within_fo i_within)
theorem i_choose_Eok : (i_choose_E).OK := (E0ok.add1 i_within_ok)
noncomputable def i_choose_told : Nat → Option SealT := fun id => if id = 5 then some (LSh.told i_choose_L5_sh 0 (i_choose_L5_step)) else none
theorem i_choose_L5_ok : ToldOK Try.prog 0 (loopAt (bodyOf fn_i_choose) [0]) (LSh.told i_choose_L5_sh 0 (i_choose_L5_step)) :=
  loop_ok (E := i_choose_E) (i_choose_Eok) (told := i_choose_told) (l := i_choose_L5_sh) (step := i_choose_L5_step) (loopsOK_of (ls := []) (by kernel_rfl) trivial) (by kernel_rfl) (fun v => by kernel_rfl)
theorem i_choose_ok : FOK Try.prog n_i_choose i_choose_sh i_choose_fo i_choose :=
  fn_ok (E := i_choose_E) (i_choose_Eok) (told := i_choose_told) (fl := []) (c := bodyOf fn_i_choose) (s := i_choose_sh) (l := i_choose_fo) (tree := i_choose_t) fnat_i_choose (by kernel_rfl) (by kernel_rfl) (by kernel_rfl) (loopsOK_of (ls := [loopAt (bodyOf fn_i_choose) [0]]) (by kernel_rfl) ⟨.inr ⟨_, by kernel_rfl, i_choose_L5_ok⟩, trivial⟩) (fun v => by kernel_rfl)

theorem i_choose_L5_eq (n k : Int) (hk : k ≤ 1000) : ∀ (m i : Nat) (out : Int), (i : Int) + (m : Int) = k → i_choose_L5 (n, (out, (k, (i : Int)))) = some (chA n m i out) := by
  intro m
  induction m with
  | zero =>
    intro i out h
    simp only [i_choose_L5]
    refine loopO_done ?_
    rw [i_choose_L5_step, T.run_test, if_neg (by rw [decide_eq_true_eq]; omega), T.run_ret]
    rfl
  | succ m ih =>
    intro i out h
    have w1 : w64 ((i : Int) + 1) = ((i + 1 : Nat) : Int) := by rw [w64_id (by omega) (by omega)]; omega
    have := ih (i + 1) (w64 (Int.tdiv (w64 (out * (w64 (n - (i : Int))))) ((i + 1 : Nat) : Int))) (by omega)
    simp only [i_choose_L5] at this ⊢
    rw [chA, ← this]
    refine loopO_next ?_
    rw [i_choose_L5_step, T.run_test, if_pos (decide_eq_true (by omega)), T.run_test, w1, if_pos (by exact decide_eq_true (by omega)), T.run_ret]


def i_catalan_sh : FSh := ⟨[(.one (.si .i64))], []⟩

def i_catalan_fo : List FO := [⟨[(.one (.si .i64))], []⟩]
noncomputable def i_catalan_t : Int → T Int := fun n =>
  (.sub (i_choose ((w64 ((w64 (2 * n)) - 4)), (w64 (n - 2)))) fun z0 =>
  (.test (decide ((w64 (n - 1)) ≠ 0))
  (.ret (w64 (Int.tdiv z0 (w64 (n - 1)))))
  .fail))
noncomputable def i_catalan (v : Int) : Option Int := (i_catalan_t v).run
noncomputable def i_catalan_E : TEnv := (E0.add1 n_i_choose i_choose_sh i_choose_fo i_choose)
theorem i_catalan_Eok : (i_catalan_E).OK := (E0ok.add1 i_choose_ok)
noncomputable def i_catalan_told : Nat → Option SealT := fun id => none
theorem i_catalan_ok : FOK Try.prog n_i_catalan i_catalan_sh i_catalan_fo i_catalan :=
  fn_ok (E := i_catalan_E) (i_catalan_Eok) (told := i_catalan_told) (fl := []) (c := bodyOf fn_i_catalan) (s := i_catalan_sh) (l := i_catalan_fo) (tree := i_catalan_t) fnat_i_catalan (by kernel_rfl) (by kernel_rfl) (by kernel_rfl) (loopsOK_of (ls := []) (by kernel_rfl) trivial) (fun v => by kernel_rfl)

theorem i_catalan_eq (s : Int) (h1 : 3 ≤ s) (h2 : s ≤ 12) : i_catalan s = some (catV s) := by
  have e1 : w64 (w64 (2 * s) - 4) = 2 * s - 4 := by rw [w64_id (z := 2 * s) (by omega) (by omega), w64_id (by omega) (by omega)]
  have e2 : w64 (s - 2) = s - 2 := w64_id (by omega) (by omega)
  have e3 : w64 (s - 1) = s - 1 := w64_id (by omega) (by omega)
  have hc := i_choose_L5_eq (2 * s - 4) (s - 2) (by omega) (s - 2).toNat 0 1 (by omega)
  rw [Int.natCast_zero] at hc
  rw [i_catalan, i_catalan_t, T.run_sub, e1, e2, e3, i_choose, i_choose_t, T.run_sub, i_within_eq, Option.bind_some, T.run_test, if_neg (by rw [inB_iff.2 (by omega)]; simp), T.run_sub, hc, Option.bind_some, T.run_ret, Option.bind_some, T.run_test, if_pos (by exact decide_eq_true (by omega)), T.run_ret]
  rfl


def i_CountFiner_sh : FSh := ⟨[(.one (.si .i64)), (.one (.sl (.pair (.int .i64) (.int .i64)) false false))], []⟩

def i_CountFiner_L5_sh : LSh := ⟨(fun ex => match ex with | .norm => [(6, none), (15, none), (16, none), (17, none)] | .exit i => if i = 0 then [(6, none)] else [] | .ret => [(4, none), (5, none)]), [(6, (.one (.si .i64))), (15, (.one (.rw 0 0))), (16, (.one (.si .i64))), (17, (.one (.si .i64)))], [(.row 0 (.int .i64))], [⟨(.exit 0), [(6, (.one (.si .i64)))], []⟩], [], []⟩
noncomputable def i_CountFiner_L5_step : ((Int × Unit × Int × Int) × List (Int)) → T (((Int × Unit × Int × Int) × List (Int)) ⊕ Int) := fun ((out, (), t16, t17), t15) =>
  (.test (decide (t17 < t16))
  (.test (decide ((0 ≤ t17) ∧ (t17 < ((List.length t15) : Int))))
   (.sub (t15[(0 + (Int.toNat t17))]?) fun z0 =>
    (.sub (i_catalan z0) fun z1 =>
    (.test (decide ((0 = 0) ∧ ((List.length t15) = (List.length t15))))
    (.ret (Sum.inl (((w64 (out * z1)), ((), (t16, (w64 (t17 + 1))))), t15)))
    .fail)))
   .fail)
  (.ret (Sum.inr out)))
noncomputable def i_CountFiner_L5 (v : ((Int × Unit × Int × Int) × List (Int))) : Option Int := loopO (fun v => (i_CountFiner_L5_step v).run) v

def i_CountFiner_fo : List FO := [⟨[(.one (.si .i64)), (.one .sb)], []⟩]
noncomputable def i_CountFiner_t : (Int × List ((Int × Int))) → T (Int × Bool) := fun (n, ds) =>
  (.sub (i_IsCut (n, ds)) fun z0 =>
  (.test (! z0)
  (.ret ((0 : Int), false))
  (.sub (i_sizes (n, ds)) fun z1 =>
   (.test (decide ((0 = 0) ∧ ((List.length z1.2) = (List.length z1.2))))
   (.sub (i_CountFiner_L5 (((1 : Int), ((), (((List.length z1.2) : Int), (0 : Int)))), z1.2)) fun z2 =>
    (.ret (z2, true)))
   .fail))))
noncomputable def i_CountFiner (v : (Int × List ((Int × Int)))) : Option (Int × Bool) := (i_CountFiner_t v).run
noncomputable def i_CountFiner_E : TEnv := (((E0.add1 n_i_IsCut i_IsCut_sh i_IsCut_fo i_IsCut).add1 n_i_sizes i_sizes_sh i_sizes_fo i_sizes).add1 n_i_catalan i_catalan_sh i_catalan_fo i_catalan)
theorem i_CountFiner_Eok : (i_CountFiner_E).OK := (((E0ok.add1 i_IsCut_ok).add1 i_sizes_ok).add1 i_catalan_ok)
noncomputable def i_CountFiner_told : Nat → Option SealT := fun id => if id = 5 then some (LSh.told i_CountFiner_L5_sh 0 (i_CountFiner_L5_step)) else none
theorem i_CountFiner_L5_ok : ToldOK Try.prog 0 (loopAt (bodyOf fn_i_CountFiner) [0]) (LSh.told i_CountFiner_L5_sh 0 (i_CountFiner_L5_step)) :=
  loop_ok (E := i_CountFiner_E) (i_CountFiner_Eok) (told := i_CountFiner_told) (l := i_CountFiner_L5_sh) (step := i_CountFiner_L5_step) (loopsOK_of (ls := []) (by kernel_rfl) trivial) (by kernel_rfl) (fun v => by kernel_rfl)
theorem i_CountFiner_ok : FOK Try.prog n_i_CountFiner i_CountFiner_sh i_CountFiner_fo i_CountFiner :=
  fn_ok (E := i_CountFiner_E) (i_CountFiner_Eok) (told := i_CountFiner_told) (fl := []) (c := bodyOf fn_i_CountFiner) (s := i_CountFiner_sh) (l := i_CountFiner_fo) (tree := i_CountFiner_t) fnat_i_CountFiner (by kernel_rfl) (by kernel_rfl) (by kernel_rfl) (loopsOK_of (ls := [loopAt (bodyOf fn_i_CountFiner) [0]]) (by kernel_rfl) ⟨.inr ⟨_, by kernel_rfl, i_CountFiner_L5_ok⟩, trivial⟩) (fun v => by kernel_rfl)

theorem i_CountFiner_L5_eq (l : List Int) (hl : l.length ≤ 100) (hb : ∀ s ∈ l, 3 ≤ s ∧ s ≤ 12) : ∀ (m k : Nat) (out : Int), k + m = l.length →
    i_CountFiner_L5 ((out, ((), ((l.length : Int), (k : Int)))), l) = some ((l.drop k).foldl (fun o s => w64 (o * catV s)) out) := by
  intro m
  induction m with
  | zero =>
    intro k out hk
    rw [List.drop_eq_nil_of_le (by omega)]
    simp only [i_CountFiner_L5]
    refine loopO_done ?_
    rw [i_CountFiner_L5_step, T.run_test, if_neg (by rw [decide_eq_true_eq]; omega), T.run_ret]
    rfl
  | succ m ih =>
    intro k out hk
    have hlt : k < l.length := by omega
    have hs := hb l[k] (List.getElem_mem hlt)
    have w1 : w64 ((k : Int) + 1) = ((k + 1 : Nat) : Int) := by rw [w64_id (by omega) (by omega)]; omega
    have := ih (k + 1) (w64 (out * catV l[k])) (by omega)
    rw [List.drop_eq_getElem_cons hlt, List.foldl_cons]
    simp only [i_CountFiner_L5] at this ⊢
    rw [← this]
    refine loopO_next ?_
    rw [i_CountFiner_L5_step, T.run_test, if_pos (decide_eq_true (by omega)), T.run_test, if_pos (decide_eq_true (by omega)), T.run_sub, Nat.zero_add, Int.toNat_natCast, List.getElem?_eq_getElem hlt, Option.bind_some, T.run_sub, i_catalan_eq _ hs.1 hs.2, Option.bind_some, T.run_test, if_pos (by simp), T.run_ret, w1]
/-- How many triangulations are finer. -/
def finV (n : Int) (ds : List Dg) : Int × Bool := if isCut n ds then ((szL n.toNat ds).foldl (fun o s => w64 (o * catV s)) 1, true) else (0, false)
theorem i_CountFiner_eq (n : Int) (ds : List Dg) (hl : ds.length < 4611686018427387904) : i_CountFiner (n, ds) = some (finV n ds) := by
  rw [i_CountFiner, i_CountFiner_t, T.run_sub, i_IsCut_eq n ds hl, Option.bind_some, T.run_test, finV]
  cases h : isCut n ds with
  | false => rfl
  | true =>
    obtain ⟨N, rfl, h3, hN, hlen, hc⟩ := isCut_cut h
    have hsl := (sortI_perm (szL N ds)).length_eq
    have hL := i_CountFiner_L5_eq (sortI (szL N ds)) (by rw [hsl, szL_len hc h3]; omega) (fun s hs => by have := szL_mem hc h3 ((sortI_perm _).mem_iff.1 hs); omega) (sortI (szL N ds)).length 0 1 (by omega)
    rw [Int.natCast_zero, List.drop_zero, foldl_mul_perm catV (sortI_perm (szL N ds))] at hL
    rw [if_neg (by simp), T.run_sub, i_sizes_eq h3 hN hlen hc, Option.bind_some, T.run_test, if_pos (by simp), T.run_sub, hL, Option.bind_some, T.run_ret, Int.toNat_natCast]
    rfl


def s_CountFiner_sh : FSh := ⟨[(.one (.si .i64)), (.one (.sl (.pair (.int .i64) (.int .i64)) false false))], []⟩

def s_CountFiner_L5_sh : LSh := ⟨(fun ex => match ex with | .norm => [(6, none), (16, none), (17, none), (18, none)] | .exit i => if i = 0 then [(6, none)] else [] | .ret => [(4, none), (5, none)]), [(6, (.one (.si .i64))), (16, (.one (.rw 0 0))), (17, (.one (.si .i64))), (18, (.one (.si .i64)))], [(.row 0 (.list true (.int .i64)))], [⟨(.exit 0), [(6, (.one (.si .i64)))], []⟩], [], []⟩
noncomputable def s_CountFiner_L5_step : ((Int × Unit × Int × Int) × List (List (Int))) → T (((Int × Unit × Int × Int) × List (List (Int))) ⊕ Int) := fun ((out, (), t17, t18), t16) =>
  (.test (decide (t18 < t17))
  (.test (decide ((0 ≤ t18) ∧ (t18 < ((List.length t16) : Int))))
   (.sub (t16[(0 + (Int.toNat t18))]?) fun z0 =>
    (.sub (s_cuChoose ((w64 (2 * (w64 (((List.length z0) : Int) - 2)))), (w64 (((List.length z0) : Int) - 2)))) fun z1 =>
    (.test (decide ((w64 ((w64 (((List.length z0) : Int) - 2)) + 1)) ≠ 0))
    (.test (decide ((0 = 0) ∧ ((List.length t16) = (List.length t16))))
     (.ret (Sum.inl (((w64 (out * (w64 (Int.tdiv z1 (w64 ((w64 (((List.length z0) : Int) - 2)) + 1)))))), ((), (t17, (w64 (t18 + 1))))), t16)))
     .fail)
    .fail)))
   .fail)
  (.ret (Sum.inr out)))
noncomputable def s_CountFiner_L5 (v : ((Int × Unit × Int × Int) × List (List (Int)))) : Option Int := loopO (fun v => (s_CountFiner_L5_step v).run) v

def s_CountFiner_fo : List FO := [⟨[(.one (.si .i64)), (.one .sb)], []⟩]
noncomputable def s_CountFiner_t : (Int × List ((Int × Int))) → T (Int × Bool) := fun (n, ds) =>
  (.sub (s_cuGood (n, ds)) fun z0 =>
  (.test (! z0)
  (.ret ((0 : Int), false))
  (.sub (s_cuPieces (n, ds)) fun z1 =>
   (.test (decide ((0 = 0) ∧ ((List.length z1.2) = (List.length z1.2))))
   (.sub (s_CountFiner_L5 (((1 : Int), ((), (((List.length z1.2) : Int), (0 : Int)))), z1.2)) fun z2 =>
    (.ret (z2, true)))
   .fail))))
noncomputable def s_CountFiner (v : (Int × List ((Int × Int)))) : Option (Int × Bool) := (s_CountFiner_t v).run
noncomputable def s_CountFiner_E : TEnv := (((E0.add1 n_s_cuGood s_cuGood_sh s_cuGood_fo s_cuGood).add1 n_s_cuPieces s_cuPieces_sh s_cuPieces_fo s_cuPieces).add1 n_s_cuChoose s_cuChoose_sh s_cuChoose_fo s_cuChoose)
theorem s_CountFiner_Eok : (s_CountFiner_E).OK := (((E0ok.add1 s_cuGood_ok).add1 s_cuPieces_ok).add1 s_cuChoose_ok)
noncomputable def s_CountFiner_told : Nat → Option SealT := fun id => if id = 5 then some (LSh.told s_CountFiner_L5_sh 0 (s_CountFiner_L5_step)) else none
theorem s_CountFiner_L5_ok : ToldOK Try.prog 0 (loopAt (bodyOf fn_s_CountFiner) [0]) (LSh.told s_CountFiner_L5_sh 0 (s_CountFiner_L5_step)) :=
  loop_ok (E := s_CountFiner_E) (s_CountFiner_Eok) (told := s_CountFiner_told) (l := s_CountFiner_L5_sh) (step := s_CountFiner_L5_step) (loopsOK_of (ls := []) (by kernel_rfl) trivial) (by kernel_rfl) (fun v => by kernel_rfl)
theorem s_CountFiner_ok : FOK Try.prog n_s_CountFiner s_CountFiner_sh s_CountFiner_fo s_CountFiner :=
  fn_ok (E := s_CountFiner_E) (s_CountFiner_Eok) (told := s_CountFiner_told) (fl := []) (c := bodyOf fn_s_CountFiner) (s := s_CountFiner_sh) (l := s_CountFiner_fo) (tree := s_CountFiner_t) fnat_s_CountFiner (by kernel_rfl) (by kernel_rfl) (by kernel_rfl) (loopsOK_of (ls := [loopAt (bodyOf fn_s_CountFiner) [0]]) (by kernel_rfl) ⟨.inr ⟨_, by kernel_rfl, s_CountFiner_L5_ok⟩, trivial⟩) (fun v => by kernel_rfl)

theorem s_CountFiner_L5_eq (t16 : List (List Int)) (hl : t16.length ≤ 100) (hb : ∀ p ∈ t16, 3 ≤ (p.length : Int) ∧ (p.length : Int) ≤ 12) : ∀ (m k : Nat) (out : Int), k + m = t16.length →
    s_CountFiner_L5 ((out, ((), ((t16.length : Int), (k : Int)))), t16) = some (((t16.drop k).map fun p => (p.length : Int)).foldl (fun o s => w64 (o * catV s)) out) := by
  intro m
  induction m with
  | zero =>
    intro k out hk
    rw [List.drop_eq_nil_of_le (by omega)]
    simp only [s_CountFiner_L5]
    refine loopO_done ?_
    rw [s_CountFiner_L5_step, T.run_test, if_neg (by rw [decide_eq_true_eq]; omega), T.run_ret]
    rfl
  | succ m ih =>
    intro k out hk
    have hlt : k < t16.length := by omega
    have hs := hb t16[k] (List.getElem_mem hlt)
    have w1 : w64 ((k : Int) + 1) = ((k + 1 : Nat) : Int) := by rw [w64_id (by omega) (by omega)]; omega
    have e2 : w64 ((t16[k].length : Int) - 2) = (t16[k].length : Int) - 2 := w64_id (by omega) (by omega)
    have e3 : w64 (2 * ((t16[k].length : Int) - 2)) = 2 * ((t16[k].length : Int) - 2) := w64_id (by omega) (by omega)
    have e4 : w64 ((t16[k].length : Int) - 2 + 1) = (t16[k].length : Int) - 1 := by rw [w64_id (by omega) (by omega)]; omega
    have hch := s_cuChoose_eq (t16[k].length : Int) hs.1 hs.2
    have := ih (k + 1) (w64 (out * catV (t16[k].length : Int))) (by omega)
    rw [List.drop_eq_getElem_cons hlt, List.map_cons, List.foldl_cons]
    simp only [s_CountFiner_L5] at this ⊢
    rw [← this]
    refine loopO_next ?_
    rw [s_CountFiner_L5_step, T.run_test, if_pos (decide_eq_true (by omega)), T.run_test, if_pos (decide_eq_true (by omega)), T.run_sub, Nat.zero_add, Int.toNat_natCast, List.getElem?_eq_getElem hlt, Option.bind_some, T.run_sub, e2, e3, hch, Option.bind_some, T.run_test, e4, if_pos (by exact decide_eq_true (by omega)), T.run_test, if_pos (by simp), T.run_ret, w1]
    rfl
theorem s_CountFiner_eq (n : Int) (ds : List Dg) (hl : ds.length < 4611686018427387904) : s_CountFiner (n, ds) = some (finV n ds) := by
  rw [s_CountFiner, s_CountFiner_t, T.run_sub, s_cuGood_eq n ds hl, Option.bind_some, T.run_test, finV]
  cases h : isCut n ds with
  | false => rfl
  | true =>
    obtain ⟨N, rfl, h3, hN, hlen, hc⟩ := isCut_cut h
    have hsl := sortP_len hc h3
    have hL := s_CountFiner_L5_eq (sortL (specP N ds)) (by omega) (fun p hp => by have := szL_mem hc h3 (s := (p.length : Int)) (List.mem_map_of_mem hp); omega) (sortL (specP N ds)).length 0 1 (by omega)
    rw [Int.natCast_zero, List.drop_zero] at hL
    change _ = some ((szL N ds).foldl _ _) at hL
    rw [if_neg (by simp), T.run_sub, s_cuPieces_eq h3 hN (by omega) hc, Option.bind_some, T.run_test, if_pos (by simp), T.run_sub, hL, Option.bind_some, T.run_ret, Int.toNat_natCast]
    rfl


def l_eqDiagonal_sh : FSh := ⟨[(.ag [(.si .i64), (.si .i64)]), (.ag [(.si .i64), (.si .i64)])], []⟩

def l_eqDiagonal_fo : List FO := [⟨[(.one .sb)], []⟩]
noncomputable def l_eqDiagonal_t : ((Int × Int) × (Int × Int)) → T Bool := fun ((a_0, a_1), (b_0, b_1)) =>
  (.test (a_0 != b_0)
  (.ret false)
  (.test (a_1 != b_1)
   (.ret false)
   (.ret true)))
noncomputable def l_eqDiagonal (v : ((Int × Int) × (Int × Int))) : Option Bool := (l_eqDiagonal_t v).run
noncomputable def l_eqDiagonal_E : TEnv := E0
theorem l_eqDiagonal_Eok : (l_eqDiagonal_E).OK := E0ok
noncomputable def l_eqDiagonal_told : Nat → Option SealT := fun id => none
theorem l_eqDiagonal_ok : FOK Try.prog n_l_eqDiagonal l_eqDiagonal_sh l_eqDiagonal_fo l_eqDiagonal :=
  fn_ok (E := l_eqDiagonal_E) (l_eqDiagonal_Eok) (told := l_eqDiagonal_told) (fl := []) (c := bodyOf fn_l_eqDiagonal) (s := l_eqDiagonal_sh) (l := l_eqDiagonal_fo) (tree := l_eqDiagonal_t) fnat_l_eqDiagonal (by kernel_rfl) (by kernel_rfl) (by kernel_rfl) (loopsOK_of (ls := []) (by kernel_rfl) trivial) (fun v => by kernel_rfl)

theorem l_eqDiagonal_eq (a b : Int × Int) : l_eqDiagonal (a, b) = some (decide (a = b)) := by
  obtain ⟨a0, a1⟩ := a
  obtain ⟨b0, b1⟩ := b
  simp only [l_eqDiagonal, l_eqDiagonal_t, T.run]
  by_cases h0 : a0 = b0
  · by_cases h1 : a1 = b1
    · simp [h0, h1]
    · simp [h0, h1]
  · simp [h0]


def l_eqDiagonalS_sh : FSh := ⟨[(.one (.sl (.pair (.int .i64) (.int .i64)) false false)), (.one (.sl (.pair (.int .i64) (.int .i64)) false false))], []⟩

def l_eqDiagonalS_L4_sh : LSh := ⟨(fun ex => match ex with | .norm => [(0, none), (1, none), (5, none)] | .exit i => if i = 0 then [] else [] | .ret => [(4, none)]), [(0, (.one (.sl (.pair (.int .i64) (.int .i64)) false false))), (1, (.one (.sl (.pair (.int .i64) (.int .i64)) false false))), (5, (.one (.si .i64)))], [], [⟨.ret, [(4, (.one .sb))], []⟩, ⟨(.exit 0), [], []⟩], [], []⟩
noncomputable def l_eqDiagonalS_L4_step : (List ((Int × Int)) × List ((Int × Int)) × Int) → T ((List ((Int × Int)) × List ((Int × Int)) × Int) ⊕ (Bool ⊕ Unit)) := fun (a, b, i) =>
  (.test (decide (i < ((List.length a) : Int)))
  (.test (decide ((0 ≤ i) ∧ (i < ((List.length a) : Int))))
   (.sub (a[(Int.toNat i)]?) fun z0 =>
    (.test (decide ((0 ≤ i) ∧ (i < ((List.length b) : Int))))
    (.sub (b[(Int.toNat i)]?) fun z1 =>
     (.sub (l_eqDiagonal ((z0.1, z0.2), (z1.1, z1.2))) fun z2 =>
     (.test (! z2)
     (.ret (Sum.inr (Sum.inl false)))
     (.ret (Sum.inl (a, (b, (w64 (i + 1)))))))))
    .fail))
   .fail)
  (.ret (Sum.inr (Sum.inr ()))))
noncomputable def l_eqDiagonalS_L4 (v : (List ((Int × Int)) × List ((Int × Int)) × Int)) : Option (Bool ⊕ Unit) := loopO (fun v => (l_eqDiagonalS_L4_step v).run) v

def l_eqDiagonalS_fo : List FO := [⟨[(.one .sb)], []⟩]
noncomputable def l_eqDiagonalS_t : (List ((Int × Int)) × List ((Int × Int))) → T Bool := fun (a, b) =>
  (.test (((List.length a) : Int) != ((List.length b) : Int))
  (.ret false)
  (.sub (l_eqDiagonalS_L4 (a, (b, (0 : Int)))) fun z0 =>
   (.test (Sum.isLeft z0)
   (.sub (Sum.getLeft? z0) fun z1 =>
    (.ret z1))
   (.sub (Sum.getRight? z0) fun z2 =>
    (.ret true)))))
noncomputable def l_eqDiagonalS (v : (List ((Int × Int)) × List ((Int × Int)))) : Option Bool := (l_eqDiagonalS_t v).run
noncomputable def l_eqDiagonalS_E : TEnv := (E0.add1 n_l_eqDiagonal l_eqDiagonal_sh l_eqDiagonal_fo l_eqDiagonal)
theorem l_eqDiagonalS_Eok : (l_eqDiagonalS_E).OK := (E0ok.add1 l_eqDiagonal_ok)
noncomputable def l_eqDiagonalS_told : Nat → Option SealT := fun id => if id = 4 then some (LSh.told l_eqDiagonalS_L4_sh 0 (l_eqDiagonalS_L4_step)) else none
theorem l_eqDiagonalS_L4_ok : ToldOK Try.prog 0 (loopAt (bodyOf fn_l_eqDiagonalS) [0]) (LSh.told l_eqDiagonalS_L4_sh 0 (l_eqDiagonalS_L4_step)) :=
  loop_ok (E := l_eqDiagonalS_E) (l_eqDiagonalS_Eok) (told := l_eqDiagonalS_told) (l := l_eqDiagonalS_L4_sh) (step := l_eqDiagonalS_L4_step) (loopsOK_of (ls := []) (by kernel_rfl) trivial) (by kernel_rfl) (fun v => by kernel_rfl)
theorem l_eqDiagonalS_ok : FOK Try.prog n_l_eqDiagonalS l_eqDiagonalS_sh l_eqDiagonalS_fo l_eqDiagonalS :=
  fn_ok (E := l_eqDiagonalS_E) (l_eqDiagonalS_Eok) (told := l_eqDiagonalS_told) (fl := []) (c := bodyOf fn_l_eqDiagonalS) (s := l_eqDiagonalS_sh) (l := l_eqDiagonalS_fo) (tree := l_eqDiagonalS_t) fnat_l_eqDiagonalS (by kernel_rfl) (by kernel_rfl) (by kernel_rfl) (loopsOK_of (ls := [loopAt (bodyOf fn_l_eqDiagonalS) [0]]) (by kernel_rfl) ⟨.inr ⟨_, by kernel_rfl, l_eqDiagonalS_L4_ok⟩, trivial⟩) (fun v => by kernel_rfl)

theorem l_eqDiagonalS_eq (a b : List (Int × Int)) (hl : a.length < 4611686018427387904) : l_eqDiagonalS (a, b) = some (decide (a = b)) := by
  by_cases hab : a.length = b.length
  · have h := loop_any (step := fun v => (l_eqDiagonalS_L4_step v).run) (xs := a.zip b) (fun p => !(decide (p.1 = p.2))) (fun k => (a, b, (k : Int))) (.inl false) (.inr ())
      (fun k x hx => by
        have hk := getElem?_lt hx
        rw [List.length_zip, hab, Nat.min_self] at hk
        rw [List.getElem?_zip_eq_some] at hx
        simp only [l_eqDiagonalS_L4_step, T.run, Option.bind_some, Int.toNat_natCast, hx.1, hx.2, Prod.eta, l_eqDiagonal_eq]
        rw [w64_id (by omega) (by omega)]
        have hka : k < a.length := by omega
        cases decide (x.1 = x.2) <;> simp [hk, hka])
      (by simp [l_eqDiagonalS_L4_step, T.run, hab])
    simp only [l_eqDiagonalS, l_eqDiagonalS_t, T.run, l_eqDiagonalS_L4]
    simp only [Int.natCast_zero] at h
    rw [h, hab]
    rw [zip_any_neD a b hab]
    cases decide (a = b) <;> simp
  · simp only [l_eqDiagonalS, l_eqDiagonalS_t, T.run]
    have : a ≠ b := fun e => hab (by rw [e])
    simp [this]
    omega


def l_FnExactCountFiner_sh : FSh := ⟨[(.one (.si .i64)), (.one (.sl (.pair (.int .i64) (.int .i64)) false false))], []⟩

def l_FnExactCountFiner_fo : List FO := [⟨[(.one .sb)], []⟩]
noncomputable def l_FnExactCountFiner_t : (Int × List ((Int × Int))) → T Bool := fun (aN, aDs) =>
  (.sub (l_szDiagonalS (aDs, (1048576 : Int))) fun z0 =>
  (.test (decide (z0 < 0))
  (.ret true)
  (.sub (l_toDiagonalS aDs) fun z1 =>
   (.test (decide ((0 + (List.length z1.2)) ≤ (List.length z1.2)))
   (.sub (s_CountFiner (aN, (win z1.2 0 (List.length z1.2)))) fun z2 =>
    (.sub (l_toDiagonalS aDs) fun z3 =>
    (.test (decide ((0 + (List.length z3.2)) ≤ (List.length z3.2)))
    (.sub (i_CountFiner (aN, (win z3.2 0 (List.length z3.2)))) fun z4 =>
     (.test (z4.1 != z2.1)
     (.ret false)
     (.test (! (z4.2 == z2.2))
      (.ret false)
      (.sub (l_toDiagonalS aDs) fun z5 =>
       (.test (decide ((0 + (List.length z3.2)) ≤ (List.length z3.2)))
       (.test (decide ((0 + (List.length z5.2)) ≤ (List.length z5.2)))
        (.sub (l_eqDiagonalS ((win z3.2 0 (List.length z3.2)), (win z5.2 0 (List.length z5.2)))) fun z6 =>
         (.test (! z6)
         (.ret false)
         (.ret true)))
        .fail)
       .fail)))))
    .fail)))
   .fail))))
noncomputable def l_FnExactCountFiner (v : (Int × List ((Int × Int)))) : Option Bool := (l_FnExactCountFiner_t v).run
noncomputable def l_FnExactCountFiner_E : TEnv := (((((E0.add1 n_l_szDiagonalS l_szDiagonalS_sh l_szDiagonalS_fo l_szDiagonalS).add1 n_l_toDiagonalS l_toDiagonalS_sh l_toDiagonalS_fo l_toDiagonalS).add1 n_s_CountFiner s_CountFiner_sh s_CountFiner_fo s_CountFiner).add1 n_i_CountFiner i_CountFiner_sh i_CountFiner_fo i_CountFiner).add1 n_l_eqDiagonalS l_eqDiagonalS_sh l_eqDiagonalS_fo l_eqDiagonalS)
theorem l_FnExactCountFiner_Eok : (l_FnExactCountFiner_E).OK := (((((E0ok.add1 l_szDiagonalS_ok).add1 l_toDiagonalS_ok).add1 s_CountFiner_ok).add1 i_CountFiner_ok).add1 l_eqDiagonalS_ok)
noncomputable def l_FnExactCountFiner_told : Nat → Option SealT := fun id => none
theorem l_FnExactCountFiner_ok : FOK Try.prog n_l_FnExactCountFiner l_FnExactCountFiner_sh l_FnExactCountFiner_fo l_FnExactCountFiner :=
  fn_ok (E := l_FnExactCountFiner_E) (l_FnExactCountFiner_Eok) (told := l_FnExactCountFiner_told) (fl := []) (c := bodyOf fn_l_FnExactCountFiner) (s := l_FnExactCountFiner_sh) (l := l_FnExactCountFiner_fo) (tree := l_FnExactCountFiner_t) fnat_l_FnExactCountFiner (by kernel_rfl) (by kernel_rfl) (by kernel_rfl) (loopsOK_of (ls := []) (by kernel_rfl) trivial) (fun v => by kernel_rfl)

theorem l_FnExactCountFiner_true (v : Int × List (Int × Int)) (hs : smallL ASh.small [.one (.si .i64), .one (.sl (.pair (.int .i64) (.int .i64)) false false)] v) : l_FnExactCountFiner v = some true := by
  obtain ⟨n, ds⟩ := v
  have hl0 : ds.length < 140737488355328 := hs.2.1
  have hl : ds.length < 4611686018427387904 := by omega
  rw [l_FnExactCountFiner, l_FnExactCountFiner_t, T.run_sub, l_szDiagonalS_eq ds _ (by decide) hl, Option.bind_some, T.run_test]
  by_cases hsz : ((1048576 : Int) - (ds.length : Int) < 0)
  · rw [if_pos (by rw [if_pos hsz]; rfl)]; rfl
  · have hr := i_CountFiner_eq n ds hl
    have hsp := s_CountFiner_eq n ds hl
    have ht := l_toDiagonalS_eq ds (by omega)
    rw [if_neg (by rw [if_neg hsz, decide_eq_true_eq]; exact hsz)]
    simp (config := { maxSteps := 10000000 }) [T.run, ht, win_all, hr, hsp, l_eqDiagonalS_eq ds ds hl]


end Go.Proofs.W
