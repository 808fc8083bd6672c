import Derived.Test.YtppalpflejcjeaaGreatQCcWk1
set_option linter.unusedVariables false
set_option linter.unusedSimpArgs false
set_option maxRecDepth 100000
set_option maxHeartbeats 4000000
namespace Go.Proofs.W
open Go Go.Gm Go.Proofs
open Go.RowKit Go.Shelf
def F1_sh : FSh := ⟨[.one (.rw 0 0), .one (.fn n_F18)], [.row 0 (.list true (.int .i64))]⟩
def F1_fo : List FO := [⟨[], [.row 0 (.list true (.int .i64))]⟩]
def F1 (v : (Unit × Unit) × List (List Int)) : Option (Unit × List (List Int)) := if v.2.length < 4611686018427387904 ∧ v.2.all (fun l => decide (l.length ≤ 9223372036854775807)) = true then some ((), sortLL v.2) else none
def F1_ren : Shelf.Ren := ⟨fun k => if k = 14 then 137 else if k = 15 then 135 else if k = 20 then 154 else if k = 21 then 155 else if k = 22 then 156 else if k = 23 then 157 else if k = 24 then 158 else if k = 25 then 159 else if k = 26 then 160 else if k = 27 then 161 else if k = 28 then 152 else if k = 29 then 153 else if k = 46 then 177 else if k = 47 then 173 else if k = 48 then 174 else if k = 49 then 178 else if k = 50 then 179 else if k = 57 then 184 else 118, fun t => if t = 0 then 0 else if t = 4 then 4 else if t = 5 then 5 else if t = 9 then 9 else if t = 22 then 55 else if t = 24 then 44 else if t = 25 then 103 else if t = 39 then 113 else if t = 45 then 124 else if t = 46 then 125 else if t = 50 then 29 else if t = 53 then 131 else if t = 55 then 69 else if t = 66 then 147 else if t = 70 then 151 else if t = 76 then 157 else if t = 77 then 24 else 3, fun x => x⟩
theorem F1_lay : SlLaysF.n6 Tryz.prog F1_ren :=
 { mixed := by kernel_rfl, f6 := ⟨"slices.SortFunc[[][]int,[]int]", by kernel_rfl, by kernel_rfl⟩, f14 := ⟨"slices.pdqsortCmpFunc[[]int]", by kernel_rfl, by kernel_rfl⟩, f15 := by kernel_rfl, f20 := ⟨"slices.insertionSortCmpFunc[[]int]", by kernel_rfl, by kernel_rfl⟩, f21 := ⟨"slices.heapSortCmpFunc[[]int]", by kernel_rfl, by kernel_rfl⟩, f22 := ⟨"slices.breakPatternsCmpFunc[[]int]", by kernel_rfl, by kernel_rfl⟩, f23 := ⟨"slices.choosePivotCmpFunc[[]int]", by kernel_rfl, by kernel_rfl⟩, f24 := ⟨"slices.reverseRangeCmpFunc[[]int]", by kernel_rfl, by kernel_rfl⟩, f25 := ⟨"slices.partialInsertionSortCmpFunc[[]int]", by kernel_rfl, by kernel_rfl⟩, f26 := ⟨"slices.partitionEqualCmpFunc[[]int]", by kernel_rfl, by kernel_rfl⟩, f27 := ⟨"slices.partitionCmpFunc[[]int]", by kernel_rfl, by kernel_rfl⟩, f28 := by kernel_rfl, f29 := by kernel_rfl, f46 := ⟨"slices.siftDownCmpFunc[[]int]", by kernel_rfl, by kernel_rfl⟩, f47 := by kernel_rfl, f48 := by kernel_rfl, f49 := ⟨"slices.medianAdjacentCmpFunc[[]int]", by kernel_rfl, by kernel_rfl⟩, f50 := ⟨"slices.medianCmpFunc[[]int]", by kernel_rfl, by kernel_rfl⟩, f57 := ⟨"slices.order2CmpFunc[[]int]", by kernel_rfl, by kernel_rfl⟩, t0 := by kernel_rfl, a0 := fun w => by kernel_rfl, z0 := fun w => by kernel_rfl, v0 := fun w => by kernel_rfl, t3 := by kernel_rfl, a3 := fun w => by kernel_rfl, z3 := fun w => by kernel_rfl, v3 := fun w => by kernel_rfl, t4 := by kernel_rfl, a4 := fun w => by kernel_rfl, z4 := fun w => by kernel_rfl, v4 := fun w => by kernel_rfl, t5 := by kernel_rfl, a5 := fun w => by kernel_rfl, z5 := fun w => by kernel_rfl, v5 := fun w => by kernel_rfl, t9 := by kernel_rfl, a9 := fun w => by kernel_rfl, z9 := fun w => by kernel_rfl, v9 := fun w => by kernel_rfl, t22 := by kernel_rfl, a22 := fun w => by kernel_rfl, z22 := fun w => by kernel_rfl, v22 := fun w => by kernel_rfl, a24 := fun w => by kernel_rfl, z24 := fun w => by kernel_rfl, t25 := by kernel_rfl, a25 := fun w => by kernel_rfl, z25 := fun w => by kernel_rfl, v25 := fun w => by kernel_rfl, t39 := by kernel_rfl, a39 := fun w => by kernel_rfl, z39 := fun w => by kernel_rfl, v39 := fun w => by kernel_rfl, t45 := by kernel_rfl, a45 := fun w => by kernel_rfl, z45 := fun w => by kernel_rfl, v45 := fun w => by kernel_rfl, t46 := by kernel_rfl, a46 := fun w => by kernel_rfl, z46 := fun w => by kernel_rfl, v46 := fun w => by kernel_rfl, t50 := by kernel_rfl, a50 := fun w => by kernel_rfl, z50 := fun w => by kernel_rfl, v50 := fun w => by kernel_rfl, t53 := by kernel_rfl, a53 := fun w => by kernel_rfl, z53 := fun w => by kernel_rfl, v53 := fun w => by kernel_rfl, t55 := by kernel_rfl, a55 := fun w => by kernel_rfl, z55 := fun w => by kernel_rfl, v55 := fun w => by kernel_rfl, t66 := by kernel_rfl, a66 := fun w => by kernel_rfl, z66 := fun w => by kernel_rfl, v66 := fun w => by kernel_rfl, t70 := by kernel_rfl, a70 := fun w => by kernel_rfl, z70 := fun w => by kernel_rfl, v70 := fun w => by kernel_rfl, t76 := by kernel_rfl, a76 := fun w => by kernel_rfl, z76 := fun w => by kernel_rfl, v76 := fun w => by kernel_rfl, t77 := by kernel_rfl, a77 := fun w => by kernel_rfl, z77 := fun w => by kernel_rfl, v77 := fun w => by kernel_rfl }
def F1_cr : Shelf.Ren := ⟨fun k => if k = 122 then 108 else 131, fun t => if t = 4 then 4 else 3, fun x => x⟩
theorem F1_cl : Lays.n122 Tryz.prog F1_cr := { mixed := by kernel_rfl, f122 := by kernel_rfl, f215 := by kernel_rfl, t3 := by kernel_rfl, a3 := fun w => by kernel_rfl, z3 := fun w => by kernel_rfl, v3 := fun w => by kernel_rfl, t4 := by kernel_rfl, a4 := fun w => by kernel_rfl, z4 := fun w => by kernel_rfl, v4 := fun w => by kernel_rfl }
theorem F1_c1 (x y : Int) (w : World) : Calls Tryz.prog 108 #[.int .i64 x, .int .i64 y] w fun e w' => e = .returned (.int .i64 (Lib.compareInt x y)) ∧ w' = w := Any.cmp_Compare_int F1_cl x y w
theorem F1_dr {xs ys : List Int} : ∀ {k : Nat}, (∀ j, j < k → xs.getD j 0 = ys.getD j 0) → k ≤ xs.length → k ≤ ys.length → cmpL xs ys = cmpL (xs.drop k) (ys.drop k)
 | 0, _, _, _ => rfl
 | k + 1, h, h1, h2 => by
  match xs, ys, h, h1, h2 with
  | x :: xs, y :: ys, h, h1, h2 =>
   have h0 := h 0 (by omega)
   simp only [List.getD_cons_zero] at h0
   subst h0
   have ih := F1_dr (xs := xs) (ys := ys) (k := k) (fun j hj => by simpa using h (j + 1) (by omega)) (by simpa using h1) (by simpa using h2)
   simpa [cmpL] using ih
set_option maxHeartbeats 2000000 in
set_option maxRecDepth 100000 in
theorem F1_cw (a1 a2 : Option Addr) (c1 c2 b1 o1 b2 o2 n m : Nat) (xs ys : List Int) (w : World) (hn : n = xs.length) (hm : m = ys.length) (hx : n ≤ 9223372036854775807) (hy : m ≤ 9223372036854775807) (h1 : 0 < n → a1 = some ⟨b1, o1, none⟩) (h2 : 0 < m → a2 = some ⟨b2, o2, none⟩)
  (hc1 : ∀ j, j < n → w.cell? ⟨b1, o1 + j, none⟩ = some (.int .i64 (xs.getD j 0))) (hc2 : ∀ j, j < m → w.cell? ⟨b2, o2 + j, none⟩ = some (.int .i64 (ys.getD j 0))) :
  Calls Tryz.prog 119 #[.slice a1 n c1, .slice a2 m c2] w fun e w' => e = .returned (.int .i64 (cmpL xs ys)) ∧ ∃ q, w' = w.drewN q := by
 have mixed : Tryz.prog.follows .mixedOrders = true := by kernel_rfl
 have t0 : Tryz.prog.underlying 0 = some (TypeDesc.tuple #[]) := by kernel_rfl
 have a0 : ∀ w, (isAgg 0).run Tryz.prog w = .ok false w := fun w => by kernel_rfl
 have z0 : ∀ w, (Go.sizeOf 0).run Tryz.prog w = .ok 1 w := fun w => by kernel_rfl
 have v0 : ∀ w, (zeroValue 0).run Tryz.prog w = .ok (Value.tuple #[]) w := fun w => by kernel_rfl
 have t3 : Tryz.prog.underlying 3 = some (TypeDesc.int IntKind.i64) := by kernel_rfl
 have a3 : ∀ w, (isAgg 3).run Tryz.prog w = .ok false w := fun w => by kernel_rfl
 have z3 : ∀ w, (Go.sizeOf 3).run Tryz.prog w = .ok 1 w := fun w => by kernel_rfl
 have v3 : ∀ w, (zeroValue 3).run Tryz.prog w = .ok (Value.int IntKind.i64 0) w := fun w => by kernel_rfl
 have t4 : Tryz.prog.underlying 4 = some (TypeDesc.bool) := by kernel_rfl
 have a4 : ∀ w, (isAgg 4).run Tryz.prog w = .ok false w := fun w => by kernel_rfl
 have z4 : ∀ w, (Go.sizeOf 4).run Tryz.prog w = .ok 1 w := fun w => by kernel_rfl
 have v4 : ∀ w, (zeroValue 4).run Tryz.prog w = .ok (Value.bool false) w := fun w => by kernel_rfl
 have t22 : Tryz.prog.underlying 44 = some (TypeDesc.slice 3) := by kernel_rfl
 have a22 : ∀ w, (isAgg 44).run Tryz.prog w = .ok false w := fun w => by kernel_rfl
 have z22 : ∀ w, (Go.sizeOf 44).run Tryz.prog w = .ok 1 w := fun w => by kernel_rfl
 have v22 : ∀ w, (zeroValue 44).run Tryz.prog w = .ok (Value.slice none 0 0) w := fun w => by kernel_rfl
 have e104 : ∀ args w, (callFunc 108 args).run Tryz.prog w = .ok (.enter 108 args) w := enters_of Tryz.func108 (by kernel_rfl) rfl
 have K1 : Aside (∀ j, j < n → w.cell? ⟨b1, o1 + j, none⟩ = some (.int .i64 (xs.getD j 0))) := hc1
 have K2 : Aside (∀ j, j < m → w.cell? ⟨b2, o2 + j, none⟩ = some (.int .i64 (ys.getD j 0))) := hc2
 have KN : Aside (n = xs.length ∧ m = ys.length) := ⟨hn, hm⟩
 clear hc1 hc2 hn hm
 go_enter Tryz.func119, Tryz.ntmps119
 go_wp2
 go_loopg [11] n (fun g s11 wr => ∃ k q : Nat, k ≤ n ∧ k ≤ m ∧ n - k ≤ g ∧ s11 = .int .i64 k ∧ wr = w.drewN q ∧ Aside (∀ j, j < k → xs.getD j 0 = ys.getD j 0))
 case atStart => exact ⟨0, 0, Nat.zero_le _, Nat.zero_le _, by omega, rfl, rfl, fun j hj => absurd hj (Nat.not_lt_zero _)⟩
 case round =>
  obtain ⟨k, q, hk, hkm, hg, rfl, rfl, heq⟩ := hrel
  by_cases hlt : k < n
  ·obtain rfl := h1 (by omega)
   have g1 : w.cell? ⟨b1, o1 + k, none⟩ = some (.int .i64 (xs.getD k 0)) := K1.out k (by omega)
   generalize hxk : xs.getD k 0 = x at g1
   have B : Aside (xs.getD k 0 = x) := hxk
   clear hxk
   by_cases hlm : k < m
   ·obtain rfl := h2 (by omega)
    have g2 : w.cell? ⟨b2, o2 + k, none⟩ = some (.int .i64 (ys.getD k 0)) := K2.out k (by omega)
    generalize hyk : ys.getD k 0 = y at g2
    have B2 : Aside (ys.getD k 0 = y) := hyk
    clear hyk
    have hd : cmpL xs ys = if x < y then -1 else if y < x then 1 else cmpL (xs.drop (k + 1)) (ys.drop (k + 1)) := by
     obtain ⟨e1, e2⟩ := KN.out
     rw [F1_dr heq.out (by omega) (by omega), List.drop_eq_getElem_cons (i := k) (l := xs) (by omega), List.drop_eq_getElem_cons (i := k) (l := ys) (by omega)]
     rw [← B.out, ← B2.out, List.getD_eq_getElem?_getD, List.getD_eq_getElem?_getD, List.getElem?_eq_getElem (l := xs) (by omega), List.getElem?_eq_getElem (l := ys) (by omega)]
     rfl
    have D : Aside (cmpL xs ys = if x < y then -1 else if y < x then 1 else cmpL (xs.drop (k + 1)) (ys.drop (k + 1))) := hd
    clear hd
    rcases Int.lt_trichotomy x y with hxy | hxy | hxy
    ·have hc : Lib.compareInt x y = -1 := by unfold Lib.compareInt; rw [if_pos hxy]
     have DD : Aside (cmpL xs ys = -1) := by have := D.out; rwa [if_pos hxy] at this
     go_wp2_with fail
     refine (F1_c1 x y _).mono ?_
     rintro e w' ⟨rfl, rfl⟩
     rw [hc]
     go_wp2
     go_ret
     exact ⟨by rw [DD.out]; rfl, q, rfl⟩
    ·subst hxy
     have hc : Lib.compareInt x x = 0 := by unfold Lib.compareInt; rw [if_neg (Int.lt_irrefl x), if_neg (Int.lt_irrefl x)]
     go_wp2_with fail
     refine (F1_c1 x x _).mono ?_
     rintro e w' ⟨rfl, rfl⟩
     rw [hc]
     go_wp2
     go_roundg (n - (k + 1))
     case measure => omega
     case rel =>
      refine ⟨k + 1, q, by omega, by omega, by omega, by go_num, rfl, fun j hj => ?_⟩
      by_cases e : j = k
      ·subst e
       rw [B.out, B2.out]
      ·exact heq.out j (by omega)
    ·have hc : Lib.compareInt x y = 1 := by unfold Lib.compareInt; rw [if_neg (by omega), if_pos hxy]
     have DD : Aside (cmpL xs ys = 1) := by have := D.out; rwa [if_neg (by omega), if_pos hxy] at this
     go_wp2_with fail
     refine (F1_c1 x y _).mono ?_
     rintro e w' ⟨rfl, rfl⟩
     rw [hc]
     go_wp2
     go_ret
     exact ⟨by rw [DD.out]; rfl, q, rfl⟩
   ·have D0 : cmpL xs ys = 1 := by
     obtain ⟨e1, e2⟩ := KN.out
     have hkm' : k = m := by omega
     rw [F1_dr heq.out (by omega) (by omega), List.drop_eq_getElem_cons (i := k) (l := xs) (by omega), List.drop_of_length_le (l := ys) (by omega)]
     rfl
    have DD : Aside (cmpL xs ys = 1) := D0
    clear D0
    go_wp2_with fail
    go_ret
    exact ⟨by rw [DD.out]; rfl, q, rfl⟩
  ·have : k = n := by omega
   subst this
   obtain ⟨e1, e2⟩ := KN.out
   have hd : cmpL xs ys = cmpL [] (ys.drop k) := by
    rw [F1_dr heq.out (by omega) (by omega), List.drop_of_length_le (l := xs) (by omega)]
   by_cases hkm2 : k < m
   ·have DD : Aside (cmpL xs ys = -1) := by
     show _ = _
     rw [hd, List.drop_eq_getElem_cons (i := k) (l := ys) (by omega)]
     rfl
    clear hd e1 e2
    go_wp2
    go_ret
    exact ⟨by rw [DD.out]; rfl, q, rfl⟩
   ·have DD : Aside (cmpL xs ys = 0) := by
     show _ = _
     rw [hd, List.drop_of_length_le (l := ys) (by omega)]
     rfl
    clear hd e1 e2
    go_wp2
    go_ret
    exact ⟨by rw [DD.out]; rfl, q, rfl⟩
theorem F1_cok : CmpOK Tryz.prog 119 := by
 intro a1 c1 a2 c2 xs ys W hx hy h1 h2
 have split : ∀ (a : Option Addr) (xs : List Int), LInt W a xs → ∃ b o, (0 < xs.length → a = some ⟨b, o, none⟩) ∧ ∀ j, j < xs.length → W.cell? ⟨b, o + j, none⟩ = some (.int .i64 (xs.getD j 0)) := fun a xs h => by
  rcases h with rfl | ⟨b, o, ha, hc⟩
  ·exact ⟨0, 0, fun h => absurd h (Nat.lt_irrefl 0), fun j hj => absurd hj (Nat.not_lt_zero j)⟩
  ·exact ⟨b, o, fun _ => ha, fun j hj => hc j _ (by rw [List.getD_eq_getElem?_getD, List.getElem?_eq_getElem hj]; rfl)⟩
 obtain ⟨b1, o1, p1, q1⟩ := split a1 xs h1
 obtain ⟨b2, o2, p2, q2⟩ := split a2 ys h2
 exact F1_cw a1 a2 c1 c2 b1 o1 b2 o2 xs.length ys.length xs ys W rfl rfl hx hy p1 p2 q1 q2
theorem F1_ok : FOK Tryz.prog n_F13 F1_sh F1_fo F1 :=
 sortLists_ok ⟨_, fnat_F13, by kernel_rfl, by kernel_rfl⟩ (ρr := F1_ren) rfl F1_lay (enters_of fnat_F18 (by kernel_rfl) rfl) F1_cok
theorem lsL_ltL : ∀ a b : List Int, lsL a b = ltL a b
 | [], [] => rfl
 | [], y :: b => rfl
 | x :: a, [] => rfl
 | x :: a, y :: b => by
  have ih := lsL_ltL a b
  unfold lsL at ih ⊢
  unfold cmpL ltL
  split
  ·rfl
  ·split
   ·rfl
   ·exact ih
theorem F1_eq (x : List (List Int)) (h : x.length < 4611686018427387904) (hb : ∀ l ∈ x, l.length ≤ 9223372036854775807) : F1 (((), ()), x) = some ((), sortL x) := by
 unfold F1
 rw [if_pos ⟨h, List.all_eq_true.2 fun l hl => decide_eq_true (hb l hl)⟩]
 have e : sortL x = sortLL x := by
  refine sortLL_unique ((sortL_up x).imp fun {a b} hab => ?_) (sortL_perm x)
  rw [lsL_ltL]
  unfold leL at hab
  simpa using hab
 rw [e]
def F78_sh : FSh := ⟨[(.one (.si .i64)), (.one (.sl (.pair (.int .i64) (.int .i64)) false false))], []⟩
def F78_L3_sh : LSh := ⟨(fun ex => match ex with | .norm => [(1, none), (5, none), (15, none), (16, none)] | .exit i => if i = 0 then [(1, none), (5, none)] else [] | .ret => [(4, none)]), [(1, (.one (.sl (.pair (.int .i64) (.int .i64)) false false))), (5, (.one (.rw 0 0))), (15, (.one (.si .i64))), (16, (.one (.si .i64)))], [(.row 0 (.int .i64))], [⟨(.exit 0), [(1, (.one (.sl (.pair (.int .i64) (.int .i64)) false false))), (5, (.one (.rw 0 0)))], [(.row 0 (.int .i64))]⟩], [], []⟩
noncomputable def F78_L3_step : ((List ((Int × Int)) × Unit × Int × Int) × List (Int)) → T (((List ((Int × Int)) × Unit × Int × Int) × List (Int)) ⊕ ((List ((Int × Int)) × Unit) × List (Int))) := fun ((ds, (), t15, t16), whole) =>
 (.test (decide (t16 < t15))
 (.test (decide (1 ≤ (List.length (List.set (List.replicate 1 (0 : Int)) 0 t16))))
 (.test (decide ((0 + whole.length) ≤ whole.length))
 (.test (decide ((2 * ((whole.length + (List.length (win (List.set (List.replicate 1 (0 : Int)) 0 t16) 0 1))) * 9)) ≤ 140737488355328))
 (.test (decide ((0 = 0) ∧ ((whole.length + (List.length (win (List.set (List.replicate 1 (0 : Int)) 0 t16) 0 1))) = (List.length ((win whole 0 whole.length) ++ (win (List.set (List.replicate 1 (0 : Int)) 0 t16) 0 1))))))
 (.ret (Sum.inl ((ds, ((), (t15, (w64 (t16 + 1))))), ((win whole 0 whole.length) ++ (win (List.set (List.replicate 1 (0 : Int)) 0 t16) 0 1)))))
 .fail)
 .fail)
 .fail)
 .fail)
 (.test (decide ((0 = 0) ∧ (whole.length = whole.length)))
 (.ret (Sum.inr ((ds, ()), whole)))
 .fail))
noncomputable def F78_L3 (v) := loopO (fun v => (F78_L3_step v).run) v
def F78_L12_sh : LSh := ⟨(fun ex => match ex with | .norm => [(7, none), (9, none), (26, none), (27, none), (28, none), (32, none), (33, none), (34, none)] | .exit i => if i = 4 then [(7, none), (26, none), (27, none), (28, none)] else if i = 3 then [(7, none), (26, none), (27, none), (28, none)] else if i = 2 then [(7, none)] else [] | .ret => [(4, none)]), [(7, (.one (.rw 0 0))), (9, (.one (.pf 1 0 0))), (26, (.one (.sl (.pair (.int .i64) (.int .i64)) false false))), (27, (.one (.si .i64))), (28, (.one (.si .i64))), (32, (.one (.rw 0 0))), (33, (.one (.si .i64))), (34, (.one (.si .i64)))], [(.row 0 (.list true (.int .i64))), (.rcd 0 [(.si .i64), (.si .i64)])], [⟨(.exit 4), [(7, (.one (.rw 0 0))), (26, (.one (.sl (.pair (.int .i64) (.int .i64)) false false))), (27, (.one (.si .i64))), (28, (.one (.si .i64)))], [(.row 0 (.list true (.int .i64)))]⟩], [], []⟩
noncomputable def F78_L12_step : ((Unit × Unit × List ((Int × Int)) × Int × Int × Unit × Int × Int) × (List (List (Int)) × (Int × Int))) → T (((Unit × Unit × List ((Int × Int)) × Int × Int × Unit × Int × Int) × (List (List (Int)) × (Int × Int))) ⊕ ((Unit × List ((Int × Int)) × Int × Int) × List (List (Int)))) := fun (((), (), t26, t27, t28, (), t33, t34), (out, (d_0, d_1))) =>
 (.test (decide (t34 < t33))
 (.test (decide ((0 ≤ t34) ∧ (t34 < (out.length : Int))))
 (.sub (out[(0 + (Int.toNat t34))]?) fun z0 =>
 (.sub (F21 (z0, d_0)) fun z1 =>
 (.sub (F21 (z0, d_1)) fun z2 =>
 (.test (decide (z1 ≥ 0))
 (.test (decide (z2 ≥ 0))
 (.test (decide (0 ≤ (w64 (z1 + 1))))
 (.test (decide ((0 ≤ (Int.toNat (w64 (z1 + 1)))) ∧ ((Int.toNat (w64 (z1 + 1))) ≤ z0.length)))
 (.test (decide (0 ≤ z2))
 (.test (decide (((Int.toNat z2) ≤ z0.length) ∧ (z0.length ≤ z0.length)))
 (.test (decide (2 ≤ (List.length (List.set (List.set (List.replicate 2 ([] : List (Int))) 0 (win z0 0 ((Int.toNat (w64 (z1 + 1))) - 0))) 1 (win z0 (Int.toNat z2) (z0.length - (Int.toNat z2)))))))
 (.sub (F19 (win (List.set (List.set (List.replicate 2 ([] : List (Int))) 0 (win z0 0 ((Int.toNat (w64 (z1 + 1))) - 0))) 1 (win z0 (Int.toNat z2) (z0.length - (Int.toNat z2)))) 0 2)) fun z3 =>
 (.test (decide ((0 ≤ t34) ∧ (t34 < (out.length : Int))))
 (.test (decide ((0 + z3.2.length) ≤ z3.2.length))
 (.sub (out[(0 + (Int.toNat t34))]?) fun z4 =>
 (.test (decide (0 ≤ z1))
 (.test (decide (0 ≤ (w64 (z2 + 1))))
 (.test (decide (((Int.toNat z1) ≤ (Int.toNat (w64 (z2 + 1)))) ∧ ((Int.toNat (w64 (z2 + 1))) ≤ z0.length)))
 (.sub (F22 (win z0 (Int.toNat z1) ((Int.toNat (w64 (z2 + 1))) - (Int.toNat z1)))) fun z5 =>
 (.test (decide ((0 + z5.2.length) ≤ z5.2.length))
 (.test (decide (1 ≤ (List.length (List.set (List.replicate 1 ([] : List (Int))) 0 (win z5.2 0 z5.2.length)))))
 (.test (decide ((0 + out.length) ≤ (List.length (List.set out (0 + (Int.toNat t34)) (win z3.2 0 z3.2.length)))))
 (.test (decide ((2 * ((out.length + (List.length (win (List.set (List.replicate 1 ([] : List (Int))) 0 (win z5.2 0 z5.2.length)) 0 1))) * 25)) ≤ 140737488355328))
 (.test (decide ((0 = 0) ∧ ((out.length + (List.length (win (List.set (List.replicate 1 ([] : List (Int))) 0 (win z5.2 0 z5.2.length)) 0 1))) = (List.length ((win (List.set out (0 + (Int.toNat t34)) (win z3.2 0 z3.2.length)) 0 out.length) ++ (win (List.set (List.replicate 1 ([] : List (Int))) 0 (win z5.2 0 z5.2.length)) 0 1))))))
 (.ret (Sum.inr (((), (t26, (t27, t28))), ((win (List.set out (0 + (Int.toNat t34)) (win z3.2 0 z3.2.length)) 0 out.length) ++ (win (List.set (List.replicate 1 ([] : List (Int))) 0 (win z5.2 0 z5.2.length)) 0 1)))))
 .fail)
 .fail)
 .fail)
 .fail)
 .fail))
 .fail)
 .fail)
 .fail))
 .fail)
 .fail))
 .fail)
 .fail)
 .fail)
 .fail)
 .fail)
 (.test (decide ((0 = 0) ∧ (out.length = out.length)))
 (.test (decide ((0 = 0) ∧ (out.length = out.length)))
 (.ret (Sum.inl (((), ((), (t26, (t27, (t28, ((), (t33, (w64 (t34 + 1))))))))), (out, (d_0, d_1)))))
 .fail)
 .fail))
 (.test (decide ((0 = 0) ∧ (out.length = out.length)))
 (.test (decide ((0 = 0) ∧ (out.length = out.length)))
 (.ret (Sum.inl (((), ((), (t26, (t27, (t28, ((), (t33, (w64 (t34 + 1))))))))), (out, (d_0, d_1)))))
 .fail)
 .fail)))))
 .fail)
 (.test (decide ((0 = 0) ∧ (out.length = out.length)))
 (.ret (Sum.inr (((), (t26, (t27, t28))), out)))
 .fail))
noncomputable def F78_L12 (v) := loopO (fun v => (F78_L12_step v).run) v
def F78_L9_sh : LSh := ⟨(fun ex => match ex with | .norm => [(7, none), (26, none), (27, none), (28, none)] | .exit i => if i = 2 then [(7, none)] else [] | .ret => [(4, none)]), [(7, (.one (.rw 0 0))), (26, (.one (.sl (.pair (.int .i64) (.int .i64)) false false))), (27, (.one (.si .i64))), (28, (.one (.si .i64)))], [(.row 0 (.list true (.int .i64)))], [⟨(.exit 2), [(7, (.one (.rw 0 0)))], [(.row 0 (.list true (.int .i64)))]⟩], [], []⟩
noncomputable def F78_L9_step : ((Unit × List ((Int × Int)) × Int × Int) × List (List (Int))) → T (((Unit × List ((Int × Int)) × Int × Int) × List (List (Int))) ⊕ (Unit × List (List (Int)))) := fun (((), t26, t27, t28), out) =>
 (.test (decide (t28 < t27))
 (.test (decide ((0 ≤ t28) ∧ (t28 < (t26.length : Int))))
 (.sub (t26[(Int.toNat t28)]?) fun z0 =>
 (.test (decide ((0 = 0) ∧ (out.length = out.length)))
 (.test (decide ((0 = 0) ∧ (out.length = out.length)))
 (.sub (F78_L12 (((), ((), (t26, (t27, (t28, ((), ((out.length : Int), (0 : Int)))))))), (out, (z0.1, z0.2)))) fun z1 =>
 (.test (decide ((0 = 0) ∧ (z1.2.length = z1.2.length)))
 (.ret (Sum.inl (((), (z1.1.2.1, (z1.1.2.2.1, (w64 (z1.1.2.2.2 + 1))))), z1.2)))
 .fail))
 .fail)
 .fail))
 .fail)
 (.test (decide ((0 = 0) ∧ (out.length = out.length)))
 (.ret (Sum.inr ((), out)))
 .fail))
noncomputable def F78_L9 (v) := loopO (fun v => (F78_L9_step v).run) v
def F78_fo : List FO := [⟨[(.one (.rw 0 0))], [(.row 0 (.list true (.int .i64)))]⟩]
noncomputable def F78_t : (Int × List ((Int × Int))) → T (Unit × List (List (Int))) := fun (n, ds) =>
 (.test true
 (.sub (F78_L3 ((ds, ((), (n, (0 : Int)))), (List.replicate 0 (0 : Int)))) fun z0 =>
 (.test (decide ((0 + z0.2.length) ≤ z0.2.length))
 (.test (decide ((0 = 0) ∧ (1 = (List.length (List.set (List.replicate 1 ([] : List (Int))) 0 (win z0.2 0 z0.2.length))))))
 (.sub (F78_L9 (((), (z0.1.1, ((z0.1.1.length : Int), (0 : Int)))), (List.set (List.replicate 1 ([] : List (Int))) 0 (win z0.2 0 z0.2.length)))) fun z1 =>
 (.test (decide ((0 = 0) ∧ (z1.2.length = z1.2.length)))
 (.sub (F1 (((), ()), z1.2)) fun z2 =>
 (.test (decide ((0 = 0) ∧ (z1.2.length = z2.2.length)))
 (.ret ((), z2.2))
 .fail))
 .fail))
 .fail)
 .fail))
 .fail)
noncomputable def F78 (v) := (F78_t v).run
noncomputable def F78_E : TEnv := ((((E0.add1 n_F21 F21_sh F21_fo F21).add1 n_F19 F19_sh F19_fo F19).add1 n_F22 F22_sh F22_fo F22).add1 n_F13 F1_sh F1_fo F1)
theorem F78_Eok : (F78_E).OK := ((((E0ok.add1 F21_ok).add1 F19_ok).add1 F22_ok).add1 F1_ok)
noncomputable def F78_told : Nat → Option SealT := fun id => if id = 3 then some (LSh.told F78_L3_sh 0 (F78_L3_step)) else if id = 12 then some (LSh.told F78_L12_sh 0 (F78_L12_step)) else if id = 9 then some (LSh.told F78_L9_sh 0 (F78_L9_step)) else none
theorem F78_L3_ok : ToldOK Tryz.prog 0 (loopAt (bodyOf fn_F78) [0]) (LSh.told F78_L3_sh 0 (F78_L3_step)) :=
 loop_ok (E := F78_E) (F78_Eok) (told := F78_told) (l := F78_L3_sh) (step := F78_L3_step) (loopsOK_of (ls := []) (by kernel_rfl) trivial) (by kernel_rfl) (fun v => by kernel_rfl)
theorem F78_L12_ok : ToldOK Tryz.prog 0 (loopAt (bodyOf fn_F78) [1, 0]) (LSh.told F78_L12_sh 0 (F78_L12_step)) :=
 loop_ok (E := F78_E) (F78_Eok) (told := F78_told) (l := F78_L12_sh) (step := F78_L12_step) (loopsOK_of (ls := []) (by kernel_rfl) trivial) (by kernel_rfl) (fun v => by kernel_rfl)
theorem F78_L9_ok : ToldOK Tryz.prog 0 (loopAt (bodyOf fn_F78) [1]) (LSh.told F78_L9_sh 0 (F78_L9_step)) :=
 loop_ok (E := F78_E) (F78_Eok) (told := F78_told) (l := F78_L9_sh) (step := F78_L9_step) (loopsOK_of (ls := [loopAt (bodyOf fn_F78) [1, 0]]) (by kernel_rfl) ⟨.inr ⟨_, by kernel_rfl, F78_L12_ok⟩, trivial⟩) (by kernel_rfl) (fun v => by kernel_rfl)
theorem F78_ok : FOK Tryz.prog n_F78 F78_sh F78_fo F78 :=
 fn_ok (E := F78_E) (F78_Eok) (told := F78_told) (fl := []) (c := bodyOf fn_F78) (s := F78_sh) (l := F78_fo) (tree := F78_t) fnat_F78 (by kernel_rfl) (by kernel_rfl) (by kernel_rfl) (loopsOK_of (ls := [loopAt (bodyOf fn_F78) [0], loopAt (bodyOf fn_F78) [1]]) (by kernel_rfl) ⟨.inr ⟨_, by kernel_rfl, F78_L3_ok⟩, ⟨.inr ⟨_, by kernel_rfl, F78_L9_ok⟩, trivial⟩⟩) (fun v => by kernel_rfl)
theorem F78_whole (ds : List Dg) (N : Nat) (hN : N ≤ 12) : ∀ (m k : Nat), k + m = N → F78_L3 ((ds, ((), ((N : Int), (k : Int)))), nameL k) = some ((ds, ()), nameL N) := by
 intro m
 induction m with
 | zero =>
  intro k hk
  have e : k = N := by omega
  subst e
  simp only [F78_L3]
  refine loopO_done ?_
  rw [F78_L3_step, T.run_test, if_neg (by simp), T.run_test, if_pos (by simp), T.run_ret]
 | succ m ih =>
  intro k hk
  have w1 : w64 ((k : Int) + 1) = ((k + 1 : Nat) : Int) := by rw [w64_id (by omega) (by omega)]; omega
  have := ih (k + 1) (by omega)
  simp only [F78_L3] at this ⊢
  rw [← this]
  refine loopO_next ?_
  rw [F78_L3_step, T.run_test, if_pos (decide_eq_true (by omega)), T.run_test, if_pos (by simp), T.run_test, if_pos (by simp), win_all, win_one, T.run_test, if_pos (by exact decide_eq_true (by rw [nameL_length, List.length_singleton]; omega)), T.run_test, if_pos (by simp), T.run_ret, w1, nameL_succ]
theorem F78_cut {p : List Int} (hs : p.Pairwise (· < ·)) {d : Dg} {i j : Nat} (hi : i < p.length) (hj : j < p.length) (ei : p[i] = d.1) (ej : p[j] = d.2) (hd : d.1 < d.2) :
  p.filter (fun v => decide (v ≤ d.1 ∨ d.2 ≤ v)) = p.take (i + 1) ++ p.drop j ∧ p.filter (fun v => decide (d.1 ≤ v ∧ v ≤ d.2)) = (p.drop i).take (j + 1 - i) ∧ i < j := by
 have hij : i < j := (sorted_lt hs hi hj).1 (by rw [ei, ej]; exact hd)
 have lt : ∀ x (h : x < p.length), (p[x] < d.1 ↔ x < i) ∧ (p[x] < d.2 ↔ x < j) := fun x h => ⟨by rw [← ei]; exact sorted_lt hs h hi, by rw [← ej]; exact sorted_lt hs h hj⟩
 have gt : ∀ x (h : x < p.length), (d.1 < p[x] ↔ i < x) ∧ (d.2 < p[x] ↔ j < x) := fun x h => ⟨by rw [← ei]; exact sorted_lt hs hi h, by rw [← ej]; exact sorted_lt hs hj h⟩
 refine ⟨?_, ?_, hij⟩
 ·refine filter_out p _ (i + 1) j (by omega) (by omega) (fun x h hx => ?_) (fun x h h1 h2 => ?_) (fun x h hx => ?_)
  ·have := gt x h; rw [decide_eq_true_eq]; omega
  ·have := gt x h; have := lt x h; rw [decide_eq_false_iff_not]; omega
  ·have := lt x h; rw [decide_eq_true_eq]; omega
 ·refine filter_mid p _ i (j + 1) (by omega) (by omega) (fun x h hx => ?_) (fun x h h1 h2 => ?_) (fun x h hx => ?_)
  ·have := lt x h; rw [decide_eq_false_iff_not]; omega
  ·have := gt x h; have := lt x h; rw [decide_eq_true_eq]; omega
  ·have := gt x h; rw [decide_eq_false_iff_not]; omega
theorem F78_L12_eq (t26 : List Dg) (t27 t28 : Int) (d : Dg) (hd : d.1 < d.2) : ∀ (rest pre out : List (List Int)), out = pre ++ rest → out.length ≤ 100 → (∀ p ∈ out, p.Pairwise (· < ·) ∧ p.length ≤ 100) →
  F78_L12 (((), ((), (t26, (t27, (t28, ((), ((out.length : Int), (pre.length : Int)))))))), (out, d)) = some (((), (t26, (t27, t28))), pre ++ splitD d rest) := by
 intro rest
 induction rest with
 | nil =>
  intro pre out ho hl hp
  rw [List.append_nil] at ho
  subst ho
  simp only [F78_L12]
  refine loopO_done ?_
  rw [F78_L12_step, T.run_test, if_neg (by simp), T.run_test, if_pos (by simp), T.run_ret, splitD, List.append_nil]
 | cons p t ih =>
  intro pre out ho hl hp
  have hlen : out.length = pre.length + (t.length + 1) := by rw [ho, List.length_append, List.length_cons]
  have hg : out[pre.length]? = some p := by rw [ho, List.getElem?_append_right (Nat.le_refl _), Nat.sub_self]; rfl
  have hpm : p ∈ out := by rw [ho]; simp
  obtain ⟨hs, hpl⟩ := hp p hpm
  have x1 := F21_eq p d.1 (by omega)
  have x2 := F21_eq p d.2 (by omega)
  have w1 : w64 ((pre.length : Int) + 1) = (((pre ++ [p]).length : Nat) : Int) := by rw [List.length_append, List.length_singleton, w64_id (by omega) (by omega)]; omega
  have next := ih (pre ++ [p]) out (by rw [ho]; simp) hl hp
  have go : ¬ (d.1 ∈ p ∧ d.2 ∈ p) → (F78_L12_step (((), ((), (t26, (t27, (t28, ((), ((out.length : Int), (pre.length : Int)))))))), (out, d))).run = some (.inl (((), ((), (t26, (t27, (t28, ((), ((out.length : Int), (((pre ++ [p]).length : Nat) : Int)))))))), (out, d))) := by
   intro c
   rw [F78_L12_step, T.run_test, if_pos (decide_eq_true (by omega)), T.run_test, if_pos (decide_eq_true (by omega)), T.run_sub, Nat.zero_add, Int.toNat_natCast, hg, Option.bind_some, T.run_sub, x1, Option.bind_some, T.run_sub, x2, Option.bind_some, T.run_test]
   by_cases c1 : d.1 ∈ p
   ·obtain ⟨i, hi, ei, e1⟩ := idxI_yes c1
    have e2 := idxI_no (fun h => c ⟨c1, h⟩)
    rw [e1, e2, if_pos (decide_eq_true (by omega)), T.run_test, if_neg (by simp), T.run_test, if_pos (by simp), T.run_test, if_pos (by simp), T.run_ret, w1]
   ·rw [idxI_no c1, if_neg (by simp), T.run_test, if_pos (by simp), T.run_test, if_pos (by simp), T.run_ret, w1]
  by_cases c : d.1 ∈ p ∧ d.2 ∈ p
  ·obtain ⟨i, hi, ei, e1⟩ := idxI_yes c.1
   obtain ⟨j, hj, ej, e2⟩ := idxI_yes c.2
   obtain ⟨f1, f2, hij⟩ := F78_cut hs hi hj ei ej hd
   rw [e1] at x1
   rw [e2] at x2
   have v1 : w64 ((i : Int) + 1) = ((i + 1 : Nat) : Int) := by rw [w64_id (by omega) (by omega)]; omega
   have v2 : w64 ((j : Int) + 1) = ((j + 1 : Nat) : Int) := by rw [w64_id (by omega) (by omega)]; omega
   have g1 : win p 0 (i + 1 - 0) = p.take (i + 1) := by rw [win_take, Nat.sub_zero]
   have g2 : win p j (p.length - j) = p.drop j := by unfold win; rw [List.take_of_length_le (by simp)]
   have g3 : win p i (j + 1 - i) = (p.drop i).take (j + 1 - i) := rfl
   have g4 : win (List.set (List.set (List.replicate 2 ([] : List Int)) 0 (p.take (i + 1))) 1 (p.drop j)) 0 2 = [p.take (i + 1), p.drop j] := rfl
   have hcat := F19_two (p.take (i + 1)) (p.drop j) (by rw [List.length_take, List.length_drop]; omega)
   have hml : ((p.drop i).take (j + 1 - i)).length ≤ 100 := by rw [List.length_take, List.length_drop]; omega
   have hcl : F22 ((p.drop i).take (j + 1 - i)) = some ((), (p.drop i).take (j + 1 - i)) := by
    unfold F22
    rw [if_pos ⟨by unfold maxLen; omega, by omega⟩]
   have hset : out.set pre.length (p.take (i + 1) ++ p.drop j) = pre ++ (p.take (i + 1) ++ p.drop j) :: t := by
    rw [ho, List.set_append_right _ _ (Nat.le_refl _), Nat.sub_self]; rfl
   have hwo : win (pre ++ (p.take (i + 1) ++ p.drop j) :: t) 0 out.length = pre ++ (p.take (i + 1) ++ p.drop j) :: t := by
    have := win_all (pre ++ (p.take (i + 1) ++ p.drop j) :: t)
    rwa [List.length_append, List.length_cons, ← hlen] at this
   have hsl : (pre ++ (p.take (i + 1) ++ p.drop j) :: t).length = out.length := by rw [List.length_append, List.length_cons, ← hlen]
   rw [splitD, if_pos c, f1, f2]
   simp only [F78_L12]
   refine loopO_done ?_
   rw [F78_L12_step, T.run_test, if_pos (decide_eq_true (by omega)), T.run_test, if_pos (decide_eq_true (by omega)), T.run_sub, Nat.zero_add, Int.toNat_natCast, hg, Option.bind_some, T.run_sub, x1, Option.bind_some, T.run_sub, x2, Option.bind_some, T.run_test, if_pos (decide_eq_true (by omega)), T.run_test, if_pos (decide_eq_true (by omega)), v1, T.run_test, if_pos (decide_eq_true (by omega)), T.run_test, if_pos (decide_eq_true (by omega)), T.run_test, if_pos (decide_eq_true (by omega)), T.run_test, if_pos (decide_eq_true (by omega)), T.run_test, if_pos (by simp), T.run_sub]
   simp only [Int.toNat_natCast, g1, g2, g4, hcat, Option.bind_some]
   rw [T.run_test, if_pos (decide_eq_true (by omega)), T.run_test, if_pos (by simp), T.run_sub, Option.bind_some, T.run_test, if_pos (decide_eq_true (by omega)), v2, T.run_test, if_pos (decide_eq_true (by omega)), T.run_test, if_pos (decide_eq_true (by omega)), T.run_sub]
   simp only [Int.toNat_natCast, g3, hcl, Option.bind_some, win_all, hset, hwo, show ∀ q : List Int, win (List.set (List.replicate 1 ([] : List Int)) 0 q) 0 1 = [q] from fun q => rfl]
   rw [T.run_test, if_pos (by simp), T.run_test, if_pos (by simp), T.run_test, if_pos (by exact decide_eq_true (by rw [hsl]; omega)), T.run_test, if_pos (by exact decide_eq_true (by rw [List.length_singleton]; omega)), T.run_test, if_pos (by exact decide_eq_true (by rw [List.length_append, hsl]; exact ⟨trivial, rfl⟩)), T.run_ret]
   simp
  ·rw [splitD, if_neg c]
   simp only [F78_L12] at next ⊢
   rw [loopO_next (go c), next, List.append_assoc]
   rfl
theorem F78_L9_eq {N : Nat} (h3 : 3 ≤ N) (hN : N ≤ 12) (ds : List Dg) (hc : CutD N ds) (hl : ds.length ≤ 12) : ∀ (m k : Nat) (out : List (List Int)), k + m = ds.length → out.Perm ((wholeD N :: ds.take k).map (pcs N (ds.take k))) →
  F78_L9 (((), (ds, ((ds.length : Int), (k : Int)))), out) = some ((), (ds.drop k).foldl (fun out d => splitD d out) out) := by
 intro m
 induction m with
 | zero =>
  intro k out hk ho
  rw [List.drop_eq_nil_of_le (by omega)]
  simp only [F78_L9]
  refine loopO_done ?_
  rw [F78_L9_step, T.run_test, if_neg (by rw [decide_eq_true_eq]; omega), T.run_test, if_pos (by simp), T.run_ret]
  rfl
 | succ m ih =>
  intro k out hk ho
  have hlt : k < ds.length := by omega
  have w1 : w64 ((k : Int) + 1) = ((k + 1 : Nat) : Int) := by rw [w64_id (by omega) (by omega)]; omega
  have hte : ds.take (k + 1) = ds.take k ++ [ds[k]] := by rw [List.take_add_one, List.getElem?_eq_getElem hlt]; rfl
  have hcut : CutD N (ds.take k ++ [ds[k]]) := by
   rw [← hte]
   refine CutD.front (es := ds.drop (k + 1)) ?_
   rw [List.take_append_drop]; exact hc
  have hd := hc.1 ds[k] (List.getElem_mem hlt)
  have hol : out.length ≤ 20 := by
   have := ho.length_eq
   simp only [List.length_map, List.length_cons, List.length_take] at this
   omega
  have hp : ∀ p ∈ out, p.Pairwise (· < ·) ∧ p.length ≤ 100 := fun p hp => by
   obtain ⟨q, hq, rfl⟩ := List.mem_map.1 (ho.mem_iff.1 hp)
   have := (pcs_len hcut.front h3 hq).2
   exact ⟨pcs_sorted .., by omega⟩
  have h12 := F78_L12_eq ds (ds.length : Int) (k : Int) ds[k] (by omega) out [] out rfl (by omega) hp
  have := ih (k + 1) (splitD ds[k] out) (by omega) (by rw [hte]; exact split_perm hcut ho)
  rw [List.nil_append] at h12
  rw [List.drop_eq_getElem_cons hlt, List.foldl_cons]
  simp only [F78_L9] at this ⊢
  rw [← this]
  refine loopO_next ?_
  have h12' : F78_L12 (((), ((), (ds, ((ds.length : Int), ((k : Int), ((), ((out.length : Int), (0 : Int)))))))), (out, (ds[k].1, ds[k].2))) = some (((), (ds, ((ds.length : Int), (k : Int)))), splitD ds[k] out) := h12
  rw [F78_L9_step, T.run_test, if_pos (decide_eq_true (by omega)), T.run_test, if_pos (decide_eq_true (by omega)), T.run_sub, Int.toNat_natCast, List.getElem?_eq_getElem hlt, Option.bind_some, T.run_test, if_pos (by simp), T.run_test, if_pos (by simp), T.run_sub, h12', Option.bind_some, T.run_test, if_pos (by simp), T.run_ret, w1]
theorem F78_eq {N : Nat} {ds : List Dg} (h3 : 3 ≤ N) (hN : N ≤ 12) (hl : ds.length ≤ 12) (hc : CutD N ds) : F78 ((N : Int), ds) = some ((), sortL (specP N ds)) := by
 have hw := F78_whole ds N hN N 0 (by omega)
 have h9 := F78_L9_eq h3 hN ds hc hl ds.length 0 [nameL N] (by omega) (by
  have : pcs N [] (wholeD N) = nameL N := by
   unfold pcs covD wholeD
   rw [List.filter_eq_self]
   intro v hv
   have := nameL_mem hv
   simp; omega
  simp [this])
 rw [Int.natCast_zero] at hw h9
 rw [List.drop_zero] at h9
 change _ = some ((), implP N ds) at h9
 have hsl := implP_count h3 hc
 have hsort := F1_eq (implP N ds) (by omega) fun l hl => by have := implP_len h3 hc hl; omega
 have hsame : sortL (implP N ds) = sortL (specP N ds) := sortL_unique (sortL_up _) ((sortL_perm _).trans (pieces_same h3 hc))
 rw [F78, F78_t, T.run_test, if_pos rfl, T.run_sub, show List.replicate 0 (0 : Int) = nameL 0 from rfl, hw, Option.bind_some, T.run_test, if_pos (by simp), T.run_test, if_pos (by simp), T.run_sub, win_all, show List.set (List.replicate 1 ([] : List Int)) 0 (nameL N) = [nameL N] from rfl, h9, Option.bind_some, T.run_test, if_pos (by simp), T.run_sub, hsort, Option.bind_some, T.run_test, if_pos (by exact decide_eq_true ⟨rfl, (sortL_perm _).length_eq.symm⟩), T.run_ret, hsame]
def F40_sh : FSh := ⟨[.one (.si .u64)], []⟩
def F40_fo : List FO := [⟨[.one (.si .i64)], []⟩]
def F40 (x : Int) : Option Int := if 0 ≤ x ∧ x ≤ 18446744073709551615 then some (Lib.bitLen x.toNat : Int) else none
def F40_ren : Shelf.Ren := ⟨fun k => if k = 125 then n_F40 else if k = 128 then 152 else 153, fun t => if t = 3 then 3 else if t = 4 then 4 else if t = 5 then 5 else if t = 9 then 9 else if t = 46 then 113 else if t = 51 then 131 else 69, fun x => x⟩
theorem F40_lay : Lays.n125 Tryz.prog F40_ren :=
 { mixed := by kernel_rfl, f125 := by kernel_rfl, f128 := by kernel_rfl, f129 := by kernel_rfl, t3 := by kernel_rfl, a3 := fun w => by kernel_rfl, z3 := fun w => by kernel_rfl, v3 := fun w => by kernel_rfl, t4 := by kernel_rfl, a4 := fun w => by kernel_rfl, z4 := fun w => by kernel_rfl, v4 := fun w => by kernel_rfl, t5 := by kernel_rfl, a5 := fun w => by kernel_rfl, z5 := fun w => by kernel_rfl, v5 := fun w => by kernel_rfl, t9 := by kernel_rfl, a9 := fun w => by kernel_rfl, z9 := fun w => by kernel_rfl, v9 := fun w => by kernel_rfl, t46 := by kernel_rfl, a46 := fun w => by kernel_rfl, z46 := fun w => by kernel_rfl, v46 := fun w => by kernel_rfl, t51 := by kernel_rfl, a51 := fun w => by kernel_rfl, z51 := fun w => by kernel_rfl, v51 := fun w => by kernel_rfl, t53 := by kernel_rfl, a53 := fun w => by kernel_rfl, z53 := fun w => by kernel_rfl, v53 := fun w => by kernel_rfl }
theorem F40_ok : FOK Tryz.prog n_F40 F40_sh F40_fo F40 :=
 bitsLen_ok ⟨_, fnat_F40, by kernel_rfl, by kernel_rfl⟩ (ρr := F40_ren) rfl F40_lay
def F41_sh : FSh := ⟨[(.one (.si .i64))], []⟩
def F41_fo : List FO := [⟨[(.one .sb)], []⟩]
noncomputable def F41_t : Int → T Bool := fun x =>
 (.ret (x != x))
noncomputable def F41 (v) := (F41_t v).run
noncomputable def F41_E : TEnv := E0
theorem F41_Eok : (F41_E).OK := E0ok
noncomputable def F41_told : Nat → Option SealT := fun id => none
theorem F41_ok : FOK Tryz.prog n_F41 F41_sh F41_fo F41 :=
 fn_ok (E := F41_E) (F41_Eok) (told := F41_told) (fl := []) (c := bodyOf fn_F41) (s := F41_sh) (l := F41_fo) (tree := F41_t) fnat_F41 (by kernel_rfl) (by kernel_rfl) (by kernel_rfl) (loopsOK_of (ls := []) (by kernel_rfl) trivial) (fun v => by kernel_rfl)
def F45_sh : FSh := ⟨[(.one (.si .i64)), (.one (.si .i64))], []⟩
def F45_fo : List FO := [⟨[(.one .sb)], []⟩]
noncomputable def F45_t : (Int × Int) → T Bool := fun (x, y) =>
 (.sub (F41 x) fun z0 =>
 (.test z0
 (.sub (F41 y) fun z1 =>
 (.test (! z1)
 (.ret true)
 (.ret (decide (x < y)))))
 (.ret (decide (x < y)))))
noncomputable def F45 (v) := (F45_t v).run
noncomputable def F45_E : TEnv := (E0.add1 n_F41 F41_sh F41_fo F41)
theorem F45_Eok : (F45_E).OK := (E0ok.add1 F41_ok)
noncomputable def F45_told : Nat → Option SealT := fun id => none
theorem F45_ok : FOK Tryz.prog n_F45 F45_sh F45_fo F45 :=
 fn_ok (E := F45_E) (F45_Eok) (told := F45_told) (fl := []) (c := bodyOf fn_F45) (s := F45_sh) (l := F45_fo) (tree := F45_t) fnat_F45 (by kernel_rfl) (by kernel_rfl) (by kernel_rfl) (loopsOK_of (ls := []) (by kernel_rfl) trivial) (fun v => by kernel_rfl)
theorem F45_val (x y : Int) : F45 (x, y) = some (decide (x < y)) := by
 simp [F45, F45_t, T.run, F41, F41_t]
def asD (l : List Int) : List Dg := l.map fun x => (x, (0 : Int))
def ofD (l : List Dg) : List Int := l.map Prod.fst
theorem ofD_asD (l : List Int) : ofD (asD l) = l := by
 unfold ofD asD
 rw [List.map_map]
 exact List.map_id' l
def sortI (l : List Int) : List Int := ofD (sortD (asD l))
theorem sortI_perm (l : List Int) : (sortI l).Perm l := by
 have := (sortD_perm (asD l)).map Prod.fst
 change (sortI l).Perm (ofD (asD l)) at this
 rwa [ofD_asD] at this
theorem asD_snd {l : List Int} {d : Dg} (h : d ∈ asD l) : d.2 = 0 := by
 obtain ⟨x, _, rfl⟩ := List.mem_map.1 h
 rfl
theorem sortI_up (l : List Int) : (sortI l).Pairwise (· ≤ ·) := by
 unfold sortI ofD
 rw [List.pairwise_map]
 exact (sortD_sorted (asD l)).imp fun {a b} h => by have := leD_iff.1 h; omega
theorem ofD_get {L : List Dg} {p : Nat} (h : p < L.length) : (ofD L)[p]? = some (gD L p).1 := by
 unfold ofD
 rw [List.getElem?_map, gD_some h]
 rfl
def F3_sh : FSh := ⟨[(.one (.rw 0 0)), (.one (.si .i64)), (.one (.si .i64))], [(.row 0 (.int .i64))]⟩
def F3_L4_sh : LSh := ⟨(fun ex => match ex with | .norm => [(0, none), (1, none), (2, none), (6, none), (7, none)] | .exit i => if i = 2 then [(0, none), (1, none), (2, none), (6, none)] else if i = 1 then [(0, none), (1, none), (2, none), (6, none)] else if i = 0 then [] else [] | .ret => []), [(0, (.one (.rw 0 0))), (1, (.one (.si .i64))), (2, (.one (.si .i64))), (6, (.one (.si .i64))), (7, (.one (.si .i64)))], [(.row 0 (.int .i64))], [⟨(.exit 2), [(0, (.one (.rw 0 0))), (1, (.one (.si .i64))), (2, (.one (.si .i64))), (6, (.one (.si .i64)))], [(.row 0 (.int .i64))]⟩], [], []⟩
noncomputable def F3_L4_step : ((Unit × Int × Int × Int × Int) × List (Int)) → T (((Unit × Int × Int × Int × Int) × List (Int)) ⊕ ((Unit × Int × Int × Int) × List (Int))) := fun (((), a, b, i, j), data) =>
 (.test (decide (j > a))
 (.test (decide ((0 ≤ j) ∧ (j < (data.length : Int))))
 (.sub (data[(0 + (Int.toNat j))]?) fun z0 =>
 (.test (decide ((0 ≤ (w64 (j - 1))) ∧ ((w64 (j - 1)) < (data.length : Int))))
 (.sub (data[(0 + (Int.toNat (w64 (j - 1))))]?) fun z1 =>
 (.sub (F45 (z0, z1)) fun z2 =>
 (.test z2
 (.test (decide ((0 ≤ (w64 (j - 1))) ∧ ((w64 (j - 1)) < (data.length : Int))))
 (.sub (data[(0 + (Int.toNat (w64 (j - 1))))]?) fun z3 =>
 (.test (decide ((0 ≤ j) ∧ (j < (data.length : Int))))
 (.sub (data[(0 + (Int.toNat j))]?) fun z4 =>
 (.test (decide ((0 ≤ j) ∧ (j < (data.length : Int))))
 (.sub (data[(0 + (Int.toNat j))]?) fun z5 =>
 (.test (decide ((0 ≤ (w64 (j - 1))) ∧ ((w64 (j - 1)) < (data.length : Int))))
 (.sub ((List.set data (0 + (Int.toNat j)) z3)[(0 + (Int.toNat (w64 (j - 1))))]?) fun z6 =>
 (.test (decide ((0 = 0) ∧ (data.length = (List.length (List.set (List.set data (0 + (Int.toNat j)) z3) (0 + (Int.toNat (w64 (j - 1)))) z4)))))
 (.ret (Sum.inl (((), (a, (b, (i, (w64 (j - 1)))))), (List.set (List.set data (0 + (Int.toNat j)) z3) (0 + (Int.toNat (w64 (j - 1)))) z4))))
 .fail))
 .fail))
 .fail))
 .fail))
 .fail)
 (.test (decide ((0 = 0) ∧ (data.length = data.length)))
 (.ret (Sum.inr (((), (a, (b, i))), data)))
 .fail))))
 .fail))
 .fail)
 (.test (decide ((0 = 0) ∧ (data.length = data.length)))
 (.ret (Sum.inr (((), (a, (b, i))), data)))
 .fail))
noncomputable def F3_L4 (v) := loopO (fun v => (F3_L4_step v).run) v
def F3_L1_sh : LSh := ⟨(fun ex => match ex with | .norm => [(0, none), (1, none), (2, none), (6, none)] | .exit i => if i = 0 then [] else [] | .ret => []), [(0, (.one (.rw 0 0))), (1, (.one (.si .i64))), (2, (.one (.si .i64))), (6, (.one (.si .i64)))], [(.row 0 (.int .i64))], [⟨(.exit 0), [], [(.row 0 (.int .i64))]⟩], [], []⟩
noncomputable def F3_L1_step : ((Unit × Int × Int × Int) × List (Int)) → T (((Unit × Int × Int × Int) × List (Int)) ⊕ (Unit × List (Int))) := fun (((), a, b, i), data) =>
 (.test (decide (i < b))
 (.test (decide ((0 = 0) ∧ (data.length = data.length)))
 (.sub (F3_L4 (((), (a, (b, (i, i)))), data)) fun z0 =>
 (.test (decide ((0 = 0) ∧ (z0.2.length = z0.2.length)))
 (.ret (Sum.inl (((), (z0.1.2.1, (z0.1.2.2.1, (w64 (z0.1.2.2.2 + 1))))), z0.2)))
 .fail))
 .fail)
 (.ret (Sum.inr ((), data))))
noncomputable def F3_L1 (v) := loopO (fun v => (F3_L1_step v).run) v
def F3_fo : List FO := [⟨[], [(.row 0 (.int .i64))]⟩]
noncomputable def F3_t : ((Unit × Int × Int) × List (Int)) → T (Unit × List (Int)) := fun (((), a, b), data) =>
 (.test (decide ((0 = 0) ∧ (data.length = data.length)))
 (.sub (F3_L1 (((), (a, (b, (w64 (a + 1))))), data)) fun z0 =>
 (.ret ((), z0.2)))
 .fail)
noncomputable def F3 (v) := (F3_t v).run
noncomputable def F3_E : TEnv := (E0.add1 n_F45 F45_sh F45_fo F45)
theorem F3_Eok : (F3_E).OK := (E0ok.add1 F45_ok)
noncomputable def F3_told : Nat → Option SealT := fun id => if id = 4 then some (LSh.told F3_L4_sh 1 (F3_L4_step)) else if id = 1 then some (LSh.told F3_L1_sh 1 (F3_L1_step)) else none
theorem F3_L4_ok : ToldOK Tryz.prog 1 (loopAt (bodyOf fn_F3) [0, 0]) (LSh.told F3_L4_sh 1 (F3_L4_step)) :=
 loop_ok (E := F3_E) (F3_Eok) (told := F3_told) (l := F3_L4_sh) (step := F3_L4_step) (loopsOK_of (ls := []) (by kernel_rfl) trivial) (by kernel_rfl) (fun v => by kernel_rfl)
theorem F3_L1_ok : ToldOK Tryz.prog 1 (loopAt (bodyOf fn_F3) [0]) (LSh.told F3_L1_sh 1 (F3_L1_step)) :=
 loop_ok (E := F3_E) (F3_Eok) (told := F3_told) (l := F3_L1_sh) (step := F3_L1_step) (loopsOK_of (ls := [loopAt (bodyOf fn_F3) [0, 0]]) (by kernel_rfl) ⟨.inr ⟨_, by kernel_rfl, F3_L4_ok⟩, trivial⟩) (by kernel_rfl) (fun v => by kernel_rfl)
theorem F3_ok : FOK Tryz.prog n_F3 F3_sh F3_fo F3 :=
 fn_ok (E := F3_E) (F3_Eok) (told := F3_told) (fl := []) (c := bodyOf fn_F3) (s := F3_sh) (l := F3_fo) (tree := F3_t) fnat_F3 (by kernel_rfl) (by kernel_rfl) (by kernel_rfl) (loopsOK_of (ls := [loopAt (bodyOf fn_F3) [0]]) (by kernel_rfl) ⟨.inr ⟨_, by kernel_rfl, F3_L1_ok⟩, trivial⟩) (fun v => by kernel_rfl)
theorem F3_sink (b i : Int) : ∀ (j : Nat) (L : List Dg), j < L.length → L.length < 1000000 → (∀ d ∈ L, d.2 = 0) →
  F3_L4 (((), ((0 : Int), (b, (i, (j : Int))))), ofD L) = some (((), ((0 : Int), (b, i))), ofD (sinkD j L))
 | 0, L, hj, hl, hz => by
  simp only [F3_L4]
  exact loopO_done (by simp [F3_L4_step, T.run, sinkD])
 | j + 1, L, hj, hl, hz => by
  have ih := F3_sink b i j (swapD L j) (by rw [swapD_length]; omega) (by rw [swapD_length]; omega) (fun d hd => hz d ((swapD_perm hj).mem_iff.1 hd))
  simp only [F3_L4] at ih ⊢
  have w1 : w64 (((j + 1 : Nat) : Int) - 1) = (j : Int) := by rw [w64_id (by omega) (by omega)]; omega
  have hol : (ofD L).length = L.length := by unfold ofD; rw [List.length_map]
  have g1 := ofD_get hj
  have g2 := ofD_get (show j < L.length by omega)
  have z1 : (gD L (j + 1)).2 = 0 := by rw [gD_eq hj]; exact hz _ (List.getElem_mem hj)
  have z2 : (gD L j).2 = 0 := by rw [gD_eq (by omega)]; exact hz _ (List.getElem_mem (by omega))
  have hcmp : ltD (gD L (j + 1)) (gD L j) = decide ((gD L (j + 1)).1 < (gD L j).1) := by
   rw [Bool.eq_iff_iff, ltD_iff, decide_eq_true_eq, z1, z2]; omega
  have c0 : ((j + 1 : Nat) : Int) > 0 := by omega
  have c1 : (0 : Int) ≤ ((j + 1 : Nat) : Int) ∧ ((j + 1 : Nat) : Int) < ((ofD L).length : Int) := by omega
  have c2 : (0 : Int) ≤ (j : Int) ∧ (j : Int) < ((ofD L).length : Int) := by omega
  cases hlt : ltD (gD L (j + 1)) (gD L j) with
  | false =>
   have e : sinkD (j + 1) L = L := by unfold sinkD; rw [hlt]; rfl
   rw [e]
   refine loopO_done ?_
   rw [hcmp] at hlt
   rw [F3_L4_step, T.run_test, if_pos (decide_eq_true c0), T.run_test, if_pos (decide_eq_true c1), T.run_sub, Nat.zero_add, Int.toNat_natCast, g1, Option.bind_some, T.run_test, w1, if_pos (decide_eq_true c2), T.run_sub, Nat.zero_add, Int.toNat_natCast, g2, Option.bind_some, T.run_sub, F45_val, Option.bind_some, T.run_test, hlt, if_neg (by simp), T.run_test, if_pos (by simp), T.run_ret]
  | true =>
   have e : sinkD (j + 1) L = sinkD j (swapD L j) := by conv => lhs; unfold sinkD
                                                        rw [hlt]; rfl
   rw [e, ← ih]
   refine loopO_next ?_
   rw [hcmp] at hlt
   have g3 : ((ofD L).set (j + 1) (gD L j).1)[j]? = some (gD L j).1 := by rw [List.getElem?_set_ne (by omega)]; exact g2
   have hsw : ((ofD L).set (j + 1) (gD L j).1).set j (gD L (j + 1)).1 = ofD (swapD L j) := by unfold ofD swapD; rw [List.map_set, List.map_set]
   rw [F3_L4_step, T.run_test, if_pos (decide_eq_true c0), T.run_test, if_pos (decide_eq_true c1), T.run_sub, Nat.zero_add, Int.toNat_natCast, g1, Option.bind_some, T.run_test, w1, if_pos (decide_eq_true c2), T.run_sub, Nat.zero_add, Int.toNat_natCast, g2, Option.bind_some, T.run_sub, F45_val, Option.bind_some, T.run_test, hlt, if_pos rfl,
    T.run_test, if_pos (decide_eq_true c2), T.run_sub, Option.bind_some, T.run_test, if_pos (decide_eq_true c1), T.run_sub, Option.bind_some, T.run_test, if_pos (decide_eq_true c1), T.run_sub, Option.bind_some, T.run_test, if_pos (decide_eq_true c2), T.run_sub, g3, Option.bind_some, T.run_test, if_pos (by simp), T.run_ret, hsw]
theorem F3_isort : ∀ (n i : Nat) (L : List Dg), i + n = L.length → L.length < 1000000 → (∀ d ∈ L, d.2 = 0) → 0 < i →
  F3_L1 (((), ((0 : Int), ((L.length : Int), (i : Int)))), ofD L) = some ((), ofD (isortD n i L))
 | 0, i, L, hi, hl, hz, h0 => by
  simp only [F3_L1]
  refine loopO_done ?_
  rw [F3_L1_step, T.run_test, if_neg (by rw [decide_eq_true_eq]; omega), T.run_ret]
  rfl
 | n + 1, i, L, hi, hl, hz, h0 => by
  have ih := F3_isort n (i + 1) (sinkD i L) (by rw [sinkD_length]; omega) (by rw [sinkD_length]; omega) (fun d hd => hz d ((sinkD_perm (by omega)).mem_iff.1 hd)) (by omega)
  rw [sinkD_length] at ih
  have hs := F3_sink (L.length : Int) (i : Int) i L (by omega) hl hz
  simp only [F3_L1] at ih ⊢
  show _ = some ((), ofD (isortD n (i + 1) (sinkD i L)))
  rw [← ih]
  refine loopO_next ?_
  have w1 : w64 ((i : Int) + 1) = ((i + 1 : Nat) : Int) := by rw [w64_id (by omega) (by omega)]; omega
  rw [F3_L1_step, T.run_test, if_pos (decide_eq_true (by omega)), T.run_test, if_pos (by simp), T.run_sub, hs, Option.bind_some, T.run_test, if_pos (by simp), T.run_ret, w1]
def F6_sh : FSh := ⟨[(.one (.rw 0 0)), (.one (.si .i64)), (.one (.si .i64)), (.one (.si .i64))], [(.row 0 (.int .i64))]⟩
def F6_L2_sh : LSh := ⟨(fun ex => match ex with | .norm => [(0, none), (1, none), (2, none), (3, none), (8, none), (9, none)] | .exit i => if i = 0 then [] else [] | .ret => []), [(0, (.one (.rw 0 0))), (1, (.one (.si .i64))), (2, (.one (.si .i64))), (3, (.one (.si .i64))), (8, (.one .sb)), (9, (.one .sb))], [(.row 0 (.int .i64))], [⟨.ret, [], [(.row 0 (.int .i64))]⟩], [], []⟩
noncomputable def F6_L2_step : ((Unit × Int × Int × Int × Bool × Bool) × List (Int)) → T (((Unit × Int × Int × Int × Bool × Bool) × List (Int)) ⊕ (Unit × List (Int))) := fun (((), a, b, limit, wasBalanced, wasPartitioned), data) =>
 (.test (decide ((w64 (b - a)) ≤ 12))
 (.test (decide ((0 = 0) ∧ (data.length = data.length)))
 (.sub (F3 (((), (a, b)), data)) fun z0 =>
 (.ret (Sum.inr ((), z0.2))))
 .fail)
 (.test (limit == 0)
 .fail
 (.test (! wasBalanced)
 .fail
 .fail)))
noncomputable def F6_L2 (v) := loopO (fun v => (F6_L2_step v).run) v
def F6_fo : List FO := [⟨[], [(.row 0 (.int .i64))]⟩]
noncomputable def F6_t : ((Unit × Int × Int × Int) × List (Int)) → T (Unit × List (Int)) := fun (((), a, b, limit), data) =>
 (.test (decide ((0 = 0) ∧ (data.length = data.length)))
 (.sub (F6_L2 (((), (a, (b, (limit, (true, true))))), data)) fun z0 =>
 (.ret ((), z0.2)))
 .fail)
noncomputable def F6 (v) := (F6_t v).run
noncomputable def F6_E : TEnv := (E0.add1 n_F3 F3_sh F3_fo F3)
theorem F6_Eok : (F6_E).OK := (E0ok.add1 F3_ok)
noncomputable def F6_told : Nat → Option SealT := fun id => if id = 2 then some (LSh.told F6_L2_sh 1 (F6_L2_step)) else none
theorem F6_L2_ok : ToldOK Tryz.prog 1 (loopAt (bodyOf fn_F6) [0]) (LSh.told F6_L2_sh 1 (F6_L2_step)) :=
 loop_ok (E := F6_E) (F6_Eok) (told := F6_told) (l := F6_L2_sh) (step := F6_L2_step) (loopsOK_of (ls := []) (by kernel_rfl) trivial) (by kernel_rfl) (fun v => by kernel_rfl)
theorem F6_ok : FOK Tryz.prog n_F6 F6_sh F6_fo F6 :=
 fn_ok (E := F6_E) (F6_Eok) (told := F6_told) (fl := []) (c := bodyOf fn_F6) (s := F6_sh) (l := F6_fo) (tree := F6_t) fnat_F6 (by kernel_rfl) (by kernel_rfl) (by kernel_rfl) (loopsOK_of (ls := [loopAt (bodyOf fn_F6) [0]]) (by kernel_rfl) ⟨.inr ⟨_, by kernel_rfl, F6_L2_ok⟩, trivial⟩) (fun v => by kernel_rfl)
def F28_sh : FSh := ⟨[(.one (.rw 0 0))], [(.row 0 (.int .i64))]⟩
def F28_fo : List FO := [⟨[], [(.row 0 (.int .i64))]⟩]
noncomputable def F28_t : (Unit × List (Int)) → T (Unit × List (Int)) := fun ((), x) =>
 (.sub (F40 (wu64 (x.length : Int))) fun z0 =>
 (.test (decide ((0 = 0) ∧ (x.length = x.length)))
 (.sub (F6 (((), ((0 : Int), ((x.length : Int), z0))), x)) fun z1 =>
 (.ret ((), z1.2)))
 .fail))
noncomputable def F28 (v) := (F28_t v).run
noncomputable def F28_E : TEnv := ((E0.add1 n_F40 F40_sh F40_fo F40).add1 n_F6 F6_sh F6_fo F6)
theorem F28_Eok : (F28_E).OK := ((E0ok.add1 F40_ok).add1 F6_ok)
noncomputable def F28_told : Nat → Option SealT := fun id => none
theorem F28_ok : FOK Tryz.prog n_F28 F28_sh F28_fo F28 :=
 fn_ok (E := F28_E) (F28_Eok) (told := F28_told) (fl := []) (c := bodyOf fn_F28) (s := F28_sh) (l := F28_fo) (tree := F28_t) fnat_F28 (by kernel_rfl) (by kernel_rfl) (by kernel_rfl) (loopsOK_of (ls := []) (by kernel_rfl) trivial) (fun v => by kernel_rfl)
theorem F28_eq (l : List Int) (hl : l.length ≤ 12) : F28 ((), l) = some ((), sortI l) := by
 have hw : wu64 (l.length : Int) = (l.length : Int) := IntWalk.u64_in _ ⟨by omega, by omega⟩
 have hz : F40 (wu64 (l.length : Int)) = some (Lib.bitLen l.length : Int) := by
  rw [hw]; unfold F40; rw [if_pos ⟨by omega, by omega⟩, Int.toNat_natCast]
 have w0 : w64 ((l.length : Int) - 0) = (l.length : Int) := by rw [w64_id (by omega) (by omega)]; omega
 have w1 : w64 ((0 : Int) + 1) = ((1 : Nat) : Int) := by rw [w64_id (by omega) (by omega)]; rfl
 have hal : (asD l).length = l.length := by unfold asD; rw [List.length_map]
 have hins : F3 (((), ((0 : Int), (l.length : Int))), l) = some ((), sortI l) := by
  by_cases h0 : l.length = 0
  ·have : l = [] := List.eq_nil_of_length_eq_zero h0
   subst this
   rw [F3, F3_t, T.run_test, if_pos (by simp), T.run_sub, w1, F3_L1, loopO_done (o := ((), []))]
   ·rfl
   ·rfl
  ·have h := F3_isort (l.length - 1) 1 (asD l) (by omega) (by omega) (fun d => asD_snd) (by omega)
   rw [ofD_asD, hal, ← hal, isortD_eq] at h
   rw [F3, F3_t, T.run_test, if_pos (by simp), T.run_sub, w1, ← hal, h, Option.bind_some, T.run_ret]
   rfl
 rw [F28, F28_t, T.run_sub, hz, Option.bind_some, T.run_test, if_pos (by simp), T.run_sub, F6, F6_t, T.run_test, if_pos (by simp), T.run_sub, F6_L2, loopO_done (o := ((), sortI l)), Option.bind_some, T.run_ret, Option.bind_some, T.run_ret]
 rw [F6_L2_step, T.run_test, w0, if_pos (decide_eq_true (by omega)), T.run_test, if_pos (by simp), T.run_sub, hins, Option.bind_some, T.run_ret]
def F61_sh : FSh := ⟨[(.one (.si .i64)), (.one (.sl (.pair (.int .i64) (.int .i64)) false false)), (.one (.si .i64)), (.one (.si .i64))], []⟩
def F61_L4_sh : LSh := ⟨(fun ex => match ex with | .norm => [(2, none), (3, none), (23, none), (24, none), (25, none)] | .exit i => if i = 0 then [] else [] | .ret => [(8, none)]), [(2, (.one (.si .i64))), (3, (.one (.si .i64))), (23, (.one (.sl (.pair (.int .i64) (.int .i64)) false false))), (24, (.one (.si .i64))), (25, (.one (.si .i64)))], [], [⟨.ret, [(8, (.one .sb))], []⟩, ⟨(.exit 0), [], []⟩], [], []⟩
noncomputable def F61_L4_step : (Int × Int × List ((Int × Int)) × Int × Int) → T ((Int × Int × List ((Int × Int)) × Int × Int) ⊕ (Bool ⊕ Unit)) := fun (a, b, t23, t24, t25) =>
 (.test (decide (t25 < t24))
 (.test (decide ((0 ≤ t25) ∧ (t25 < (t23.length : Int))))
 (.sub (t23[(Int.toNat t25)]?) fun z0 =>
 (.test (z0.1 == a)
 (.test (z0.2 == b)
 (.ret (Sum.inr (Sum.inl true)))
 (.ret (Sum.inl (a, (b, (t23, (t24, (w64 (t25 + 1)))))))))
 (.ret (Sum.inl (a, (b, (t23, (t24, (w64 (t25 + 1))))))))))
 .fail)
 (.ret (Sum.inr (Sum.inr ()))))
noncomputable def F61_L4 (v) := loopO (fun v => (F61_L4_step v).run) v
def F61_fo : List FO := [⟨[(.one .sb)], []⟩]
noncomputable def F61_t : (Int × List ((Int × Int)) × Int × Int) → T Bool := fun (n, ds, a, b) =>
 (.test ((w64 (b - a)) == 1)
 (.ret true)
 (.test ((w64 (b - a)) == (w64 (n - 1)))
 (.ret true)
 (.sub (F61_L4 (a, (b, (ds, ((ds.length : Int), (0 : Int)))))) fun z0 =>
 (.test (Sum.isLeft z0)
 (.sub (Sum.getLeft? z0) fun z1 =>
 (.ret z1))
 (.sub (Sum.getRight? z0) fun z2 =>
 (.ret false))))))
noncomputable def F61 (v) := (F61_t v).run
noncomputable def F61_E : TEnv := E0
theorem F61_Eok : (F61_E).OK := E0ok
noncomputable def F61_told : Nat → Option SealT := fun id => if id = 4 then some (LSh.told F61_L4_sh 0 (F61_L4_step)) else none
theorem F61_L4_ok : ToldOK Tryz.prog 0 (loopAt (bodyOf fn_F61) [0]) (LSh.told F61_L4_sh 0 (F61_L4_step)) :=
 loop_ok (E := F61_E) (F61_Eok) (told := F61_told) (l := F61_L4_sh) (step := F61_L4_step) (loopsOK_of (ls := []) (by kernel_rfl) trivial) (by kernel_rfl) (fun v => by kernel_rfl)
theorem F61_ok : FOK Tryz.prog n_F61 F61_sh F61_fo F61 :=
 fn_ok (E := F61_E) (F61_Eok) (told := F61_told) (fl := []) (c := bodyOf fn_F61) (s := F61_sh) (l := F61_fo) (tree := F61_t) fnat_F61 (by kernel_rfl) (by kernel_rfl) (by kernel_rfl) (loopsOK_of (ls := [loopAt (bodyOf fn_F61) [0]]) (by kernel_rfl) ⟨.inr ⟨_, by kernel_rfl, F61_L4_ok⟩, trivial⟩) (fun v => by kernel_rfl)
theorem F61_eq (n : Nat) (ds : List Dg) (a b : Int) (hn : n ≤ 12) (ha : 0 ≤ a ∧ a ≤ 12) (hb : 0 ≤ b ∧ b ≤ 12) (hl : ds.length < 1000000) : F61 ((n : Int), (ds, (a, b))) = some (joinD n ds a b) := by
 have w1 : w64 (b - a) = b - a := w64_id (by omega) (by omega)
 have w2 : w64 ((n : Int) - 1) = (n : Int) - 1 := w64_id (by omega) (by omega)
 have h := loop_any (step := fun v => (F61_L4_step v).run) (xs := ds) (fun d => decide ((a, b) = d)) (fun k => (a, (b, (ds, ((ds.length : Int), (k : Int)))))) (.inl true) (.inr ())
  (fun k x hx => by
   have hlt := getElem?_lt hx
   obtain ⟨x, y⟩ := x
   have w1 : w64 ((k : Int) + 1) = ((k + 1 : Nat) : Int) := by rw [w64_id (by omega) (by omega)]; omega
   rw [F61_L4_step, T.run_test, if_pos (decide_eq_true (by omega)), T.run_test, if_pos (decide_eq_true (by omega)), T.run_sub, Int.toNat_natCast, hx, Option.bind_some, T.run_test, w1]
   by_cases c1 : x = a
   ·subst c1
    rw [if_pos (by simp), T.run_test]
    by_cases c2 : y = b
    ·subst c2
     rw [if_pos (by simp), T.run_ret]
     simp
    ·rw [if_neg (by simpa using c2), T.run_ret, if_neg (by simp; exact fun e => c2 e.symm)]
   ·rw [if_neg (by simpa using c1), T.run_ret, if_neg (by simp; exact fun e => absurd e.symm c1)])
  (by rw [F61_L4_step, T.run_test, if_neg (by simp), T.run_ret])
 simp only [Int.natCast_zero] at h
 have e : ds.any (fun d => decide ((a, b) = d)) = decide ((a, b) ∈ ds) := by
  rw [Bool.eq_iff_iff, List.any_eq_true, decide_eq_true_eq]
  constructor
  ·rintro ⟨d, hd, e⟩; rw [decide_eq_true_eq] at e; rw [e]; exact hd
  ·exact fun h => ⟨_, h, by simp⟩
 rw [F61, F61_t, T.run_test, w1, w2, joinD]
 by_cases c1 : b - a = 1
 ·rw [if_pos (by simpa using c1), T.run_ret, decide_eq_true c1]; rfl
 ·rw [if_neg (by simpa using c1), T.run_test, decide_eq_false c1]
  by_cases c2 : b - a = (n : Int) - 1
  ·rw [if_pos (by simpa using c2), T.run_ret, decide_eq_true c2]; rfl
  ·rw [if_neg (by simpa using c2), T.run_sub, F61_L4, h, Option.bind_some, T.run_test, decide_eq_false c2, e]
   cases decide ((a, b) ∈ ds) <;> rfl
def F79_sh : FSh := ⟨[(.one (.sl (.int .i64) false false)), (.one (.sl (.int .i64) false false))], []⟩
def F79_L2_sh : LSh := ⟨(fun ex => match ex with | .norm => [(0, none), (1, none), (5, none)] | .exit i => if i = 0 then [(0, none), (1, none)] else [] | .ret => [(4, none)]), [(0, (.one (.sl (.int .i64) false false))), (1, (.one (.sl (.int .i64) false false))), (5, (.one (.si .i64)))], [], [⟨.ret, [(4, (.one .sb))], []⟩, ⟨(.exit 0), [(0, (.one (.sl (.int .i64) false false))), (1, (.one (.sl (.int .i64) false false)))], []⟩], [], []⟩
noncomputable def F79_L2_step : (List (Int) × List (Int) × Int) → T ((List (Int) × List (Int) × Int) ⊕ (Bool ⊕ (List (Int) × List (Int)))) := fun (a, b, i) =>
 (.test (decide (i < (a.length : Int)))
 (.test (decide (i < (b.length : Int)))
 (.test (decide ((0 ≤ i) ∧ (i < (a.length : Int))))
 (.sub (a[(Int.toNat i)]?) fun z0 =>
 (.test (decide ((0 ≤ i) ∧ (i < (b.length : Int))))
 (.sub (b[(Int.toNat i)]?) fun z1 =>
 (.test (z0 != z1)
 (.test (decide ((0 ≤ i) ∧ (i < (a.length : Int))))
 (.sub (a[(Int.toNat i)]?) fun z2 =>
 (.test (decide ((0 ≤ i) ∧ (i < (b.length : Int))))
 (.sub (b[(Int.toNat i)]?) fun z3 =>
 (.ret (Sum.inr (Sum.inl (decide (z2 < z3))))))
 .fail))
 .fail)
 (.ret (Sum.inl (a, (b, (w64 (i + 1))))))))
 .fail))
 .fail)
 (.ret (Sum.inr (Sum.inr (a, b)))))
 (.ret (Sum.inr (Sum.inr (a, b)))))
noncomputable def F79_L2 (v) := loopO (fun v => (F79_L2_step v).run) v
def F79_fo : List FO := [⟨[(.one .sb)], []⟩]
noncomputable def F79_t : (List (Int) × List (Int)) → T Bool := fun (a, b) =>
 (.sub (F79_L2 (a, (b, (0 : Int)))) fun z0 =>
 (.test (Sum.isLeft z0)
 (.sub (Sum.getLeft? z0) fun z1 =>
 (.ret z1))
 (.sub (Sum.getRight? z0) fun z2 =>
 (.ret (decide ((z2.1.length : Int) < (z2.2.length : Int)))))))
noncomputable def F79 (v) := (F79_t v).run
noncomputable def F79_E : TEnv := E0
theorem F79_Eok : (F79_E).OK := E0ok
noncomputable def F79_told : Nat → Option SealT := fun id => if id = 2 then some (LSh.told F79_L2_sh 0 (F79_L2_step)) else none
theorem F79_L2_ok : ToldOK Tryz.prog 0 (loopAt (bodyOf fn_F79) [0]) (LSh.told F79_L2_sh 0 (F79_L2_step)) :=
 loop_ok (E := F79_E) (F79_Eok) (told := F79_told) (l := F79_L2_sh) (step := F79_L2_step) (loopsOK_of (ls := []) (by kernel_rfl) trivial) (by kernel_rfl) (fun v => by kernel_rfl)
theorem F79_ok : FOK Tryz.prog n_F79 F79_sh F79_fo F79 :=
 fn_ok (E := F79_E) (F79_Eok) (told := F79_told) (fl := []) (c := bodyOf fn_F79) (s := F79_sh) (l := F79_fo) (tree := F79_t) fnat_F79 (by kernel_rfl) (by kernel_rfl) (by kernel_rfl) (loopsOK_of (ls := [loopAt (bodyOf fn_F79) [0]]) (by kernel_rfl) ⟨.inr ⟨_, by kernel_rfl, F79_L2_ok⟩, trivial⟩) (fun v => by kernel_rfl)
theorem F79_loop (a b : List Int) (ha : a.length < 1000000) (hb : b.length < 1000000) : ∀ (m i : Nat), i + m = a.length → a.take i = b.take i → i ≤ b.length → ∃ r, F79_L2 (a, (b, (i : Int))) = some r ∧ ((∃ v, r = .inl v ∧ v = ltL (a.drop i) (b.drop i)) ∨ (r = .inr (a, b) ∧ decide ((a.length : Int) < (b.length : Int)) = ltL (a.drop i) (b.drop i))) := by
 intro m
 induction m with
 | zero =>
  intro i hi ht hib
  refine ⟨.inr (a, b), ?_, .inr ⟨rfl, ?_⟩⟩
  ·simp only [F79_L2]
   refine loopO_done ?_
   rw [F79_L2_step, T.run_test, if_neg (by rw [decide_eq_true_eq]; omega), T.run_ret]
  ·rw [List.drop_eq_nil_of_le (by omega : a.length ≤ i)]
   by_cases c : i = b.length
   ·rw [List.drop_eq_nil_of_le (by omega : b.length ≤ i)]
    rw [ltL, decide_eq_false (by omega)]
   ·rw [List.drop_eq_getElem_cons (show i < b.length by omega), ltL, decide_eq_true (by omega)]
 | succ m ih =>
  intro i hi ht hib
  have hia : i < a.length := by omega
  by_cases c : i < b.length
  ·have w1 : w64 ((i : Int) + 1) = ((i + 1 : Nat) : Int) := by rw [w64_id (by omega) (by omega)]; omega
   have st : ∀ z : T ((List Int × List Int × Int) ⊕ (Bool ⊕ (List Int × List Int))), True := fun _ => trivial
   rw [List.drop_eq_getElem_cons hia, List.drop_eq_getElem_cons c, ltL]
   by_cases e : a[i] = b[i]
   ·obtain ⟨r, h1, h2⟩ := ih (i + 1) (by omega) (by rw [List.take_add_one, List.take_add_one, ht, List.getElem?_eq_getElem hia, List.getElem?_eq_getElem c, e]) (by omega)
    refine ⟨r, ?_, ?_⟩
    ·simp only [F79_L2] at h1 ⊢
     rw [← h1]
     refine loopO_next ?_
     rw [F79_L2_step, T.run_test, if_pos (decide_eq_true (by omega)), T.run_test, if_pos (decide_eq_true (by omega)), T.run_test, if_pos (decide_eq_true (by omega)), T.run_sub, Int.toNat_natCast, List.getElem?_eq_getElem hia, Option.bind_some, T.run_test, if_pos (decide_eq_true (by omega)), T.run_sub, List.getElem?_eq_getElem c, Option.bind_some, T.run_test, if_neg (by simp [e]), T.run_ret, w1]
    ·rw [if_neg (by omega), if_neg (by omega)]
     exact h2
   ·refine ⟨.inl (decide (a[i] < b[i])), ?_, .inl ⟨_, rfl, ?_⟩⟩
    ·simp only [F79_L2]
     refine loopO_done ?_
     rw [F79_L2_step, T.run_test, if_pos (decide_eq_true (by omega)), T.run_test, if_pos (decide_eq_true (by omega)), T.run_test, if_pos (decide_eq_true (by omega)), T.run_sub, Int.toNat_natCast, List.getElem?_eq_getElem hia, Option.bind_some, T.run_test, if_pos (decide_eq_true (by omega)), T.run_sub, List.getElem?_eq_getElem c, Option.bind_some, T.run_test, if_pos (by simpa using e),
      T.run_test, if_pos (decide_eq_true (by omega)), T.run_sub, Option.bind_some, T.run_test, if_pos (decide_eq_true (by omega)), T.run_sub, Option.bind_some, T.run_ret]
    ·by_cases c2 : a[i] < b[i]
     ·rw [if_pos c2, decide_eq_true c2]
     ·rw [if_neg c2, if_pos (by omega), decide_eq_false c2]
  ·refine ⟨.inr (a, b), ?_, .inr ⟨rfl, ?_⟩⟩
   ·simp only [F79_L2]
    refine loopO_done ?_
    rw [F79_L2_step, T.run_test, if_pos (decide_eq_true (by omega)), T.run_test, if_neg (by rw [decide_eq_true_eq]; omega), T.run_ret]
   ·rw [List.drop_eq_getElem_cons hia, List.drop_eq_nil_of_le (by omega : b.length ≤ i), ltL, decide_eq_false (by omega)]
theorem F79_eq (a b : List Int) (ha : a.length < 1000000) (hb : b.length < 1000000) : F79 (a, b) = some (ltL a b) := by
 obtain ⟨r, h1, h2⟩ := F79_loop a b ha hb a.length 0 (by omega) rfl (by omega)
 rw [Int.natCast_zero] at h1
 rw [F79, F79_t, T.run_sub, h1, Option.bind_some, T.run_test]
 rcases h2 with ⟨v, rfl, hv⟩ | ⟨rfl, hv⟩
 ·rw [if_pos (by simp), T.run_sub]
  simp only [List.drop_zero] at hv
  rw [← hv]; rfl
 ·rw [if_neg (by simp), T.run_sub]
  simp only [List.drop_zero] at hv
  rw [← hv]; rfl
def insF (out : List (List Int)) (q : List Int) : List (List Int) := out.takeWhile (fun p => ltL p q) ++ q :: out.dropWhile (fun p => ltL p q)
theorem insF_perm (out : List (List Int)) (q : List Int) : (insF out q).Perm (q :: out) := by
 unfold insF
 have h := List.perm_middle (a := q) (l₁ := out.takeWhile fun p => ltL p q) (l₂ := out.dropWhile fun p => ltL p q)
 rwa [List.takeWhile_append_dropWhile] at h
theorem insF_up (q : List Int) : ∀ {out : List (List Int)}, (out.Pairwise fun a b => leL a b = true) → (insF out q).Pairwise fun a b => leL a b = true
 | [], _ => by simp [insF]
 | p :: t, h => by
  rw [List.pairwise_cons] at h
  obtain ⟨h1, h2⟩ := h
  cases c : ltL p q with
  | true =>
   have e : insF (p :: t) q = p :: insF t q := by simp [insF, c]
   rw [e, List.pairwise_cons]
   refine ⟨fun b hb => ?_, insF_up q h2⟩
   rcases List.mem_cons.1 ((insF_perm t q).mem_iff.1 hb) with rfl | hb
   ·unfold leL
    cases c2 : ltL b p with
    | false => rfl
    | true => have := ltL_trans c c2; rw [ltL_irr] at this; cases this
   ·exact h1 b hb
  | false =>
   have e : insF (p :: t) q = q :: p :: t := by simp [insF, c]
   have hq : leL q p = true := by unfold leL; rw [c]; rfl
   rw [e, List.pairwise_cons]
   refine ⟨fun b hb => ?_, List.pairwise_cons.2 ⟨h1, h2⟩⟩
   rcases List.mem_cons.1 hb with rfl | hb
   ·exact hq
   ·exact leL_trans hq (h1 b hb)
theorem insF_all : ∀ (l out : List (List Int)), (out.Pairwise fun a b => leL a b = true) → ((l.foldl insF out).Pairwise fun a b => leL a b = true) ∧ (l.foldl insF out).Perm (out ++ l)
 | [], out, h => ⟨h, by simp⟩
 | q :: l, out, h => by
  obtain ⟨h1, h2⟩ := insF_all l (insF out q) (insF_up q h)
  refine ⟨h1, h2.trans ?_⟩
  exact ((insF_perm out q).append_right l).trans (by simpa using (List.perm_middle (a := q) (l₁ := out) (l₂ := l)).symm)
theorem insF_sortL (l : List (List Int)) : l.foldl insF [] = sortL l := by
 obtain ⟨h1, h2⟩ := insF_all l [] (by simp)
 exact sortL_unique h1 (by rwa [List.nil_append] at h2)
theorem insF_len (out : List (List Int)) (q : List Int) : (insF out q).length = out.length + 1 := (insF_perm out q).length_eq
theorem insF_idx {α : Type} (f : α → Bool) : ∀ (l : List α), ∃ k, k ≤ l.length ∧ l.takeWhile f = l.take k ∧ l.dropWhile f = l.drop k ∧ (∀ p (h : p < l.length), p < k → f l[p] = true) ∧ ∀ (h : k < l.length), f l[k] = false
 | [] => ⟨0, by simp, rfl, rfl, fun p h => by simp at h, fun h => by simp at h⟩
 | a :: l => by
  cases c : f a with
  | false => exact ⟨0, by simp, by simp [c], by simp [c], fun p h h2 => by omega, fun h => c⟩
  | true =>
   obtain ⟨k, h1, h2, h3, h4, h5⟩ := insF_idx f l
   refine ⟨k + 1, by simp [h1], by simp [c, h2], by simp [c, h3], fun p h hp => ?_, fun h => ?_⟩
   ·cases p with
    | zero => exact c
    | succ p => exact h4 p (by simpa using h) (by omega)
   ·exact h5 (by simpa using h)
def F62_sh : FSh := ⟨[(.one (.sl (.list true (.int .i64)) false false))], []⟩
def F62_L6_sh : LSh := ⟨(fun ex => match ex with | .norm => [(3, none), (5, none), (6, none), (8, none), (9, none), (10, none)] | .exit i => if i = 2 then [(3, none), (5, none), (6, none), (8, none), (9, none), (10, none)] else if i = 1 then [(3, none), (8, none), (9, none), (10, none)] else if i = 0 then [(3, none)] else [] | .ret => [(2, none)]), [(3, (.one (.rw 0 0))), (5, (.one (.sl (.int .i64) false true))), (6, (.one (.si .i64))), (8, (.one (.sl (.list true (.int .i64)) false false))), (9, (.one (.si .i64))), (10, (.one (.si .i64)))], [(.row 0 (.list true (.int .i64)))], [⟨(.exit 2), [(3, (.one (.rw 0 0))), (5, (.one (.sl (.int .i64) false true))), (6, (.one (.si .i64))), (8, (.one (.sl (.list true (.int .i64)) false false))), (9, (.one (.si .i64))), (10, (.one (.si .i64)))], [(.row 0 (.list true (.int .i64)))]⟩], [], []⟩
noncomputable def F62_L6_step : ((Unit × List (Int) × Int × List (List (Int)) × Int × Int) × List (List (Int))) → T (((Unit × List (Int) × Int × List (List (Int)) × Int × Int) × List (List (Int))) ⊕ ((Unit × List (Int) × Int × List (List (Int)) × Int × Int) × List (List (Int)))) := fun (((), x, k, t8, t9, t10), out) =>
 (.test (decide (k < (out.length : Int)))
 (.test (decide ((0 ≤ k) ∧ (k < (out.length : Int))))
 (.sub (out[(0 + (Int.toNat k))]?) fun z0 =>
 (.sub (F79 (z0, x)) fun z1 =>
 (.test z1
 (.test (decide ((0 = 0) ∧ (out.length = out.length)))
 (.ret (Sum.inl (((), (x, ((w64 (k + 1)), (t8, (t9, t10))))), out)))
 .fail)
 (.test (decide ((0 = 0) ∧ (out.length = out.length)))
 (.ret (Sum.inr (((), (x, (k, (t8, (t9, t10))))), out)))
 .fail))))
 .fail)
 (.test (decide ((0 = 0) ∧ (out.length = out.length)))
 (.ret (Sum.inr (((), (x, (k, (t8, (t9, t10))))), out)))
 .fail))
noncomputable def F62_L6 (v) := loopO (fun v => (F62_L6_step v).run) v
def F62_L3_sh : LSh := ⟨(fun ex => match ex with | .norm => [(3, none), (8, none), (9, none), (10, none)] | .exit i => if i = 0 then [(3, none)] else [] | .ret => [(2, none)]), [(3, (.one (.rw 0 0))), (8, (.one (.sl (.list true (.int .i64)) false false))), (9, (.one (.si .i64))), (10, (.one (.si .i64)))], [(.row 0 (.list true (.int .i64)))], [⟨(.exit 0), [(3, (.one (.rw 0 0)))], [(.row 0 (.list true (.int .i64)))]⟩], [], []⟩
noncomputable def F62_L3_step : ((Unit × List (List (Int)) × Int × Int) × List (List (Int))) → T (((Unit × List (List (Int)) × Int × Int) × List (List (Int))) ⊕ (Unit × List (List (Int)))) := fun (((), t8, t9, t10), out) =>
 (.test (decide (t10 < t9))
 (.test (decide ((0 ≤ t10) ∧ (t10 < (t8.length : Int))))
 (.sub (t8[(Int.toNat t10)]?) fun z0 =>
 (.test (decide ((0 = 0) ∧ (out.length = out.length)))
 (.sub (F62_L6 (((), (z0, ((0 : Int), (t8, (t9, t10))))), out)) fun z1 =>
 (.test (decide (0 ≤ z1.1.2.2.1))
 (.test (decide ((0 ≤ (Int.toNat z1.1.2.2.1)) ∧ ((Int.toNat z1.1.2.2.1) ≤ z1.2.length)))
 (.test (decide ((0 + ((Int.toNat z1.1.2.2.1) - 0)) ≤ z1.2.length))
 (.test true
 (.test (decide ((2 * ((0 + (List.length (win z1.2 0 ((Int.toNat z1.1.2.2.1) - 0)))) * 25)) ≤ 140737488355328))
 (.test (decide (1 ≤ (List.length (List.set (List.replicate 1 ([] : List (Int))) 0 z1.1.2.1))))
 (.test (decide ((0 + (0 + (List.length (win z1.2 0 ((Int.toNat z1.1.2.2.1) - 0))))) ≤ (List.length ((win (List.replicate 0 ([] : List (Int))) 0 0) ++ (win z1.2 0 ((Int.toNat z1.1.2.2.1) - 0))))))
 (.test (decide ((2 * (((0 + (List.length (win z1.2 0 ((Int.toNat z1.1.2.2.1) - 0)))) + (List.length (win (List.set (List.replicate 1 ([] : List (Int))) 0 z1.1.2.1) 0 1))) * 25)) ≤ 140737488355328))
 (.test (decide (0 ≤ z1.1.2.2.1))
 (.test (decide (((Int.toNat z1.1.2.2.1) ≤ z1.2.length) ∧ (z1.2.length ≤ z1.2.length)))
 (.test (decide (((0 + (Int.toNat z1.1.2.2.1)) + (z1.2.length - (Int.toNat z1.1.2.2.1))) ≤ z1.2.length))
 (.test (decide ((0 + ((0 + (List.length (win z1.2 0 ((Int.toNat z1.1.2.2.1) - 0)))) + (List.length (win (List.set (List.replicate 1 ([] : List (Int))) 0 z1.1.2.1) 0 1)))) ≤ (List.length ((win ((win (List.replicate 0 ([] : List (Int))) 0 0) ++ (win z1.2 0 ((Int.toNat z1.1.2.2.1) - 0))) 0 (0 + (List.length (win z1.2 0 ((Int.toNat z1.1.2.2.1) - 0))))) ++ (win (List.set (List.replicate 1 ([] : List (Int))) 0 z1.1.2.1) 0 1)))))
 (.test (decide ((2 * ((((0 + (List.length (win z1.2 0 ((Int.toNat z1.1.2.2.1) - 0)))) + (List.length (win (List.set (List.replicate 1 ([] : List (Int))) 0 z1.1.2.1) 0 1))) + (List.length (win z1.2 (0 + (Int.toNat z1.1.2.2.1)) (z1.2.length - (Int.toNat z1.1.2.2.1))))) * 25)) ≤ 140737488355328))
 (.test (decide ((0 = 0) ∧ ((((0 + (List.length (win z1.2 0 ((Int.toNat z1.1.2.2.1) - 0)))) + (List.length (win (List.set (List.replicate 1 ([] : List (Int))) 0 z1.1.2.1) 0 1))) + (List.length (win z1.2 (0 + (Int.toNat z1.1.2.2.1)) (z1.2.length - (Int.toNat z1.1.2.2.1))))) = (List.length ((win ((win ((win (List.replicate 0 ([] : List (Int))) 0 0) ++ (win z1.2 0 ((Int.toNat z1.1.2.2.1) - 0))) 0 (0 + (List.length (win z1.2 0 ((Int.toNat z1.1.2.2.1) - 0))))) ++ (win (List.set (List.replicate 1 ([] : List (Int))) 0 z1.1.2.1) 0 1)) 0 ((0 + (List.length (win z1.2 0 ((Int.toNat z1.1.2.2.1) - 0)))) + (List.length (win (List.set (List.replicate 1 ([] : List (Int))) 0 z1.1.2.1) 0 1)))) ++ (win z1.2 (0 + (Int.toNat z1.1.2.2.1)) (z1.2.length - (Int.toNat z1.1.2.2.1))))))))
 (.ret (Sum.inl (((), (z1.1.2.2.2.1, (z1.1.2.2.2.2.1, (w64 (z1.1.2.2.2.2.2 + 1))))), ((win ((win ((win (List.replicate 0 ([] : List (Int))) 0 0) ++ (win z1.2 0 ((Int.toNat z1.1.2.2.1) - 0))) 0 (0 + (List.length (win z1.2 0 ((Int.toNat z1.1.2.2.1) - 0))))) ++ (win (List.set (List.replicate 1 ([] : List (Int))) 0 z1.1.2.1) 0 1)) 0 ((0 + (List.length (win z1.2 0 ((Int.toNat z1.1.2.2.1) - 0)))) + (List.length (win (List.set (List.replicate 1 ([] : List (Int))) 0 z1.1.2.1) 0 1)))) ++ (win z1.2 (0 + (Int.toNat z1.1.2.2.1)) (z1.2.length - (Int.toNat z1.1.2.2.1)))))))
 .fail)
 .fail)
 .fail)
 .fail)
 .fail)
 .fail)
 .fail)
 .fail)
 .fail)
 .fail)
 .fail)
 .fail)
 .fail)
 .fail))
 .fail))
 .fail)
 (.test (decide ((0 = 0) ∧ (out.length = out.length)))
 (.ret (Sum.inr ((), out)))
 .fail))
noncomputable def F62_L3 (v) := loopO (fun v => (F62_L3_step v).run) v
def F62_fo : List FO := [⟨[(.one (.rw 0 0))], [(.row 0 (.list true (.int .i64)))]⟩]
noncomputable def F62_t : List (List (Int)) → T (Unit × List (List (Int))) := fun list =>
 (.test true
 (.sub (F62_L3 (((), (list, ((list.length : Int), (0 : Int)))), ([] : List (List Int)))) fun z0 =>
 (.test (decide ((0 = 0) ∧ (z0.2.length = z0.2.length)))
 (.ret ((), z0.2))
 .fail))
 .fail)
noncomputable def F62 (v) := (F62_t v).run
noncomputable def F62_E : TEnv := (E0.add1 n_F79 F79_sh F79_fo F79)
theorem F62_Eok : (F62_E).OK := (E0ok.add1 F79_ok)
noncomputable def F62_told : Nat → Option SealT := fun id => if id = 6 then some (LSh.told F62_L6_sh 0 (F62_L6_step)) else if id = 3 then some (LSh.told F62_L3_sh 0 (F62_L3_step)) else none
theorem F62_L6_ok : ToldOK Tryz.prog 0 (loopAt (bodyOf fn_F62) [0, 0]) (LSh.told F62_L6_sh 0 (F62_L6_step)) :=
 loop_ok (E := F62_E) (F62_Eok) (told := F62_told) (l := F62_L6_sh) (step := F62_L6_step) (loopsOK_of (ls := []) (by kernel_rfl) trivial) (by kernel_rfl) (fun v => by kernel_rfl)
theorem F62_L3_ok : ToldOK Tryz.prog 0 (loopAt (bodyOf fn_F62) [0]) (LSh.told F62_L3_sh 0 (F62_L3_step)) :=
 loop_ok (E := F62_E) (F62_Eok) (told := F62_told) (l := F62_L3_sh) (step := F62_L3_step) (loopsOK_of (ls := [loopAt (bodyOf fn_F62) [0, 0]]) (by kernel_rfl) ⟨.inr ⟨_, by kernel_rfl, F62_L6_ok⟩, trivial⟩) (by kernel_rfl) (fun v => by kernel_rfl)
theorem F62_ok : FOK Tryz.prog n_F62 F62_sh F62_fo F62 :=
 fn_ok (E := F62_E) (F62_Eok) (told := F62_told) (fl := []) (c := bodyOf fn_F62) (s := F62_sh) (l := F62_fo) (tree := F62_t) fnat_F62 (by kernel_rfl) (by kernel_rfl) (by kernel_rfl) (loopsOK_of (ls := [loopAt (bodyOf fn_F62) [0]]) (by kernel_rfl) ⟨.inr ⟨_, by kernel_rfl, F62_L3_ok⟩, trivial⟩) (fun v => by kernel_rfl)
theorem F62_L6_eq (x : List Int) (t8 : List (List Int)) (t9 t10 : Int) (out : List (List Int)) (K : Nat) (hx : x.length < 1000000) (ho : ∀ p ∈ out, p.length < 1000000) (hl : out.length < 1000000)
  (hK : K ≤ out.length) (k4 : ∀ p (h : p < out.length), p < K → ltL out[p] x = true) (k5 : ∀ (h : K < out.length), ltL out[K] x = false) : ∀ (m k : Nat), k + m = out.length → k ≤ K →
  F62_L6 (((), (x, ((k : Int), (t8, (t9, t10))))), out) = some (((), (x, ((K : Int), (t8, (t9, t10))))), out) := by
 intro m
 induction m with
 | zero =>
  intro k hk h2
  have e : K = k := by omega
  rw [e]
  simp only [F62_L6]
  refine loopO_done ?_
  rw [F62_L6_step, T.run_test, if_neg (by rw [decide_eq_true_eq]; omega), T.run_test, if_pos (by simp), T.run_ret]
 | succ m ih =>
  intro k hk h2
  have hlt : k < out.length := by omega
  have w1 : w64 ((k : Int) + 1) = ((k + 1 : Nat) : Int) := by rw [w64_id (by omega) (by omega)]; omega
  by_cases c : k < K
  ·have hp := k4 k hlt c
   have := ih (k + 1) (by omega) (by omega)
   simp only [F62_L6] at this ⊢
   rw [← this]
   refine loopO_next ?_
   rw [F62_L6_step, T.run_test, if_pos (decide_eq_true (by omega)), T.run_test, if_pos (decide_eq_true (by omega)), T.run_sub, Nat.zero_add, Int.toNat_natCast, List.getElem?_eq_getElem hlt, Option.bind_some, T.run_sub, F79_eq _ _ (ho _ (List.getElem_mem hlt)) hx, Option.bind_some, T.run_test, if_pos hp, T.run_test, if_pos (by simp), T.run_ret, w1]
  ·have e : K = k := by omega
   subst e
   have hp := k5 hlt
   simp only [F62_L6]
   refine loopO_done ?_
   rw [F62_L6_step, T.run_test, if_pos (decide_eq_true (by omega)), T.run_test, if_pos (decide_eq_true (by omega)), T.run_sub, Nat.zero_add, Int.toNat_natCast, List.getElem?_eq_getElem hlt, Option.bind_some, T.run_sub, F79_eq _ _ (ho _ (List.getElem_mem hlt)) hx, Option.bind_some, T.run_test, if_neg (by rw [hp]; simp), T.run_test, if_pos (by simp), T.run_ret]
theorem F62_loop (l : List (List Int)) (hl : l.length < 1000) (hx : ∀ p ∈ l, p.length < 1000000) : ∀ (m i : Nat) (out : List (List Int)), i + m = l.length → out.length = i → (∀ p ∈ out, p.length < 1000000) →
  F62_L3 (((), (l, ((l.length : Int), (i : Int)))), out) = some ((), (l.drop i).foldl insF out) := by
 intro m
 induction m with
 | zero =>
  intro i out hi ho hp
  rw [List.drop_eq_nil_of_le (by omega)]
  simp only [F62_L3]
  refine loopO_done ?_
  rw [F62_L3_step, T.run_test, if_neg (by rw [decide_eq_true_eq]; omega), T.run_test, if_pos (by simp), T.run_ret]
  rfl
 | succ m ih =>
  intro i out hi ho hp
  have hlt : i < l.length := by omega
  have w1 : w64 ((i : Int) + 1) = ((i + 1 : Nat) : Int) := by rw [w64_id (by omega) (by omega)]; omega
  have hxi := hx _ (List.getElem_mem hlt)
  have := ih (i + 1) (insF out l[i]) (by omega) (by rw [insF_len]; omega) (fun p hp' => by
   rcases List.mem_cons.1 ((insF_perm _ _).mem_iff.1 hp') with rfl | h
   ·exact hxi
   ·exact hp p h)
  obtain ⟨K, k1, k2, k3, k4, k5⟩ := insF_idx (fun p => ltL p l[i]) out
  have h6 := F62_L6_eq l[i] l (l.length : Int) (i : Int) out K hxi hp (by omega) k1 k4 k5 out.length 0 (by omega) (by omega)
  rw [Int.natCast_zero] at h6
  have et : win out 0 (K - 0) = out.take K := by rw [win_take, Nat.sub_zero]
  have ed : win out K (out.length - K) = out.drop K := by
   unfold win
   rw [List.take_of_length_le (by simp)]
  have lA : (out.take K).length = K := by rw [List.length_take]; omega
  have lB : (out.drop K).length = out.length - K := by rw [List.length_drop]
  have ei : insF out l[i] = (out.take K ++ [l[i]]) ++ out.drop K := by unfold insF; rw [k2, k3]; simp
  rw [List.drop_eq_getElem_cons hlt, List.foldl_cons]
  generalize out.take K = A at *
  generalize out.drop K = B at *
  have hw1 : win A 0 K = A := by have := win_all A; rwa [lA] at this
  have hw2 : win (A ++ [l[i]]) 0 (K + 1) = A ++ [l[i]] := by have := win_all (A ++ [l[i]]); rwa [List.length_append, lA] at this
  have e0 : win (List.replicate 0 ([] : List Int)) 0 0 = [] := rfl
  simp only [F62_L3] at this ⊢
  rw [← this]
  refine loopO_next ?_
  rw [F62_L3_step, T.run_test, if_pos (decide_eq_true (by omega)), T.run_test, if_pos (decide_eq_true (by omega)), T.run_sub, Int.toNat_natCast, List.getElem?_eq_getElem hlt, Option.bind_some, T.run_test, if_pos (by simp), T.run_sub, h6, Option.bind_some]
  simp only [Int.toNat_natCast, Nat.zero_add, et, ed, e0, win_one, List.nil_append, lA, lB, hw1, hw2, List.length_append, List.length_singleton, w1]
  rw [T.run_test, if_pos (decide_eq_true (by omega)), T.run_test, if_pos (decide_eq_true (by omega)), T.run_test, if_pos (decide_eq_true (by omega)), T.run_test, if_pos rfl, T.run_test, if_pos (decide_eq_true (by omega)), T.run_test, if_pos (by simp), T.run_test, if_pos (decide_eq_true (by omega)), T.run_test, if_pos (decide_eq_true (by omega)), T.run_test, if_pos (decide_eq_true (by omega)), T.run_test, if_pos (decide_eq_true (by omega)), T.run_test, if_pos (decide_eq_true (by omega)), T.run_test, if_pos (decide_eq_true (by omega)), T.run_test, if_pos (decide_eq_true (by omega)), T.run_test, if_pos (by simp), T.run_ret, ei]
theorem F62_eq (l : List (List Int)) (hl : l.length < 1000) (hx : ∀ p ∈ l, p.length < 1000000) : F62 l = some ((), sortL l) := by
 have h := F62_loop l hl hx l.length 0 [] (by omega) rfl (by simp)
 rw [Int.natCast_zero, List.drop_zero, insF_sortL] at h
 rw [F62, F62_t, T.run_test, if_pos rfl, T.run_sub, h, Option.bind_some, T.run_test, if_pos (by simp), T.run_ret]
def F63_sh : FSh := ⟨[(.one (.si .i64)), (.one (.sl (.pair (.int .i64) (.int .i64)) false false))], []⟩
def F63_L16_sh : LSh := ⟨(fun ex => match ex with | .norm => [(0, none), (1, none), (5, none), (6, none), (7, none), (8, none), (9, none), (10, none), (11, none), (12, none)] | .exit i => if i = 6 then [(0, none), (1, none), (5, none), (6, none), (7, none), (8, none), (9, none), (11, none)] else if i = 5 then [(0, none), (1, none), (5, none), (6, none), (7, none), (8, none), (9, none), (10, none)] else if i = 4 then [(0, none), (1, none), (5, none), (6, none), (7, none), (8, none), (9, none)] else if i = 3 then [(0, none), (1, none), (5, none), (6, none), (7, none), (8, none)] else if i = 2 then [(0, none), (1, none), (5, none), (6, none), (7, none)] else if i = 1 then [(0, none), (1, none), (5, none), (6, none), (7, none)] else if i = 0 then [(5, none)] else [] | .ret => [(4, none)]), [(0, (.one (.si .i64))), (1, (.one (.sl (.pair (.int .i64) (.int .i64)) false false))), (5, (.one (.rw 0 0))), (6, (.one (.rw 1 0))), (7, (.one (.si .i64))), (8, (.one (.si .i64))), (9, (.one (.rw 2 0))), (10, (.one (.si .i64))), (11, (.one (.si .i64))), (12, (.one (.si .i64)))], [(.row 0 (.list true (.int .i64))), (.row 0 .bool), (.row 0 (.int .i64))], [⟨(.exit 6), [(0, (.one (.si .i64))), (1, (.one (.sl (.pair (.int .i64) (.int .i64)) false false))), (5, (.one (.rw 0 0))), (6, (.one (.rw 1 0))), (7, (.one (.si .i64))), (8, (.one (.si .i64))), (9, (.one (.rw 2 0))), (11, (.one (.si .i64)))], [(.row 0 (.list true (.int .i64))), (.row 0 .bool), (.row 0 (.int .i64))]⟩], [], []⟩
noncomputable def F63_L16_step : ((Int × List ((Int × Int)) × Unit × Unit × Int × Int × Unit × Int × Int × Int) × (List (List (Int)) × List (Bool) × List (Int))) → T (((Int × List ((Int × Int)) × Unit × Unit × Int × Int × Unit × Int × Int × Int) × (List (List (Int)) × List (Bool) × List (Int))) ⊕ ((Int × List ((Int × Int)) × Unit × Unit × Int × Int × Unit × Int) × (List (List (Int)) × List (Bool) × List (Int)))) := fun ((n, ds, (), (), a, b, (), at', next, c), (out, seen, piece)) =>
 (.test (decide (c > at'))
 (.sub (F61 (n, (ds, (at', c)))) fun z0 =>
 (.test z0
 (.test (at' != a)
 (.test (decide ((0 = 0) ∧ (out.length = out.length)))
 (.test (decide ((0 = 0) ∧ (seen.length = seen.length)))
 (.test (decide ((0 = 0) ∧ (piece.length = piece.length)))
 (.ret (Sum.inr ((n, (ds, ((), ((), (a, (b, ((), c))))))), (out, (seen, piece)))))
 .fail)
 .fail)
 .fail)
 (.test (c != b)
 (.test (decide ((0 = 0) ∧ (out.length = out.length)))
 (.test (decide ((0 = 0) ∧ (seen.length = seen.length)))
 (.test (decide ((0 = 0) ∧ (piece.length = piece.length)))
 (.ret (Sum.inr ((n, (ds, ((), ((), (a, (b, ((), c))))))), (out, (seen, piece)))))
 .fail)
 .fail)
 .fail)
 (.test (decide ((0 = 0) ∧ (out.length = out.length)))
 (.test (decide ((0 = 0) ∧ (seen.length = seen.length)))
 (.test (decide ((0 = 0) ∧ (piece.length = piece.length)))
 (.ret (Sum.inl ((n, (ds, ((), ((), (a, (b, ((), (at', (next, (w64 (c - 1))))))))))), (out, (seen, piece)))))
 .fail)
 .fail)
 .fail)))
 (.test (decide ((0 = 0) ∧ (out.length = out.length)))
 (.test (decide ((0 = 0) ∧ (seen.length = seen.length)))
 (.test (decide ((0 = 0) ∧ (piece.length = piece.length)))
 (.ret (Sum.inl ((n, (ds, ((), ((), (a, (b, ((), (at', (next, (w64 (c - 1))))))))))), (out, (seen, piece)))))
 .fail)
 .fail)
 .fail)))
 (.test (decide ((0 = 0) ∧ (out.length = out.length)))
 (.test (decide ((0 = 0) ∧ (seen.length = seen.length)))
 (.test (decide ((0 = 0) ∧ (piece.length = piece.length)))
 (.ret (Sum.inr ((n, (ds, ((), ((), (a, (b, ((), next))))))), (out, (seen, piece)))))
 .fail)
 .fail)
 .fail))
noncomputable def F63_L16 (v) := loopO (fun v => (F63_L16_step v).run) v
def F63_L13_sh : LSh := ⟨(fun ex => match ex with | .norm => [(0, none), (1, none), (5, none), (6, none), (7, none), (8, none), (9, none), (10, none)] | .exit i => if i = 4 then [(0, none), (1, none), (5, none), (6, none), (7, none), (8, none), (9, none)] else if i = 3 then [(0, none), (1, none), (5, none), (6, none), (7, none), (8, none)] else if i = 2 then [(0, none), (1, none), (5, none), (6, none), (7, none)] else if i = 1 then [(0, none), (1, none), (5, none), (6, none), (7, none)] else if i = 0 then [(5, none)] else [] | .ret => [(4, none)]), [(0, (.one (.si .i64))), (1, (.one (.sl (.pair (.int .i64) (.int .i64)) false false))), (5, (.one (.rw 0 0))), (6, (.one (.rw 1 0))), (7, (.one (.si .i64))), (8, (.one (.si .i64))), (9, (.one (.rw 2 0))), (10, (.one (.si .i64)))], [(.row 0 (.list true (.int .i64))), (.row 0 .bool), (.row 0 (.int .i64))], [⟨(.exit 4), [(0, (.one (.si .i64))), (1, (.one (.sl (.pair (.int .i64) (.int .i64)) false false))), (5, (.one (.rw 0 0))), (6, (.one (.rw 1 0))), (7, (.one (.si .i64))), (8, (.one (.si .i64))), (9, (.one (.rw 2 0)))], [(.row 0 (.list true (.int .i64))), (.row 0 .bool), (.row 0 (.int .i64))]⟩], [], []⟩
noncomputable def F63_L13_step : ((Int × List ((Int × Int)) × Unit × Unit × Int × Int × Unit × Int) × (List (List (Int)) × List (Bool) × List (Int))) → T (((Int × List ((Int × Int)) × Unit × Unit × Int × Int × Unit × Int) × (List (List (Int)) × List (Bool) × List (Int))) ⊕ ((Int × List ((Int × Int)) × Unit × Unit × Int × Int × Unit) × (List (List (Int)) × List (Bool) × List (Int)))) := fun ((n, ds, (), (), a, b, (), at'), (out, seen, piece)) =>
 (.test (at' != b)
 (.test (decide ((0 = 0) ∧ (out.length = out.length)))
 (.test (decide ((0 = 0) ∧ (seen.length = seen.length)))
 (.test (decide ((0 = 0) ∧ (piece.length = piece.length)))
 (.sub (F63_L16 ((n, (ds, ((), ((), (a, (b, ((), (at', ((w64 (at' + 1)), b))))))))), (out, (seen, piece)))) fun z0 =>
 (.test (decide (1 ≤ (List.length (List.set (List.replicate 1 (0 : Int)) 0 z0.1.2.2.2.2.2.2.2))))
 (.test (decide ((0 + z0.2.2.2.length) ≤ z0.2.2.2.length))
 (.test (decide ((2 * ((z0.2.2.2.length + (List.length (win (List.set (List.replicate 1 (0 : Int)) 0 z0.1.2.2.2.2.2.2.2) 0 1))) * 9)) ≤ 140737488355328))
 (.test (decide ((0 = 0) ∧ (z0.2.1.length = z0.2.1.length)))
 (.test (decide ((0 = 0) ∧ (z0.2.2.1.length = z0.2.2.1.length)))
 (.test (decide ((0 = 0) ∧ ((z0.2.2.2.length + (List.length (win (List.set (List.replicate 1 (0 : Int)) 0 z0.1.2.2.2.2.2.2.2) 0 1))) = (List.length ((win z0.2.2.2 0 z0.2.2.2.length) ++ (win (List.set (List.replicate 1 (0 : Int)) 0 z0.1.2.2.2.2.2.2.2) 0 1))))))
 (.ret (Sum.inl ((z0.1.1, (z0.1.2.1, ((), ((), (z0.1.2.2.2.2.1, (z0.1.2.2.2.2.2.1, ((), z0.1.2.2.2.2.2.2.2))))))), (z0.2.1, (z0.2.2.1, ((win z0.2.2.2 0 z0.2.2.2.length) ++ (win (List.set (List.replicate 1 (0 : Int)) 0 z0.1.2.2.2.2.2.2.2) 0 1)))))))
 .fail)
 .fail)
 .fail)
 .fail)
 .fail)
 .fail))
 .fail)
 .fail)
 .fail)
 (.test (decide ((0 = 0) ∧ (out.length = out.length)))
 (.test (decide ((0 = 0) ∧ (seen.length = seen.length)))
 (.test (decide ((0 = 0) ∧ (piece.length = piece.length)))
 (.ret (Sum.inr ((n, (ds, ((), ((), (a, (b, ())))))), (out, (seen, piece)))))
 .fail)
 .fail)
 .fail))
noncomputable def F63_L13 (v) := loopO (fun v => (F63_L13_step v).run) v
def F63_L7_sh : LSh := ⟨(fun ex => match ex with | .norm => [(0, none), (1, none), (5, none), (6, none), (7, none), (8, none)] | .exit i => if i = 2 then [(0, none), (1, none), (5, none), (6, none), (7, none)] else if i = 1 then [(0, none), (1, none), (5, none), (6, none), (7, none)] else if i = 0 then [(5, none)] else [] | .ret => [(4, none)]), [(0, (.one (.si .i64))), (1, (.one (.sl (.pair (.int .i64) (.int .i64)) false false))), (5, (.one (.rw 0 0))), (6, (.one (.rw 1 0))), (7, (.one (.si .i64))), (8, (.one (.si .i64)))], [(.row 0 (.list true (.int .i64))), (.row 0 .bool)], [⟨(.exit 2), [(0, (.one (.si .i64))), (1, (.one (.sl (.pair (.int .i64) (.int .i64)) false false))), (5, (.one (.rw 0 0))), (6, (.one (.rw 1 0))), (7, (.one (.si .i64)))], [(.row 0 (.list true (.int .i64))), (.row 0 .bool)]⟩], [], []⟩
noncomputable def F63_L7_step : ((Int × List ((Int × Int)) × Unit × Unit × Int × Int) × (List (List (Int)) × List (Bool))) → T (((Int × List ((Int × Int)) × Unit × Unit × Int × Int) × (List (List (Int)) × List (Bool))) ⊕ ((Int × List ((Int × Int)) × Unit × Unit × Int) × (List (List (Int)) × List (Bool)))) := fun ((n, ds, (), (), a, b), (out, seen)) =>
 (.test (decide (b < n))
 (.sub (F61 (n, (ds, (a, b)))) fun z0 =>
 (.test (! z0)
 (.test (decide ((0 = 0) ∧ (out.length = out.length)))
 (.test (decide ((0 = 0) ∧ (seen.length = seen.length)))
 (.ret (Sum.inl ((n, (ds, ((), ((), (a, (w64 (b + 1))))))), (out, seen))))
 .fail)
 .fail)
 (.test ((w64 (b - a)) == 1)
 (.test (decide ((0 = 0) ∧ (out.length = out.length)))
 (.test (decide ((0 = 0) ∧ (seen.length = seen.length)))
 (.ret (Sum.inl ((n, (ds, ((), ((), (a, (w64 (b + 1))))))), (out, seen))))
 .fail)
 .fail)
 (.test (decide ((0 ≤ (w64 ((w64 (a * n)) + b))) ∧ ((w64 ((w64 (a * n)) + b)) < (seen.length : Int))))
 (.sub (seen[(0 + (Int.toNat (w64 ((w64 (a * n)) + b))))]?) fun z1 =>
 (.test z1
 (.test (decide ((0 = 0) ∧ (out.length = out.length)))
 (.test (decide ((0 = 0) ∧ (seen.length = seen.length)))
 (.ret (Sum.inl ((n, (ds, ((), ((), (a, (w64 (b + 1))))))), (out, seen))))
 .fail)
 .fail)
 (.test (decide ((0 ≤ (w64 ((w64 (a * n)) + b))) ∧ ((w64 ((w64 (a * n)) + b)) < (seen.length : Int))))
 (.sub (seen[(0 + (Int.toNat (w64 ((w64 (a * n)) + b))))]?) fun z2 =>
 (.test (decide ((0 = 0) ∧ (out.length = out.length)))
 (.test (decide ((0 = 0) ∧ (seen.length = (List.length (List.set seen (0 + (Int.toNat (w64 ((w64 (a * n)) + b)))) true)))))
 (.test (decide ((0 = 0) ∧ (1 = (List.length (List.set (List.replicate 1 (0 : Int)) 0 a)))))
 (.sub (F63_L13 ((n, (ds, ((), ((), (a, (b, ((), a))))))), (out, ((List.set seen (0 + (Int.toNat (w64 ((w64 (a * n)) + b)))) true), (List.set (List.replicate 1 (0 : Int)) 0 a))))) fun z3 =>
 (.test (decide ((0 + z3.2.2.2.length) ≤ z3.2.2.2.length))
 (.test (decide (1 ≤ (List.length (List.set (List.replicate 1 ([] : List (Int))) 0 (win z3.2.2.2 0 z3.2.2.2.length)))))
 (.test (decide ((0 + z3.2.1.length) ≤ z3.2.1.length))
 (.test (decide ((2 * ((z3.2.1.length + (List.length (win (List.set (List.replicate 1 ([] : List (Int))) 0 (win z3.2.2.2 0 z3.2.2.2.length)) 0 1))) * 25)) ≤ 140737488355328))
 (.test (decide ((0 = 0) ∧ ((z3.2.1.length + (List.length (win (List.set (List.replicate 1 ([] : List (Int))) 0 (win z3.2.2.2 0 z3.2.2.2.length)) 0 1))) = (List.length ((win z3.2.1 0 z3.2.1.length) ++ (win (List.set (List.replicate 1 ([] : List (Int))) 0 (win z3.2.2.2 0 z3.2.2.2.length)) 0 1))))))
 (.test (decide ((0 = 0) ∧ (z3.2.2.1.length = z3.2.2.1.length)))
 (.ret (Sum.inl ((z3.1.1, (z3.1.2.1, ((), ((), (z3.1.2.2.2.2.1, (w64 (z3.1.2.2.2.2.2.1 + 1))))))), (((win z3.2.1 0 z3.2.1.length) ++ (win (List.set (List.replicate 1 ([] : List (Int))) 0 (win z3.2.2.2 0 z3.2.2.2.length)) 0 1)), z3.2.2.1))))
 .fail)
 .fail)
 .fail)
 .fail)
 .fail)
 .fail))
 .fail)
 .fail)
 .fail))
 .fail)))
 .fail))))
 (.test (decide ((0 = 0) ∧ (out.length = out.length)))
 (.test (decide ((0 = 0) ∧ (seen.length = seen.length)))
 (.ret (Sum.inr ((n, (ds, ((), ((), a)))), (out, seen))))
 .fail)
 .fail))
noncomputable def F63_L7 (v) := loopO (fun v => (F63_L7_step v).run) v
def F63_L4_sh : LSh := ⟨(fun ex => match ex with | .norm => [(0, none), (1, none), (5, none), (6, none), (7, none)] | .exit i => if i = 0 then [(5, none)] else [] | .ret => [(4, none)]), [(0, (.one (.si .i64))), (1, (.one (.sl (.pair (.int .i64) (.int .i64)) false false))), (5, (.one (.rw 0 0))), (6, (.one (.rw 1 0))), (7, (.one (.si .i64)))], [(.row 0 (.list true (.int .i64))), (.row 0 .bool)], [⟨(.exit 0), [(5, (.one (.rw 0 0)))], [(.row 0 (.list true (.int .i64)))]⟩], [], []⟩
noncomputable def F63_L4_step : ((Int × List ((Int × Int)) × Unit × Unit × Int) × (List (List (Int)) × List (Bool))) → T (((Int × List ((Int × Int)) × Unit × Unit × Int) × (List (List (Int)) × List (Bool))) ⊕ (Unit × List (List (Int)))) := fun ((n, ds, (), (), a), (out, seen)) =>
 (.test (decide (a < n))
 (.test (decide ((0 = 0) ∧ (out.length = out.length)))
 (.test (decide ((0 = 0) ∧ (seen.length = seen.length)))
 (.sub (F63_L7 ((n, (ds, ((), ((), (a, (w64 (a + 1))))))), (out, seen))) fun z0 =>
 (.test (decide ((0 = 0) ∧ (z0.2.1.length = z0.2.1.length)))
 (.test (decide ((0 = 0) ∧ (z0.2.2.length = z0.2.2.length)))
 (.ret (Sum.inl ((z0.1.1, (z0.1.2.1, ((), ((), (w64 (z0.1.2.2.2.2 + 1)))))), (z0.2.1, z0.2.2))))
 .fail)
 .fail))
 .fail)
 .fail)
 (.test (decide ((0 = 0) ∧ (out.length = out.length)))
 (.ret (Sum.inr ((), out)))
 .fail))
noncomputable def F63_L4 (v) := loopO (fun v => (F63_L4_step v).run) v
def F63_fo : List FO := [⟨[(.one (.rw 0 0))], [(.row 0 (.list true (.int .i64)))]⟩]
noncomputable def F63_t : (Int × List ((Int × Int))) → T (Unit × List (List (Int))) := fun (n, ds) =>
 (.test (decide ((0 ≤ (w64 (n * n))) ∧ (((w64 (n * n)) ≤ (w64 (n * n))) ∧ (((Int.toNat (w64 (n * n))) * 2) ≤ 140737488355328))))
 (.test (decide ((0 = 0) ∧ (0 = (List.length ([] : List (List Int))))))
 (.test (decide ((0 = 0) ∧ ((Int.toNat (w64 (n * n))) = (List.length (List.replicate (Int.toNat (w64 (n * n))) false)))))
 (.sub (F63_L4 ((n, (ds, ((), ((), (0 : Int))))), (([] : List (List Int)), (List.replicate (Int.toNat (w64 (n * n))) false)))) fun z0 =>
 (.test (decide ((0 + z0.2.length) ≤ z0.2.length))
 (.sub (F62 (win z0.2 0 z0.2.length)) fun z1 =>
 (.test (decide ((0 = 0) ∧ (z1.2.length = z1.2.length)))
 (.ret ((), z1.2))
 .fail))
 .fail))
 .fail)
 .fail)
 .fail)
noncomputable def F63 (v) := (F63_t v).run
noncomputable def F63_E : TEnv := ((E0.add1 n_F61 F61_sh F61_fo F61).add1 n_F62 F62_sh F62_fo F62)
theorem F63_Eok : (F63_E).OK := ((E0ok.add1 F61_ok).add1 F62_ok)
noncomputable def F63_told : Nat → Option SealT := fun id => if id = 16 then some (LSh.told F63_L16_sh 0 (F63_L16_step)) else if id = 13 then some (LSh.told F63_L13_sh 0 (F63_L13_step)) else if id = 7 then some (LSh.told F63_L7_sh 0 (F63_L7_step)) else if id = 4 then some (LSh.told F63_L4_sh 0 (F63_L4_step)) else none
theorem F63_L16_ok : ToldOK Tryz.prog 0 (loopAt (bodyOf fn_F63) [0, 0, 0, 0]) (LSh.told F63_L16_sh 0 (F63_L16_step)) :=
 loop_ok (E := F63_E) (F63_Eok) (told := F63_told) (l := F63_L16_sh) (step := F63_L16_step) (loopsOK_of (ls := []) (by kernel_rfl) trivial) (by kernel_rfl) (fun v => by kernel_rfl)
theorem F63_L13_ok : ToldOK Tryz.prog 0 (loopAt (bodyOf fn_F63) [0, 0, 0]) (LSh.told F63_L13_sh 0 (F63_L13_step)) :=
 loop_ok (E := F63_E) (F63_Eok) (told := F63_told) (l := F63_L13_sh) (step := F63_L13_step) (loopsOK_of (ls := [loopAt (bodyOf fn_F63) [0, 0, 0, 0]]) (by kernel_rfl) ⟨.inr ⟨_, by kernel_rfl, F63_L16_ok⟩, trivial⟩) (by kernel_rfl) (fun v => by kernel_rfl)
theorem F63_L7_ok : ToldOK Tryz.prog 0 (loopAt (bodyOf fn_F63) [0, 0]) (LSh.told F63_L7_sh 0 (F63_L7_step)) :=
 loop_ok (E := F63_E) (F63_Eok) (told := F63_told) (l := F63_L7_sh) (step := F63_L7_step) (loopsOK_of (ls := [loopAt (bodyOf fn_F63) [0, 0, 0]]) (by kernel_rfl) ⟨.inr ⟨_, by kernel_rfl, F63_L13_ok⟩, trivial⟩) (by kernel_rfl) (fun v => by kernel_rfl)
theorem F63_L4_ok : ToldOK Tryz.prog 0 (loopAt (bodyOf fn_F63) [0]) (LSh.told F63_L4_sh 0 (F63_L4_step)) :=
 loop_ok (E := F63_E) (F63_Eok) (told := F63_told) (l := F63_L4_sh) (step := F63_L4_step) (loopsOK_of (ls := [loopAt (bodyOf fn_F63) [0, 0]]) (by kernel_rfl) ⟨.inr ⟨_, by kernel_rfl, F63_L7_ok⟩, trivial⟩) (by kernel_rfl) (fun v => by kernel_rfl)
theorem F63_ok : FOK Tryz.prog n_F63 F63_sh F63_fo F63 :=
 fn_ok (E := F63_E) (F63_Eok) (told := F63_told) (fl := []) (c := bodyOf fn_F63) (s := F63_sh) (l := F63_fo) (tree := F63_t) fnat_F63 (by kernel_rfl) (by kernel_rfl) (by kernel_rfl) (loopsOK_of (ls := [loopAt (bodyOf fn_F63) [0]]) (by kernel_rfl) ⟨.inr ⟨_, by kernel_rfl, F63_L4_ok⟩, trivial⟩) (fun v => by kernel_rfl)
theorem F63_L16_eq {N : Nat} {ds : List Dg} (hN : N ≤ 12) (hl : ds.length < 1000000) {a b i c : Int} (ha : 0 ≤ a ∧ a ≤ 12) (hb : 0 ≤ b ∧ b ≤ 12) (h0 : 0 ≤ i) (h1 : i < c) (h2 : c ≤ b) (hj : joinD N ds i c = true) (hne : (i, c) ≠ (a, b))
  (hm : ∀ c', c < c' → c' ≤ b → (i, c') ≠ (a, b) → joinD N ds i c' = false) (next : Int) (out : List (List Int)) (seen : List Bool) (piece : List Int) : ∀ (m : Nat) (t : Int), t = c + (m : Int) → t ≤ b →
  F63_L16 (((N : Int), (ds, ((), ((), (a, (b, ((), (i, (next, t))))))))), (out, (seen, piece))) = some (((N : Int), (ds, ((), ((), (a, (b, ((), c))))))), (out, (seen, piece))) := by
 intro m
 induction m with
 | zero =>
  intro t ht htb
  have e : t = c := by omega
  subst e
  have hjo := F61_eq N ds i t hN (by omega) (by omega) hl
  simp only [F63_L16]
  refine loopO_done ?_
  rw [F63_L16_step, T.run_test, if_pos (decide_eq_true (by omega)), T.run_sub, hjo, Option.bind_some, T.run_test, if_pos hj, T.run_test]
  by_cases c1 : i = a
  ·have c2 : t ≠ b := fun e => hne (by rw [c1, e])
   rw [if_neg (by simp [c1]), T.run_test, if_pos (by simpa using c2), T.run_test, if_pos (by simp), T.run_test, if_pos (by simp), T.run_test, if_pos (by simp), T.run_ret]
  ·rw [if_pos (by simpa using c1), T.run_test, if_pos (by simp), T.run_test, if_pos (by simp), T.run_test, if_pos (by simp), T.run_ret]
 | succ m ih =>
  intro t ht htb
  have w1 : w64 (t - 1) = t - 1 := w64_id (by omega) (by omega)
  have := ih (t - 1) (by omega) (by omega)
  have hjo := F61_eq N ds i t hN (by omega) (by omega) hl
  simp only [F63_L16] at this ⊢
  rw [← this]
  refine loopO_next ?_
  rw [F63_L16_step, T.run_test, if_pos (decide_eq_true (by omega)), T.run_sub, hjo, Option.bind_some, T.run_test, w1]
  by_cases c1 : (i, t) = (a, b)
  ·simp only [Prod.mk.injEq] at c1
   obtain ⟨rfl, rfl⟩ := c1
   cases joinD N ds i t with
   | false => rw [if_neg (by simp), T.run_test, if_pos (by simp), T.run_test, if_pos (by simp), T.run_test, if_pos (by simp), T.run_ret]
   | true => rw [if_pos rfl, T.run_test, if_neg (by simp), T.run_test, if_neg (by simp), T.run_test, if_pos (by simp), T.run_test, if_pos (by simp), T.run_test, if_pos (by simp), T.run_ret]
  ·rw [hm t (by omega) htb c1, if_neg (by simp), T.run_test, if_pos (by simp), T.run_test, if_pos (by simp), T.run_test, if_pos (by simp), T.run_ret]
theorem F63_L13_eq {N : Nat} {ds : List Dg} (h3 : 3 ≤ N) (hN : N ≤ 12) (hl : ds.length < 1000000) (hc : CutD N ds) {a b : Int} (hk : (a, b) ∈ wholeD N :: ds) (out : List (List Int)) (seen : List Bool) : ∀ (m : Nat) (i : Int) (piece : List Int), b - i ≤ (m : Int) → i ∈ pcs N ds (a, b) → piece.length ≤ 20 - m →  m ≤ 20 →
  F63_L13 (((N : Int), (ds, ((), ((), (a, (b, ((), i))))))), (out, (seen, piece))) = some (((N : Int), (ds, ((), ((), (a, (b, ()))))) ), (out, (seen, piece ++ (pcs N ds (a, b)).filter fun v => decide (i < v)))) := by
 have hlow := key_low hc h3 hk
 simp only at hlow
 have stop : ∀ (i : Int) (piece : List Int), i = b → F63_L13 (((N : Int), (ds, ((), ((), (a, (b, ((), i))))))), (out, (seen, piece))) = some (((N : Int), (ds, ((), ((), (a, (b, ()))))) ), (out, (seen, piece ++ (pcs N ds (a, b)).filter fun v => decide (i < v)))) := by
  intro i piece e
  subst e
  have hlast := pcs_last N ds (a, i)
  simp only at hlast
  rw [hlast, List.append_nil]
  simp only [F63_L13]
  refine loopO_done ?_
  rw [F63_L13_step, T.run_test, if_neg (by simp), T.run_test, if_pos (by simp), T.run_test, if_pos (by simp), T.run_test, if_pos (by simp), T.run_ret]
 intro m
 induction m with
 | zero =>
  intro i piece hm hi hp h20
  have := (pcs_mem.1 hi).2.1
  simp only at this
  exact stop i piece (by omega)
 | succ m ih =>
  intro i piece hm hi hp h20
  have hib := (pcs_mem.1 hi).2.1
  simp only at hib
  by_cases e : i = b
  ·exact stop i piece e
  ·obtain ⟨c, c1, c2, c3, c4, c5⟩ := next_exists (n := N) (ds := ds) (k := (a, b)) (i := i) (by simp only; omega) (by simp only; omega)
   simp only at c2
   obtain ⟨g1, g2⟩ := next_corner hc h3 hk hi c1 c2 c3 c4 c5
   have w1 : w64 (i + 1) = i + 1 := w64_id (by omega) (by omega)
   have h16 := F63_L16_eq hN hl (a := a) (b := b) (by omega) (by omega) (by omega) c1 c2 c3 c4 c5 (i + 1) out seen piece (b - c).toNat b (by omega) (Int.le_refl _)
   have := ih c (piece ++ [c]) (by omega) g1 (by rw [List.length_append, List.length_singleton]; omega) (by omega)
   rw [after_corner c1 g1 g2]
   rw [List.append_assoc] at this
   simp only [F63_L13] at this ⊢
   show _ = some (((N : Int), (ds, ((), ((), (a, (b, ()))))) ), (out, (seen, piece ++ ([c] ++ (pcs N ds (a, b)).filter fun v => decide (c < v)))))
   rw [← this]
   refine loopO_next ?_
   rw [F63_L13_step, T.run_test, if_pos (by simpa using e), T.run_test, if_pos (by simp), T.run_test, if_pos (by simp), T.run_test, if_pos (by simp), T.run_sub, w1, h16, Option.bind_some]
   simp only [win_one, win_all]
   rw [T.run_test, if_pos (by simp), T.run_test, if_pos (by simp), T.run_test, if_pos (by exact decide_eq_true (by rw [List.length_singleton]; omega)), T.run_test, if_pos (by simp), T.run_test, if_pos (by simp), T.run_test, if_pos (by simp), T.run_ret]
def SeenOK (N a b : Nat) (seen : List Bool) : Prop := seen.length = N * N ∧ ∀ x y : Nat, x < N → y < N → (a < x ∨ a = x ∧ b ≤ y) → seen[x * N + y]? = some false
theorem seen_idx {N x y : Nat} (hx : x < N) (hy : y < N) : x * N + y < N * N := by
 have := Nat.mul_le_mul_right N (show x + 1 ≤ N from hx)
 rw [Nat.add_mul, Nat.one_mul] at this
 omega
theorem SeenOK.mono {N a b a' b' : Nat} {seen : List Bool} (h : SeenOK N a b seen) (hh : a < a' ∨ a = a' ∧ b ≤ b') : SeenOK N a' b' seen := ⟨h.1, fun x y hx hy hxy => h.2 x y hx hy (by omega)⟩
theorem SeenOK.put {N a b : Nat} {seen : List Bool} (h : SeenOK N a b seen) (hb : b < N) : SeenOK N a (b + 1) (seen.set (a * N + b) true) := by
 refine ⟨by rw [List.length_set]; exact h.1, fun x y hx hy hxy => ?_⟩
 rw [List.getElem?_set_ne]
 ·exact h.2 x y hx hy (by omega)
 ·rcases hxy with g | ⟨rfl, g⟩
  ·have := Nat.mul_le_mul_right N (show a + 1 ≤ x from g)
   rw [Nat.add_mul, Nat.one_mul] at this
   omega
  ·omega
def keysAt (N : Nat) (ds : List Dg) (a b : Nat) : List Dg := (((List.range N).drop b).filter fun b => decide (a + 1 < b) && joinD N ds (a : Int) (b : Int)).map fun (b : Nat) => ((a : Int), (b : Int))
theorem drop_range {N b : Nat} (h : b < N) : (List.range N).drop b = b :: (List.range N).drop (b + 1) := by
 rw [List.drop_eq_getElem_cons (by simpa using h), List.getElem_range]
theorem F63_L7_eq {N : Nat} {ds : List Dg} (h3 : 3 ≤ N) (hN : N ≤ 12) (hl : ds.length < 1000000) (hc : CutD N ds) (a : Nat) (ha : a < N) : ∀ (m b : Nat) (out : List (List Int)) (seen : List Bool), b + m = N → a < b → out.length ≤ a * N + b → SeenOK N a b seen →
  ∃ seen', F63_L7 (((N : Int), (ds, ((), ((), ((a : Int), (b : Int)))))), (out, seen)) = some (((N : Int), (ds, ((), ((), (a : Int))))), (out ++ (keysAt N ds a b).map (pcs N ds), seen')) ∧ SeenOK N (a + 1) 0 seen' ∧ (out ++ (keysAt N ds a b).map (pcs N ds)).length ≤ a * N + N := by
 have haN : a * N ≤ 144 := by have := Nat.mul_le_mul (show a ≤ 12 by omega) hN; omega
 intro m
 induction m with
 | zero =>
  intro b out seen hb hab ho hs
  refine ⟨seen, ?_, hs.mono (by omega), ?_⟩
  ·have e : keysAt N ds a b = [] := by unfold keysAt; rw [List.drop_eq_nil_of_le (by simp; omega)]; rfl
   rw [e]
   simp only [F63_L7]
   refine loopO_done ?_
   rw [F63_L7_step, T.run_test, if_neg (by rw [decide_eq_true_eq]; omega), T.run_test, if_pos (by simp), T.run_test, if_pos (by simp), T.run_ret]
   simp
  ·have e : keysAt N ds a b = [] := by unfold keysAt; rw [List.drop_eq_nil_of_le (by simp; omega)]; rfl
   rw [e]
   simp
   omega
 | succ m ih =>
  intro b out seen hb hab ho hs
  have hbN : b < N := by omega
  have w1 : w64 ((b : Int) + 1) = ((b + 1 : Nat) : Int) := by rw [w64_id (by omega) (by omega)]; omega
  have w2 : w64 ((b : Int) - (a : Int)) = (b : Int) - (a : Int) := w64_id (by omega) (by omega)
  have hjo := F61_eq N ds (a : Int) (b : Int) hN (by omega) (by omega) hl
  have ek : keysAt N ds a b = (if a + 1 < b ∧ joinD N ds (a : Int) (b : Int) = true then [((a : Int), (b : Int))] else []) ++ keysAt N ds a (b + 1) := by
   unfold keysAt
   rw [drop_range hbN, List.filter_cons]
   by_cases c : a + 1 < b ∧ joinD N ds (a : Int) (b : Int) = true
   ·rw [if_pos c, if_pos (by simp [c.1, c.2])]; rfl
   ·rw [if_neg c, if_neg (by simpa using c)]; rfl
  have skip : ¬ (a + 1 < b ∧ joinD N ds (a : Int) (b : Int) = true) → (F63_L7_step (((N : Int), (ds, ((), ((), ((a : Int), (b : Int)))))), (out, seen))).run = some (.inl (((N : Int), (ds, ((), ((), ((a : Int), ((b + 1 : Nat) : Int)))))), (out, seen))) := by
   intro c
   rw [F63_L7_step, T.run_test, if_pos (decide_eq_true (by omega)), T.run_sub, hjo, Option.bind_some, T.run_test, w1]
   cases hj : joinD N ds (a : Int) (b : Int) with
   | false => rw [if_pos (by simp), T.run_test, if_pos (by simp), T.run_test, if_pos (by simp), T.run_ret]
   | true =>
    have : ¬ (a + 1 < b) := fun h => c ⟨h, hj⟩
    rw [if_neg (by simp), T.run_test, w2, if_pos (by simp; omega), T.run_test, if_pos (by simp), T.run_test, if_pos (by simp), T.run_ret]
  by_cases c : a + 1 < b ∧ joinD N ds (a : Int) (b : Int) = true
  ·obtain ⟨c1, hj⟩ := c
   have hk : ((a : Int), (b : Int)) ∈ wholeD N :: ds := by
    rcases joinD_iff.1 hj with g | g | g
    ·omega
    ·exact List.mem_cons.2 (.inl (Prod.ext (by simp only [wholeD]; omega) (by simp only [wholeD]; omega)))
    ·exact List.mem_cons.2 (.inr g)
   have hends := (key_ends hc h3 hk).1
   have hw : w64 (w64 ((a : Int) * (N : Int)) + (b : Int)) = ((a * N + b : Nat) : Int) := by
    rw [← Int.natCast_mul, w64_id (z := ((a * N : Nat) : Int)) (by omega) (by omega), w64_id (by omega) (by omega)]; omega
   have hidx := seen_idx ha hbN
   have hsl := hs.1
   have hg := hs.2 a b ha hbN (by omega)
   have h13 := F63_L13_eq h3 hN hl hc hk out (seen.set (a * N + b) true) 12 (a : Int) [(a : Int)] (by omega) hends (by simp) (by omega)
   have hfirst := pcs_first hc h3 hk
   simp only at hfirst
   rw [show [(a : Int)] ++ (pcs N ds ((a : Int), (b : Int))).filter (fun v => decide ((a : Int) < v)) = pcs N ds ((a : Int), (b : Int)) from hfirst.symm] at h13
   obtain ⟨seen', e1, e2, e3⟩ := ih (b + 1) (out ++ [pcs N ds ((a : Int), (b : Int))]) (seen.set (a * N + b) true) (by omega) (by omega) (by simp; omega) (hs.put hbN)
   refine ⟨seen', ?_, e2, ?_⟩
   ·rw [ek, if_pos ⟨c1, hj⟩, List.map_append, ← List.append_assoc]
    simp only [F63_L7] at e1 ⊢
    rw [show List.map (pcs N ds) [((a : Int), (b : Int))] = [pcs N ds ((a : Int), (b : Int))] from rfl, ← e1]
    refine loopO_next ?_
    rw [F63_L7_step, T.run_test, if_pos (decide_eq_true (by omega)), T.run_sub, hjo, Option.bind_some, T.run_test, hj, if_neg (by simp), T.run_test, w2, if_neg (by simp; omega), T.run_test, hw, if_pos (decide_eq_true (by omega)), T.run_sub, Nat.zero_add, Int.toNat_natCast, hg, Option.bind_some, T.run_test, if_neg (by simp), T.run_test, if_pos (decide_eq_true (by omega)), T.run_sub, Option.bind_some, T.run_test, if_pos (by simp), T.run_test, if_pos (by simp), T.run_test, if_pos (by simp), T.run_sub,
     show (List.replicate 1 (0 : Int)).set 0 (a : Int) = [(a : Int)] from rfl, h13, Option.bind_some]
    simp only [win_one, win_all, w1]
    rw [T.run_test, if_pos (by simp), T.run_test, if_pos (by simp), T.run_test, if_pos (by simp), T.run_test, if_pos (by exact decide_eq_true (by rw [List.length_singleton]; omega)), T.run_test, if_pos (by simp), T.run_test, if_pos (by simp), T.run_ret]
   ·rw [ek, if_pos ⟨c1, hj⟩, List.map_append, ← List.append_assoc]
    exact e3
  ·obtain ⟨seen', e1, e2, e3⟩ := ih (b + 1) out seen (by omega) (by omega) (by omega) (hs.mono (by omega))
   refine ⟨seen', ?_, e2, ?_⟩
   ·rw [ek, if_neg c, List.nil_append]
    simp only [F63_L7] at e1 ⊢
    rw [← e1]
    exact loopO_next (skip c)
   ·rw [ek, if_neg c, List.nil_append]
    exact e3
theorem keysAt_eq (N : Nat) (ds : List Dg) (a : Nat) : keysAt N ds a (a + 1) = keysOf N ds a := by
 have h : ((List.range N).take (a + 1)).filter (fun b => decide (a + 1 < b) && joinD N ds (a : Int) (b : Int)) = [] := by
  rw [List.filter_eq_nil_iff]
  intro x hx
  obtain ⟨i, hi, e⟩ := List.mem_take_iff_getElem.1 hx
  rw [List.getElem_range] at e
  simp; omega
 have h2 := congrArg (List.filter (fun b => decide (a + 1 < b) && joinD N ds (a : Int) (b : Int))) (List.take_append_drop (a + 1) (List.range N))
 rw [List.filter_append, h, List.nil_append] at h2
 unfold keysAt keysOf
 rw [h2]
theorem F63_L4_eq {N : Nat} {ds : List Dg} (h3 : 3 ≤ N) (hN : N ≤ 12) (hl : ds.length < 1000000) (hc : CutD N ds) : ∀ (m a : Nat) (out : List (List Int)) (seen : List Bool), a + m = N → out.length ≤ a * N → SeenOK N a 0 seen →
  F63_L4 (((N : Int), (ds, ((), ((), (a : Int))))), (out, seen)) = some ((), out ++ (((List.range N).drop a).flatMap (keysOf N ds)).map (pcs N ds)) := by
 intro m
 induction m with
 | zero =>
  intro a out seen ha ho hs
  rw [List.drop_eq_nil_of_le (by simp; omega)]
  simp only [F63_L4]
  refine loopO_done ?_
  rw [F63_L4_step, T.run_test, if_neg (by rw [decide_eq_true_eq]; omega), T.run_test, if_pos (by simp), T.run_ret]
  simp
 | succ m ih =>
  intro a out seen ha ho hs
  have haN : a < N := by omega
  have w1 : w64 ((a : Int) + 1) = ((a + 1 : Nat) : Int) := by rw [w64_id (by omega) (by omega)]; omega
  obtain ⟨seen', e1, e2, e3⟩ := F63_L7_eq h3 hN hl hc a haN (N - (a + 1)) (a + 1) out seen (by omega) (by omega) (by omega) (hs.mono (by omega))
  rw [keysAt_eq] at e1 e3
  have := ih (a + 1) _ seen' (by omega) (by rw [Nat.add_mul, Nat.one_mul]; exact e3) e2
  rw [drop_range haN, List.flatMap_cons, List.map_append, ← List.append_assoc]
  simp only [F63_L4] at this ⊢
  rw [← this]
  refine loopO_next ?_
  rw [F63_L4_step, T.run_test, if_pos (decide_eq_true (by omega)), T.run_test, if_pos (by simp), T.run_test, if_pos (by simp), T.run_sub, w1, e1, Option.bind_some, T.run_test, if_pos (by simp), T.run_test, if_pos (by simp), T.run_ret, w1]
theorem specP_len {n : Nat} {ds : List Dg} (h : CutD n ds) (hn : 3 ≤ n) : (specP n ds).length = ds.length + 1 := by
 have := (specP_perm h hn).length_eq
 simpa using this
theorem F63_eq {N : Nat} {ds : List Dg} (h3 : 3 ≤ N) (hN : N ≤ 12) (hl : ds.length ≤ 12) (hc : CutD N ds) : F63 ((N : Int), ds) = some ((), sortL (specP N ds)) := by
 have hNN : N * N ≤ 144 := by have := Nat.mul_le_mul hN hN; omega
 have hw : w64 ((N : Int) * (N : Int)) = ((N * N : Nat) : Int) := by rw [← Int.natCast_mul, w64_id (by omega) (by omega)]
 have h4 := F63_L4_eq h3 hN (by omega) hc N 0 [] (List.replicate (N * N) false) (by omega) (by simp) ⟨by simp, fun x y hx hy _ => by rw [List.getElem?_replicate, if_pos (seen_idx hx hy)]⟩
 rw [List.drop_zero, List.nil_append, Int.natCast_zero] at h4
 change _ = some ((), specP N ds) at h4
 have hsl := specP_len hc h3
 have hs := F62_eq (specP N ds) (by omega) fun p hp => by
  obtain ⟨k, hk, rfl⟩ := List.mem_map.1 ((specP_perm hc h3).mem_iff.1 hp)
  have := pcs_len hc h3 hk
  omega
 rw [F63, F63_t, T.run_test, hw, if_pos (decide_eq_true (by omega)), T.run_test, if_pos (by simp), T.run_test, if_pos (by simp), T.run_sub, Int.toNat_natCast, h4, Option.bind_some, T.run_test, if_pos (by simp), T.run_sub, win_all, hs, Option.bind_some, T.run_test, if_pos (by simp), T.run_ret]
def F92_sh : FSh := ⟨[(.one (.si .i64)), (.one (.sl (.pair (.int .i64) (.int .i64)) false false))], []⟩
def F92_L3_sh : LSh := ⟨(fun ex => match ex with | .norm => [(5, none), (11, none), (12, none), (13, none)] | .exit i => if i = 0 then [(5, none)] else [] | .ret => [(4, none)]), [(5, (.one (.rw 0 0))), (11, (.one (.rw 1 0))), (12, (.one (.si .i64))), (13, (.one (.si .i64)))], [(.row 0 (.int .i64)), (.row 0 (.list true (.int .i64)))], [⟨(.exit 0), [(5, (.one (.rw 0 0)))], [(.row 0 (.int .i64))]⟩], [], []⟩
noncomputable def F92_L3_step : ((Unit × Unit × Int × Int) × (List (Int) × List (List (Int)))) → T (((Unit × Unit × Int × Int) × (List (Int) × List (List (Int)))) ⊕ (Unit × List (Int))) := fun (((), (), t12, t13), (out, t11)) =>
 (.test (decide (t13 < t12))
 (.test (decide ((0 ≤ t13) ∧ (t13 < (t11.length : Int))))
 (.sub (t11[(0 + (Int.toNat t13))]?) fun z0 =>
 (.test (decide (1 ≤ (List.length (List.set (List.replicate 1 (0 : Int)) 0 (z0.length : Int)))))
 (.test (decide ((0 + out.length) ≤ out.length))
 (.test (decide ((2 * ((out.length + (List.length (win (List.set (List.replicate 1 (0 : Int)) 0 (z0.length : Int)) 0 1))) * 9)) ≤ 140737488355328))
 (.test (decide ((0 = 0) ∧ ((out.length + (List.length (win (List.set (List.replicate 1 (0 : Int)) 0 (z0.length : Int)) 0 1))) = (List.length ((win out 0 out.length) ++ (win (List.set (List.replicate 1 (0 : Int)) 0 (z0.length : Int)) 0 1))))))
 (.test (decide ((0 = 0) ∧ (t11.length = t11.length)))
 (.ret (Sum.inl (((), ((), (t12, (w64 (t13 + 1))))), (((win out 0 out.length) ++ (win (List.set (List.replicate 1 (0 : Int)) 0 (z0.length : Int)) 0 1)), t11))))
 .fail)
 .fail)
 .fail)
 .fail)
 .fail))
 .fail)
 (.test (decide ((0 = 0) ∧ (out.length = out.length)))
 (.ret (Sum.inr ((), out)))
 .fail))
noncomputable def F92_L3 (v) := loopO (fun v => (F92_L3_step v).run) v
def F92_fo : List FO := [⟨[(.one (.rw 0 0))], [(.row 0 (.int .i64))]⟩]
noncomputable def F92_t : (Int × List ((Int × Int))) → T (Unit × List (Int)) := fun (n, ds) =>
 (.sub (F78 (n, ds)) fun z0 =>
 (.test (decide ((0 = 0) ∧ (0 = (List.length (List.replicate 0 (0 : Int))))))
 (.test (decide ((0 = 0) ∧ (z0.2.length = z0.2.length)))
 (.sub (F92_L3 (((), ((), ((z0.2.length : Int), (0 : Int)))), ((List.replicate 0 (0 : Int)), z0.2))) fun z1 =>
 (.test (decide ((0 = 0) ∧ (z1.2.length = z1.2.length)))
 (.sub (F28 ((), z1.2)) fun z2 =>
 (.test (decide ((0 = 0) ∧ (z1.2.length = z2.2.length)))
 (.ret ((), z2.2))
 .fail))
 .fail))
 .fail)
 .fail))
noncomputable def F92 (v) := (F92_t v).run
noncomputable def F92_E : TEnv := ((E0.add1 n_F78 F78_sh F78_fo F78).add1 n_F28 F28_sh F28_fo F28)
theorem F92_Eok : (F92_E).OK := ((E0ok.add1 F78_ok).add1 F28_ok)
noncomputable def F92_told : Nat → Option SealT := fun id => if id = 3 then some (LSh.told F92_L3_sh 0 (F92_L3_step)) else none
theorem F92_L3_ok : ToldOK Tryz.prog 0 (loopAt (bodyOf fn_F92) [0]) (LSh.told F92_L3_sh 0 (F92_L3_step)) :=
 loop_ok (E := F92_E) (F92_Eok) (told := F92_told) (l := F92_L3_sh) (step := F92_L3_step) (loopsOK_of (ls := []) (by kernel_rfl) trivial) (by kernel_rfl) (fun v => by kernel_rfl)
theorem F92_ok : FOK Tryz.prog n_F92 F92_sh F92_fo F92 :=
 fn_ok (E := F92_E) (F92_Eok) (told := F92_told) (fl := []) (c := bodyOf fn_F92) (s := F92_sh) (l := F92_fo) (tree := F92_t) fnat_F92 (by kernel_rfl) (by kernel_rfl) (by kernel_rfl) (loopsOK_of (ls := [loopAt (bodyOf fn_F92) [0]]) (by kernel_rfl) ⟨.inr ⟨_, by kernel_rfl, F92_L3_ok⟩, trivial⟩) (fun v => by kernel_rfl)
def szL (N : Nat) (ds : List Dg) : List Int := (sortL (specP N ds)).map fun p => (p.length : Int)
theorem szL_mem {N : Nat} {ds : List Dg} (hc : CutD N ds) (h3 : 3 ≤ N) {s : Int} (h : s ∈ szL N ds) : 3 ≤ s ∧ s ≤ (N : Int) := by
 obtain ⟨p, hp, rfl⟩ := List.mem_map.1 h
 obtain ⟨k, hk, rfl⟩ := List.mem_map.1 (((sortL_perm _).trans (specP_perm hc h3)).mem_iff.1 hp)
 have := pcs_len hc h3 hk
 omega
theorem sortP_len {N : Nat} {ds : List Dg} (hc : CutD N ds) (h3 : 3 ≤ N) : (sortL (specP N ds)).length = ds.length + 1 := by
 rw [(sortL_perm _).length_eq, specP_len hc h3]
theorem szL_len {N : Nat} {ds : List Dg} (hc : CutD N ds) (h3 : 3 ≤ N) : (szL N ds).length = ds.length + 1 := by
 unfold szL; rw [List.length_map, sortP_len hc h3]
theorem F92_L3_eq (t11 : List (List Int)) (hl : t11.length ≤ 20) (hb : ∀ p ∈ t11, p.length ≤ 100) : ∀ (m k : Nat) (out : List Int), k + m = t11.length → out.length = k →
  F92_L3 (((), ((), ((t11.length : Int), (k : Int)))), (out, t11)) = some ((), out ++ (t11.drop k).map fun p => (p.length : Int)) := by
 intro m
 induction m with
 | zero =>
  intro k out hk ho
  rw [List.drop_eq_nil_of_le (by omega)]
  simp only [F92_L3]
  refine loopO_done ?_
  rw [F92_L3_step, T.run_test, if_neg (by rw [decide_eq_true_eq]; omega), T.run_test, if_pos (by simp), T.run_ret]
  simp
 | succ m ih =>
  intro k out hk ho
  have hlt : k < t11.length := by omega
  have w1 : w64 ((k : Int) + 1) = ((k + 1 : Nat) : Int) := by rw [w64_id (by omega) (by omega)]; omega
  have := ih (k + 1) (out ++ [(t11[k].length : Int)]) (by omega) (by rw [List.length_append, List.length_singleton]; omega)
  rw [List.drop_eq_getElem_cons hlt, List.map_cons, List.append_cons]
  simp only [F92_L3] at this ⊢
  rw [← this]
  refine loopO_next ?_
  rw [F92_L3_step, T.run_test, if_pos (decide_eq_true (by omega)), T.run_test, if_pos (decide_eq_true (by omega)), T.run_sub, Nat.zero_add, Int.toNat_natCast, List.getElem?_eq_getElem hlt, Option.bind_some]
  simp only [win_one, win_all]
  rw [T.run_test, if_pos (by simp), T.run_test, if_pos (by simp), T.run_test, if_pos (by exact decide_eq_true (by rw [List.length_singleton]; omega)), T.run_test, if_pos (by simp), T.run_test, if_pos (by simp), T.run_ret, w1]
theorem F92_eq {N : Nat} {ds : List Dg} (h3 : 3 ≤ N) (hN : N ≤ 12) (hl : ds.length + 3 ≤ N) (hc : CutD N ds) : F92 ((N : Int), ds) = some ((), sortI (szL N ds)) := by
 have hp := F78_eq h3 hN (by omega) hc
 have hlen := sortP_len hc h3
 have hL := F92_L3_eq (sortL (specP N ds)) (by omega) (fun p hp => by
  have := szL_mem hc h3 (s := (p.length : Int)) (List.mem_map_of_mem hp)
  omega) (sortL (specP N ds)).length 0 [] (by omega) rfl
 rw [Int.natCast_zero, List.drop_zero, List.nil_append] at hL
 change _ = some ((), szL N ds) at hL
 have hs := F28_eq (szL N ds) (by rw [szL_len hc h3]; omega)
 rw [F92, F92_t, T.run_sub, hp, Option.bind_some, T.run_test, if_pos (by simp), T.run_test, if_pos (by simp), T.run_sub, show List.replicate 0 (0 : Int) = [] from rfl, hL, Option.bind_some, T.run_test, if_pos (by simp), T.run_sub, hs, Option.bind_some, T.run_test, if_pos (by exact decide_eq_true ⟨rfl, (sortI_perm _).length_eq.symm⟩), T.run_ret]
theorem len_split {p : List Int} (hs : p.Pairwise (· < ·)) {a b : Int} (ha : a ∈ p) (hb : b ∈ p) (hab : a < b) : (p.filter fun v => decide (v ≤ a ∨ b ≤ v)).length + (p.filter fun v => decide (a ≤ v ∧ v ≤ b)).length = p.length + 2 := by
 obtain ⟨A, R, rfl⟩ := List.append_of_mem ha
 obtain ⟨hA, hR, hAR⟩ := List.pairwise_append.1 hs
 have hbR : b ∈ R := by
  rcases List.mem_append.1 hb with h | h
  ·have := hAR b h a (by simp); omega
  ·rcases List.mem_cons.1 h with h | h
   ·omega
   ·exact h
 obtain ⟨B, C, rfl⟩ := List.append_of_mem hbR
 have hR' := List.pairwise_cons.1 hR
 obtain ⟨hB, hC, hBC⟩ := List.pairwise_append.1 hR'.2
 have hC' := List.pairwise_cons.1 hC
 have a1 : ∀ x ∈ A, x < a := fun x hx => hAR x hx a (by simp)
 have b1 : ∀ x ∈ B, a < x ∧ x < b := fun x hx => ⟨hR'.1 x (by simp [hx]), hBC x hx b (by simp)⟩
 have c1 : ∀ x ∈ C, b < x := fun x hx => hC'.1 x hx
 have fA1 : (A.filter fun v => decide (v ≤ a ∨ b ≤ v)) = A := List.filter_eq_self.2 fun x hx => by have := a1 x hx; simp; omega
 have fA2 : (A.filter fun v => decide (a ≤ v ∧ v ≤ b)) = [] := List.filter_eq_nil_iff.2 fun x hx => by have := a1 x hx; simp; omega
 have fB1 : (B.filter fun v => decide (v ≤ a ∨ b ≤ v)) = [] := List.filter_eq_nil_iff.2 fun x hx => by have := b1 x hx; simp; omega
 have fB2 : (B.filter fun v => decide (a ≤ v ∧ v ≤ b)) = B := List.filter_eq_self.2 fun x hx => by have := b1 x hx; simp; omega
 have fC1 : (C.filter fun v => decide (v ≤ a ∨ b ≤ v)) = C := List.filter_eq_self.2 fun x hx => by have := c1 x hx; simp; omega
 have fC2 : (C.filter fun v => decide (a ≤ v ∧ v ≤ b)) = [] := List.filter_eq_nil_iff.2 fun x hx => by have := c1 x hx; simp; omega
 simp only [List.filter_append, List.filter_cons, fA1, fA2, fB1, fB2, fC1, fC2, List.length_append]
 rw [if_pos (by simp), if_pos (by simp), if_pos (by simp; omega), if_pos (by simp; omega)]
 simp only [List.length_cons, List.length_append, List.length_nil]
 omega
theorem implP_snoc (n : Nat) (ds : List Dg) (d : Dg) : implP n (ds ++ [d]) = splitD d (implP n ds) := by simp [implP, List.foldl_append]
theorem implP_sum (n : Nat) (hn : 3 ≤ n) : ∀ (m : Nat) (ds : List Dg), ds.length = m → CutD n ds → ((implP n ds).map List.length).sum = n + 2 * ds.length
 | 0, ds, hm, _ => by
  obtain rfl := List.eq_nil_of_length_eq_zero hm
  simp [implP, nameL_length]
 | m + 1, ds, hm, h => by
  rcases List.eq_nil_or_concat ds with rfl | ⟨es, d, rfl⟩
  ·simp at hm
  ·rw [List.concat_eq_append] at h hm ⊢
   have hes := h.front
   have ih := implP_sum n hn m es (by simpa using hm) hes
   obtain ⟨k, hk⟩ := more_exists h
   have hp := implP_perm n hn es hes
   have hmem : pcs n es k ∈ implP n es := hp.mem_iff.2 (List.mem_map_of_mem hk.key)
   obtain ⟨l, p, r, e1, e2, e3, e4⟩ := splitD_at d (implP n es) ⟨_, hmem, hk.lo, hk.hi⟩
   have hpm : p ∈ implP n es := by rw [e1]; simp
   obtain ⟨k', _, hk'⟩ := List.mem_map.1 (hp.mem_iff.1 hpm)
   have hsort : p.Pairwise (· < ·) := by rw [← hk']; exact pcs_sorted _ _ _
   have hd := h.1 d (by simp)
   have hl := len_split hsort e2 e3 (by omega)
   rw [implP_snoc, e4]
   rw [e1] at ih
   simp only [List.map_append, List.map_cons, List.map_nil, List.sum_append, List.sum_cons, List.sum_nil, List.length_append, List.length_cons, List.length_nil] at ih ⊢
   omega
theorem szL_sum {n : Nat} {ds : List Dg} (h : CutD n ds) (hn : 3 ≤ n) : (szL n ds).sum = (n : Int) + 2 * (ds.length : Int) := by
 have h1 := implP_sum n hn ds.length ds rfl h
 have hp : (sortL (specP n ds)).Perm (implP n ds) := (sortL_perm _).trans (pieces_same hn h).symm
 have cast : ∀ l : List (List Int), (l.map fun p => (p.length : Int)).sum = ((l.map List.length).sum : Nat) := by
  intro l
  induction l with
  | nil => rfl
  | cons a t ih => rw [List.map_cons, List.map_cons, List.sum_cons, List.sum_cons, ih]; omega
 unfold szL
 rw [cast, (hp.map List.length).sum_nat, h1]
 omega
end Go.Proofs.W
